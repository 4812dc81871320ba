/- What functions of the program answer. Proved in this text: its theorems. Conditions: as each theorem states them. -/
import Derived.Test.YtgmfaleamhpfjaaDoorCFnPuzzlesSievedP
import Derived.Test.YtgmfaleamhpfjaaDoorCFnPuzzlesSievedF0
namespace Go.Proofs.YtgmfaleamhpfjaaDoor.P
open Go.RowKit Go.Proofs.YtgmfaleamhpfjaaDoorW.PrintWords Go.Proofs.YtgmfaleamhpfjaaDoorW.PrintLast Go.Proofs.YtgmfaleamhpfjaaDoorW.PrintMore
attribute [local go_sem] max2_int min2_int max_two min_two max_three min_three max_four min_four
set_option linter.unusedVariables false
set_option linter.unusedSimpArgs false
def PredR (g : Nat) (lb : Array Value) (p : SRule → Bool) (l : List SRule) (w : World) : Prop :=
  ∀ (W : World) (x : SRule), x ∈ l → Below w.heap.size w W → Calls Tryd.prog g (#[.agg #[.int .i64 x.f0, .int .i64 x.f1]] ++ lb) W fun e w' => e = .returned (.bool (p x)) ∧ Below w.heap.size w w'
def firstIx (p : SRule → Bool) : List SRule → Int → Int
  | [], _ => -1
  | x :: l, i => if p x = true then i else firstIx p l (i + 1)
theorem drop_rd (l : List SRule) (k : Nat) (h : k < l.length) : l.drop k = rd_Rule l k :: l.drop (k + 1) := by
  rw [List.drop_eq_getElem_cons h]
  simp [rd_Rule, List.getD, h]
theorem rd_mem (l : List SRule) (k : Nat) (h : k < l.length) : rd_Rule l k ∈ l := by
  simp [rd_Rule, List.getD, h]
theorem firstIx_hit {p : SRule → Bool} {l : List SRule} {k : Nat} (h : k < l.length) (hp : p (rd_Rule l k) = true) : firstIx p (l.drop k) k = k := by
  rw [drop_rd l k h, firstIx, if_pos hp]
theorem firstIx_next {p : SRule → Bool} {l : List SRule} {k : Nat} (h : k < l.length) (hp : p (rd_Rule l k) = false) : firstIx p (l.drop k) k = firstIx p (l.drop (k + 1)) ((k + 1 : Nat) : Int) := by
  rw [drop_rd l k h, firstIx, if_neg (by simp [hp])]; rfl
theorem firstIx_end {p : SRule → Bool} {l : List SRule} {k : Nat} (h : l.length ≤ k) : firstIx p (l.drop k) k = -1 := by
  rw [List.drop_eq_nil_of_le h]; rfl
set_option maxHeartbeats 2000000 in
set_option maxRecDepth 100000 in
theorem ixf_calls (p : SRule → Bool) (g : Nat) (lb : Array Value) (eg : ∀ args w, (callFunc g args).run Tryd.prog w = .ok (.enter g args) w)
    (A0 : Option Addr) (c0 : Nat) (l0 : List SRule) (w : World) (hp : PredR g lb p l0 w) (hr0 : Kd.C kRule w A0 l0.length l0) :
    Calls Tryd.prog 79 #[.slice A0 l0.length c0, .func (.func g) #[] lb] w fun e w' => e = .returned (.int .i64 (firstIx p l0 0)) ∧ Below w.heap.size w w' := by
  have hu := Tryd.underlying61
  have hm : l0.length ≤ 9223372036854775807 := Kd.C_max hr0
  have HR0 := Aside0.mk hr0
  have HP := Aside0.mk hp
  clear hr0 hp
  have HB := Aside0.mk (Below.refl w.heap.size w)
  have H0 := Aside0.mk (show firstIx p l0 0 = firstIx p (l0.drop 0) ((0 : Nat) : Int) from rfl)
  go_enter Tryd.func79, Tryd.ntmps79
  go_wp2
  go_loopg [5, 8] l0.length (fun gg _ s8 wr => ∃ kk : Nat, kk ≤ l0.length ∧ l0.length - kk ≤ gg ∧ s8 = .int .i64 kk ∧ Aside0 (Below w.heap.size w wr) ∧ Aside0 (firstIx p l0 0 = firstIx p (l0.drop kk) kk))
  case atStart => exact ⟨0, Nat.zero_le _, by omega, rfl, HB, H0⟩
  case round =>
    clear HB H0
    obtain ⟨kk, hkk, hg, rfl, HB, HI⟩ := hrel
    by_cases hlt : kk < l0.length
    · have hltz : (kk : Int) < (l0.length : Int) := by omega
      obtain ⟨ad, e, hx0, hx1⟩ := at_Rule HR0.out (kk : Int) (by omega) hltz
      cases e
      replace hx0 := (HB.out.cell (World.block_lt_of_cell? w _ hx0)).trans hx0
      replace hx1 := (HB.out.cell (World.block_lt_of_cell? w _ hx1)).trans hx1
      simp only [Int.toNat_natCast] at hx0 hx1
      have hcall := HP.out wr (rd_Rule l0 (kk : Int)) (rd_mem l0 kk hlt) HB.out
      cases hq : p (rd_Rule l0 (kk : Int)) with
      | true =>
        rw [hq] at hcall
        have HQ := Aside0.mk (firstIx_hit hlt hq)
        clear hq
        go_wp2_with (go_at_fn g; refine hcall.mono ?_; rintro e w' ⟨rfl, hb'⟩)
        go_ret
        exact ⟨by rw [HI.out, HQ.out]; rfl, hb'⟩
      | false =>
        rw [hq] at hcall
        have HQ := Aside0.mk (firstIx_next hlt hq)
        clear hq
        go_wp2_with (go_at_fn g; refine hcall.mono ?_; rintro e w' ⟨rfl, hb'⟩)
        go_roundg (l0.length - (kk + 1))
        case measure => omega
        case rel => exact ⟨kk + 1, by omega, by omega, by go_num, ⟨hb'⟩, ⟨by rw [HI.out, HQ.out]⟩⟩
    · have hltz : ¬ (kk : Int) < (l0.length : Int) := by omega
      have HQ := Aside0.mk (firstIx_end (p := p) (l := l0) (k := kk) (by omega))
      go_wp2
      go_ret
      exact ⟨by rw [HI.out, HQ.out]; rfl, HB.out⟩
theorem infoE_Rule : (Tryd.prog.info? 61).map (fun i => (i.zero, i.size, i.bytes)) = some (some (.agg #[(.int .i64 0), (.int .i64 0)]), 2, 16) := by kernel_rfl
def PzPost (w0 w : World) (vo v : Value) (o : List (List SRule)) (W : World) : Prop :=
  Kd.S (Kd.slice 61 kRule) 47 W w0.heap.size (fun _ => True) v o ∧ Below w0.heap.size w0 W ∧ w.grownBy W vo.ownBlock ∧ (v.ownBlock = vo.ownBlock ∨ ∃ b, v.ownBlock = some b ∧ w.heap.size ≤ b)
theorem grown_trans {w w1 w2 : World} {r r' : Option Nat} (h : w.grownBy w1 r) (h2 : w1.grownBy w2 r') (hr : r' = r ∨ ∃ b, r' = some b ∧ w.heap.size ≤ b) : w.grownBy w2 r :=
  ⟨h2.os.trans h.os, h2.tape.trans h.tape, h2.output.trans h.output, Nat.le_trans h.size h2.size, fun k hk hne => (h2.block k (Nat.lt_of_lt_of_le hk h.size) (fun e => by
    rcases hr with hr | ⟨b, hr, hb⟩
    · exact hne (e.trans hr)
    · rw [hr] at e; injection e with e; omega)).trans (h.block k hk hne)⟩
theorem below_grown_ {w w1 w2 : World} {r : Option Nat} (h : Below w.heap.size w w1) (h2 : w1.grownBy w2 r) : w.grownBy w2 r := grown_trans (grown_of_below h r) h2 (.inl rfl)
theorem PzPost.refl {w0 w : World} {v : Value} {o : List (List SRule)} (hS : Kd.S (Kd.slice 61 kRule) 47 w w0.heap.size (fun _ => True) v o) (hB : Below w0.heap.size w0 w) : PzPost w0 w v v o w :=
  ⟨hS, hB, grown_of_below (Below.refl _ _) _, .inl rfl⟩
theorem PzPost.below {w0 w : World} {vo v : Value} {o : List (List SRule)} {W W1 : World} (h : PzPost w0 w vo v o W) (hb : Below W.heap.size W W1) : PzPost w0 w vo v o W1 :=
  ⟨Kd.S_below h.1 hb, below_step h.2.1 hb, grown_trans h.2.2.1 (grown_of_below hb vo.ownBlock) (.inl rfl), h.2.2.2⟩
theorem PzPost.trans {w0 w : World} {vo v v1 : Value} {o o1 : List (List SRule)} {W W1 : World} (h : PzPost w0 w vo v o W) (h2 : PzPost w0 W v v1 o1 W1) : PzPost w0 w vo v1 o1 W1 := by
  refine ⟨h2.1, h2.2.1, grown_trans h.2.2.1 h2.2.2.1 h.2.2.2, ?_⟩
  rcases h2.2.2.2 with e | ⟨b, e, hb⟩
  · rw [e]; exact h.2.2.2
  · exact .inr ⟨b, e, Nat.le_trans h.2.2.1.size hb⟩
def fIx {α : Type} (p : α → Bool) : List α → Int → Int
  | [], _ => -1
  | x :: l, i => if p x = true then i else fIx p l (i + 1)
theorem firstIx_fIx (p : SRule → Bool) : ∀ (l : List SRule) (i : Int), firstIx p l i = fIx p l i
  | [], _ => rfl
  | x :: l, i => by rw [firstIx, fIx, firstIx_fIx p l (i + 1)]
theorem fIx_spec {α : Type} (p : α → Bool) : ∀ (l : List α) (i : Int), (fIx p l i = -1 ∧ l.filter (fun x => !p x) = l) ∨ ∃ k : Nat, k < l.length ∧ fIx p l i = i + k ∧ (l.take (k + 1)).filter (fun x => !p x) = l.take k
  | [], i => .inl ⟨rfl, rfl⟩
  | x :: l, i => by
    by_cases h : p x = true
    · exact .inr ⟨0, by simp, by simp [fIx, h], by simp [h]⟩
    · have hb : (!p x) = true := by simpa using h
      rcases fIx_spec p l (i + 1) with ⟨e, f⟩ | ⟨k, hk, e, f⟩
      · exact .inl ⟨by rw [fIx, if_neg h, e], by rw [List.filter_cons, if_pos hb, f]⟩
      · refine .inr ⟨k + 1, by simpa using hk, by rw [fIx, if_neg h, e]; omega, ?_⟩
        rw [List.take_succ_cons, List.filter_cons, if_pos hb, f, List.take_succ_cons]
structure KI {α : Type} (q : α → Bool) (xs ys : List α) (i j : Nat) : Prop where
  len : ys.length = xs.length
  lt : i < j
  le : j ≤ xs.length
  cnt : ((xs.take j).filter q).length = i
  low : ys.take i = (xs.take j).filter q
  high : ys.drop j = xs.drop j
theorem KI.start {α : Type} {q : α → Bool} {xs : List α} {k : Nat} (hk : k < xs.length) (h : (xs.take (k + 1)).filter q = xs.take k) : KI q xs xs k (k + 1) :=
  ⟨rfl, Nat.lt_succ_self _, hk, by rw [h, List.length_take]; omega, h.symm, rfl⟩
theorem KI.read {α : Type} {q : α → Bool} {xs ys : List α} {i j : Nat} (h : KI q xs ys i j) : ys[j]? = xs[j]? := by
  have h1 := congrArg (fun l => l[0]?) h.high
  simpa using h1
theorem KI.keep {α : Type} {q : α → Bool} {xs ys : List α} {i j : Nat} {x : α} (h : KI q xs ys i j) (hj : j < xs.length) (hx : xs[j]? = some x) (hq : q x = true) : KI q xs (ys.set i x) (i + 1) (j + 1) := by
  have e : xs.take (j + 1) = xs.take j ++ [x] := by rw [List.take_add_one, hx]; rfl
  have e2 : (xs.take (j + 1)).filter q = (xs.take j).filter q ++ [x] := by rw [e, List.filter_append, List.filter_cons, if_pos hq, List.filter_nil]
  have hi : i < ys.length := by have := h.lt; have := h.len; omega
  refine ⟨by simpa using h.len, by have := h.lt; omega, hj, by rw [e2, List.length_append, h.cnt]; rfl, ?_, ?_⟩
  · rw [e2, ← h.low, List.take_succ_eq_append_getElem (by simpa using hi)]
    simp only [List.take_set, List.getElem_set_self]
    rw [List.set_eq_of_length_le (by simp; omega)]
  · rw [List.drop_set_of_lt (by have := h.lt; omega), ← List.drop_drop, h.high, List.drop_drop]
theorem KI.skip {α : Type} {q : α → Bool} {xs ys : List α} {i j : Nat} {x : α} (h : KI q xs ys i j) (hj : j < xs.length) (hx : xs[j]? = some x) (hq : q x = false) : KI q xs ys i (j + 1) := by
  have e : xs.take (j + 1) = xs.take j ++ [x] := by rw [List.take_add_one, hx]; rfl
  have e2 : (xs.take (j + 1)).filter q = (xs.take j).filter q := by rw [e, List.filter_append, List.filter_cons, if_neg (by simp [hq]), List.filter_nil, List.append_nil]
  refine ⟨h.len, by have := h.lt; omega, hj, by rw [e2]; exact h.cnt, by rw [e2]; exact h.low, ?_⟩
  rw [← List.drop_drop, h.high, List.drop_drop]
theorem KI.done {α : Type} {q : α → Bool} {xs ys : List α} {i : Nat} (h : KI q xs ys i xs.length) : ys.take i = xs.filter q ∧ i = (xs.filter q).length := by
  have h1 := h.low
  have h2 := h.cnt
  rw [List.take_length] at h1 h2
  exact ⟨h1, h2.symm⟩
theorem clear_cells {P : Program} {n : Nat} (w : World) (t e ty : TypeId) (z : Value) (ht : P.underlying t = some (.slice e)) (hv : ∀ w, (zeroValue e).run P w = .ok z w) (hz : ∀ u ∈ (Builtin.zeroCells z.cells n).toList, u.oneCell' = true) (b o c : Nat) (hn : 0 < n) (hne : 0 < z.cells.size)
    (hc : ∀ j, j < n * z.cells.size → (w.cell? ⟨b, o + j, none⟩).isSome = true) (hf : ∀ j, j < n * z.cells.size → w.frozen? ⟨b, o + j, none⟩ = false) :
    (Builtin.clear_ #[t] ty #[.slice (some ⟨b, o, none⟩) n c]).run P w = .ok (.tuple #[]) (w.setCells b o (Builtin.zeroCells z.cells n).toList) := by
  have hl : (Builtin.zeroCells z.cells n).toList.length = n * z.cells.size := by simp [Builtin.zeroCells]
  have hst := run_storeCells_cells (P := P) b o (Builtin.zeroCells z.cells n).toList 0 w (by rw [hl]; simpa using hc) (by rw [hl]; simpa using hf) hz
  simp only [Nat.add_zero] at hst
  obtain ⟨m, rfl⟩ : ∃ m, n = m + 1 := ⟨n - 1, by omega⟩
  simp [Builtin.clear_, run_underlying ht, hv, hst]
theorem heap_setCells (b : Nat) : ∀ (vs : List Value) (o : Nat) (w : World) (cur : Array Value) (e : TypeId) (fr : Nat × Nat), w.heap[b]? = some (.cells cur e fr) → ∃ cur', (w.setCells b o vs).heap[b]? = some (.cells cur' e fr) ∧ cur'.size = cur.size ∧ ∀ j, j < o → cur'[j]? = cur[j]?
  | [], _, _, cur, _, _, h => ⟨cur, h, rfl, fun _ _ => rfl⟩
  | v :: r, o, w, cur, e, fr, h => by
    have h1 : (w.setCell ⟨b, o, none⟩ v).heap[b]? = some (.cells (cur.setIfInBounds o v) e fr) := by simp [World.setCell, Array.getElem?_modify, h]
    obtain ⟨cur', h2, h3, h4⟩ := heap_setCells b r (o + 1) _ _ _ _ h1
    refine ⟨cur', h2, by simpa using h3, fun j hj => ?_⟩
    rw [h4 j (by omega), Array.getElem?_setIfInBounds, if_neg (by omega)]
theorem R_clear {α : Type} {d : Kd α} {e base g n c : Nat} {ok : Nat → Prop} {w : World} {xs : List α} (h : d.R e w base ok (.slice (some ⟨g, 0, none⟩) n c) xs) (o : Nat) (vs : List Value) (ho : xs.length * d.sz ≤ o) : d.R e (w.setCells g o vs) base ok (.slice (some ⟨g, 0, none⟩) n c) xs := by
  obtain ⟨h0, inner, hown, hr⟩ := h
  refine ⟨h0, inner, ⟨hown.1, ?_⟩, hr.imp_ (fun p cs hp => d.M_move (fun k hk => setCells_far vs o k (fun e_ => hk.2 (by rw [e_]; rfl))) hp)⟩
  rcases hown.2 with ⟨hv, _⟩ | ⟨g', cap, cur, hv, hb, hh, hnc, hcm, hcs, ht⟩
  · cases hv
  · injection hv with ha hn hc
    injection ha with ha
    injection ha with hg
    subst hg; subst hc
    obtain ⟨cur', h2, h3, h4⟩ := heap_setCells g vs o w cur e (0, 0) hh
    refine .inr ⟨g, c, cur', by rw [hn], hb, h2, hnc, hcm, by rw [h3]; exact hcs, ?_⟩
    rw [← ht]
    apply List.ext_getElem?
    intro j
    simp only [List.getElem?_take, Array.getElem?_toList]
    split
    · next hj => exact h4 j (by omega)
    · rfl
theorem grown_setCells (w : World) (g o : Nat) (vs : List Value) : w.grownBy (w.setCells g o vs) (some g) :=
  ⟨(setCells_same g vs o w).1, (setCells_same g vs o w).2.1, (setCells_same g vs o w).2.2.1, Nat.le_of_eq (setCells_same g vs o w).2.2.2.symm, fun k _ hk => setCells_far vs o k (fun e => hk (by rw [e]))⟩
theorem R_cells {α : Type} {d : Kd α} {e base g n c : Nat} {ok : Nat → Prop} {w : World} {xs : List α} (h : d.R e w base ok (.slice (some ⟨g, 0, none⟩) n c) xs) (o : Nat) (ho : o < xs.length * d.sz) : (w.cell? ⟨g, o, none⟩).isSome = true ∧ w.frozen? ⟨g, o, none⟩ = false := by
  obtain ⟨h0, inner, hown, hr⟩ := h
  rcases hown.2 with ⟨hv, _⟩ | ⟨g', cap, cur, hv, hb, hh, hnc, hcm, hcs, ht⟩
  · cases hv
  · injection hv with ha hn hc
    injection ha with ha
    injection ha with hg
    subst hg; subst hc
    have hlt : o < cur.size := by
      rw [hcs]
      exact Nat.lt_of_lt_of_le ho (Nat.mul_le_mul_right _ hnc)
    refine ⟨?_, blk_frozen hh o⟩
    rw [blk_cell hh o, Array.getElem?_eq_getElem hlt]; rfl
theorem add_off (g o n : Nat) : (⟨g, o, none⟩ : Addr).add n = ⟨g, o + n, none⟩ := add_at g o n
theorem zero_run {P : Program} {e : TypeId} {z : Value} {size bytes : Nat} (h : (P.info? e).map (fun i => (i.zero, i.size, i.bytes)) = some (some z, size, bytes)) (w : World) : (zeroValue e).run P w = .ok z w := by
  obtain ⟨i, hi, hz⟩ := Option.map_eq_some_iff.1 h
  simp only [Prod.mk.injEq] at hz
  simp [zeroValue, typeInfo, hi, hz.1]
def kRaw (β : Type) : Kd (List Value × β) := Kd.iso (Kd.raw 1) Prod.fst
theorem seg_one (l : List Value) (j : Nat) (u : Value) (h : l[j]? = some u) : (l.drop (j * 1)).take 1 = [u] := by
  rw [Nat.mul_one]
  obtain ⟨hj, rfl⟩ := List.getElem?_eq_some_iff.1 h
  rw [List.drop_eq_getElem_cons hj]; rfl
theorem raw_of_S {β : Type} {d : Kd β} {e base : Nat} {ok : Nat → Prop} {w : World} {v : Value} {xs : List β} (h : Kd.S d e w base ok v xs) (hs : d.sz = 1) :
    ∃ (f : Nat → Nat) (zs : List (List Value × β)), zs.map Prod.snd = xs ∧ Kd.R (kRaw β) e w base ok v zs ∧ ∀ m z, zs[m]? = some z → (Kd.tag f d).M w base (fun k => ok k ∧ some k ≠ v.ownBlock) (z.2, m) z.1 := by
  obtain ⟨f, h0, inner, ho, hr⟩ := h
  have hsz : (Kd.tag f d).sz = 1 := hs
  rw [hsz] at ho hr
  rw [List.length_zipIdx] at ho
  have hil : inner.length = xs.length := by have := hr.1; rw [List.length_zipIdx] at this; omega
  have hz : ∀ (m : Nat) (z : List Value × β), (List.zipWith (fun u x => ([u], x)) inner xs)[m]? = some z → ∃ (u : Value) (x : β), inner[m]? = some u ∧ xs[m]? = some x ∧ z = ([u], x) := by
    intro m z hm
    rw [List.getElem?_zipWith] at hm
    cases h1 : inner[m]? with
    | none => rw [h1] at hm; simp at hm
    | some u =>
      cases h2 : xs[m]? with
      | none => rw [h1, h2] at hm; simp at hm
      | some x => rw [h1, h2] at hm; simp at hm; exact ⟨u, x, rfl, rfl, hm.symm⟩
  have hM : ∀ (m : Nat) (z : List Value × β), (List.zipWith (fun u x => ([u], x)) inner xs)[m]? = some z → (Kd.tag f d).M w base (fun k => ok k ∧ some k ≠ v.ownBlock) (z.2, m) z.1 := by
    intro m z hm
    obtain ⟨u, x, h1, h2, rfl⟩ := hz m z hm
    have h3 := hr.2 m (x, m) (Kd.zip_at h2)
    rwa [seg_one inner m u h1] at h3
  have hlen : (List.zipWith (fun u x => ([u], x)) inner xs).length = xs.length := by rw [List.length_zipWith]; omega
  refine ⟨f, List.zipWith (fun u x => ([u], x)) inner xs, ?_, ⟨h0, inner, by rw [hlen]; exact ho, by rw [hlen]; show inner.length = xs.length * 1; omega, fun m z hm => ?_⟩, hM⟩
  · apply List.ext_getElem?
    intro m
    rw [List.getElem?_map, List.getElem?_zipWith]
    cases h2 : xs[m]? with
    | none => cases inner[m]? <;> rfl
    | some x =>
      have : m < inner.length := by rw [hil]; exact (List.getElem?_eq_some_iff.1 h2).1
      rw [List.getElem?_eq_getElem this]; rfl
  · obtain ⟨u, x, h1, h2, rfl⟩ := hz m z hm
    show (kRaw β).M w base _ ([u], x) ((inner.drop (m * 1)).take 1)
    rw [seg_one inner m u h1]
    exact ⟨rfl, rfl, (Kd.tag f d).K_one ((Kd.tag f d).K_of_M (hM m _ hm))⟩
theorem filter_at {α : Type} (q : α → Bool) : ∀ (l : List α) (j : Nat) (z : α), (l.filter q)[j]? = some z → ∃ m, l[m]? = some z ∧ ((l.take m).filter q).length = j
  | [], j, z, h => by simp at h
  | x :: l, j, z, h => by
    by_cases hq : q x = true
    · rw [List.filter_cons, if_pos hq] at h
      cases j with
      | zero => exact ⟨0, by simpa using h, rfl⟩
      | succ j =>
        obtain ⟨m, h1, h2⟩ := filter_at q l j z (by simpa using h)
        exact ⟨m + 1, by simpa using h1, by rw [List.take_succ_cons, List.filter_cons, if_pos hq, List.length_cons, h2]⟩
    · rw [List.filter_cons, if_neg hq] at h
      obtain ⟨m, h1, h2⟩ := filter_at q l j z h
      exact ⟨m + 1, by simpa using h1, by rw [List.take_succ_cons, List.filter_cons, if_neg hq, h2]⟩
theorem S_of_raw {β : Type} {d : Kd β} (hs : d.sz = 1) {e base : Nat} {ok ok' : Nat → Prop} {w : World} {v : Value} {f : Nat → Nat} {zs : List (List Value × β)} (q : List Value × β → Bool)
    (hM : ∀ m z, zs[m]? = some z → (Kd.tag f d).M w base ok' (z.2, m) z.1) (hok : ∀ k, ok' k → ok k ∧ some k ≠ v.ownBlock) (h : Kd.R (kRaw β) e w base ok v (zs.filter q)) : Kd.S d e w base ok v ((zs.filter q).map Prod.snd) := by
  obtain ⟨h0, inner, ho, hr⟩ := h
  have hl : ((zs.filter q).map Prod.snd).zipIdx.length = (zs.filter q).length := by rw [List.length_zipIdx, List.length_map]
  refine ⟨fun k => ((zs.take (f k)).filter q).length, h0, inner, by rw [hl]; show w.ownsRow base e d.sz v _ inner; rw [hs]; exact ho, by rw [hl]; show inner.length = _ * d.sz; rw [hs]; exact hr.1, fun j y hj => ?_⟩
  rw [List.getElem?_zipIdx, Nat.zero_add] at hj
  obtain ⟨x, hx, rfl⟩ := Option.map_eq_some_iff.1 hj
  rw [List.getElem?_map] at hx
  obtain ⟨z, hz, rfl⟩ := Option.map_eq_some_iff.1 hx
  obtain ⟨m, h1, h2⟩ := filter_at q zs j z hz
  have hraw : (inner.drop (j * 1)).take 1 = z.1 := (hr.2 j z hz).1
  show (Kd.tag _ d).M w base _ (z.2, j) ((inner.drop (j * d.sz)).take d.sz)
  rw [hs, hraw]
  refine d.M_mono (fun k hk => ⟨hok k hk.1, ?_⟩) (hM m z h1)
  have h3 : f k = m := hk.2
  show ((zs.take (f k)).filter q).length = j
  rw [h3]; exact h2
end Go.Proofs.YtgmfaleamhpfjaaDoor.P
namespace Go.Proofs.YtgmfaleamhpfjaaDoor.P
open Go.RowKit Go.Proofs.YtgmfaleamhpfjaaDoorW.PrintWords Go.Proofs.YtgmfaleamhpfjaaDoorW.PrintLast Go.Proofs.YtgmfaleamhpfjaaDoorW.PrintMore
attribute [local go_sem] max2_int min2_int max_two min_two max_three min_three max_four min_four
set_option linter.unusedVariables false
set_option linter.unusedSimpArgs false
theorem firstIx_any (p : SRule → Bool) : ∀ (l : List SRule) (i : Int), 0 ≤ i → decide (0 ≤ firstIx p l i) = l.any p
  | [], _, _ => by simp [firstIx]
  | x :: l, i, hi => by
    rw [firstIx, List.any_cons]
    cases hx : p x with
    | true => simp [hi]
    | false => simpa using firstIx_any p l (i + 1) (by omega)
set_option maxHeartbeats 2000000 in
set_option maxRecDepth 100000 in
theorem cof_calls (p : SRule → Bool) (g : Nat) (lb : Array Value) (eg : ∀ args w, (callFunc g args).run Tryd.prog w = .ok (.enter g args) w)
    (A0 : Option Addr) (c0 : Nat) (l0 : List SRule) (w : World) (hp : PredR g lb p l0 w) (hr0 : Kd.C kRule w A0 l0.length l0) :
    Calls Tryd.prog 64 #[.slice A0 l0.length c0, .func (.func g) #[] lb] w fun e w' => e = .returned (.bool (l0.any p)) ∧ Below w.heap.size w w' := by
  rw [← firstIx_any p l0 0 (by omega)]
  have hcall := ixf_calls p g lb eg A0 c0 l0 w hp hr0
  go_enter Tryd.func64, Tryd.ntmps64
  go_wp2_with (go_at_call 79; refine hcall.mono ?_; rintro e w' ⟨rfl, hb'⟩)
  go_ret
  exact ⟨rfl, hb'⟩
end Go.Proofs.YtgmfaleamhpfjaaDoor.P
namespace Go.Proofs.YtgmfaleamhpfjaaDoor.P
open Go.RowKit Go.Proofs.YtgmfaleamhpfjaaDoorW.PrintWords Go.Proofs.YtgmfaleamhpfjaaDoorW.PrintLast Go.Proofs.YtgmfaleamhpfjaaDoorW.PrintMore
attribute [local go_sem] max2_int min2_int max_two min_two max_three min_three max_four min_four
set_option linter.unusedVariables false
set_option linter.unusedSimpArgs false
def impl_isRule.f (a0_0 : Int) (a0_1 : Int) : Option (Bool) := if a0_0 ≥ 2 then (if a0_0 ≤ 60 then (if a0_1 ≥ 0 then (some (decide (a0_1 < a0_0))) else (some false)) else (some false)) else (some false)
set_option maxHeartbeats 8000000 in
set_option maxRecDepth 100000 in
theorem impl_isRule.calls (a0_0 : Int) (a0_1 : Int) (r : Bool) (w : World) (h : impl_isRule.f a0_0 a0_1 = some r) :
  Calls Tryd.prog 66 #[.agg #[.int .i64 a0_0, .int .i64 a0_1]] w fun e w' => e = .returned (.bool r) ∧ Below w.heap.size w w' := by
 have hu61 := Tryd.underlying61
 have HB := Aside0.mk (Below.refl w.heap.size w)
 have H : (if a0_0 ≥ 2 then (if a0_0 ≤ 60 then (if a0_1 ≥ 0 then (some (decide (a0_1 < a0_0))) else (some false)) else (some false)) else (some false)) = some r := h
 clear h
 by_cases c2 : a0_0 ≥ 2
 ·rw [if_pos c2] at H
  have c2b0 : decide (2 ≤ a0_0) = true := decide_eq_true c2
  clear c2
  by_cases c3 : a0_0 ≤ 60
  ·rw [if_pos c3] at H
   have c3b0 : decide (a0_0 ≤ 60) = true := decide_eq_true c3
   clear c3
   by_cases c4 : a0_1 ≥ 0
   ·rw [if_pos c4] at H
    have c4b0 : decide (0 ≤ a0_1) = true := decide_eq_true c4
    clear c4
    obtain rfl := Option.some.inj H
    go_enter Tryd.func66, Tryd.ntmps66
    go_wp2_with (first | ((with_reducible refine gate_dst (N := 1) rfl ?_); refine box_event ?hg (N := 1) ?hd (cs := #[.int .i64 a0_0, .int .i64 a0_1]) (t := 61) ?hr ?_; (case hd => rfl); (case hg => rfl); (case hr => exact k99_); intro gb101 hg w5 hbox hb; have BK101 := Aside0.mk (hbox); have GW101 := Aside0.mk (HB.ge hg); have GE101 := Aside0.mk (HB.ge hg); replace HB := HB.mw hb; clear hb hbox hg; have hcz6_0 : w5.cell? ⟨gb101, 0, none⟩ = some (.int .i64 a0_0) := (blk_cell BK101.out 0).trans rfl; have hcz6_1 : w5.cell? ⟨gb101, 1, none⟩ = some (.int .i64 a0_1) := (blk_cell BK101.out 1).trans rfl; have hfz6_0 := blk_frozen BK101.out 0; have hfz6_1 := blk_frozen BK101.out 1))
    go_ret
    exact ⟨k81_, k82_⟩
   ·rw [if_neg c4] at H
    have c4b0 : decide (0 ≤ a0_1) = false := decide_eq_false c4
    clear c4
    obtain rfl := Option.some.inj H
    go_enter Tryd.func66, Tryd.ntmps66
    go_wp2_with (first | ((with_reducible refine gate_dst (N := 1) rfl ?_); refine box_event ?hg (N := 1) ?hd (cs := #[.int .i64 a0_0, .int .i64 a0_1]) (t := 61) ?hr ?_; (case hd => rfl); (case hg => rfl); (case hr => exact k99_); intro gb101 hg w7 hbox hb; have BK101 := Aside0.mk (hbox); have GW101 := Aside0.mk (HB.ge hg); have GE101 := Aside0.mk (HB.ge hg); replace HB := HB.mw hb; clear hb hbox hg; have hcz8_0 : w7.cell? ⟨gb101, 0, none⟩ = some (.int .i64 a0_0) := (blk_cell BK101.out 0).trans rfl; have hcz8_1 : w7.cell? ⟨gb101, 1, none⟩ = some (.int .i64 a0_1) := (blk_cell BK101.out 1).trans rfl; have hfz8_0 := blk_frozen BK101.out 0; have hfz8_1 := blk_frozen BK101.out 1))
    go_ret
    exact ⟨k81_, k82_⟩
  ·rw [if_neg c3] at H
   have c3b0 : decide (a0_0 ≤ 60) = false := decide_eq_false c3
   clear c3
   obtain rfl := Option.some.inj H
   go_enter Tryd.func66, Tryd.ntmps66
   go_wp2_with (first | ((with_reducible refine gate_dst (N := 1) rfl ?_); refine box_event ?hg (N := 1) ?hd (cs := #[.int .i64 a0_0, .int .i64 a0_1]) (t := 61) ?hr ?_; (case hd => rfl); (case hg => rfl); (case hr => exact k99_); intro gb101 hg w9 hbox hb; have BK101 := Aside0.mk (hbox); have GW101 := Aside0.mk (HB.ge hg); have GE101 := Aside0.mk (HB.ge hg); replace HB := HB.mw hb; clear hb hbox hg; have hcz10_0 : w9.cell? ⟨gb101, 0, none⟩ = some (.int .i64 a0_0) := (blk_cell BK101.out 0).trans rfl; have hcz10_1 : w9.cell? ⟨gb101, 1, none⟩ = some (.int .i64 a0_1) := (blk_cell BK101.out 1).trans rfl; have hfz10_0 := blk_frozen BK101.out 0; have hfz10_1 := blk_frozen BK101.out 1))
   go_ret
   exact ⟨k81_, k82_⟩
 ·rw [if_neg c2] at H
  have c2b0 : decide (2 ≤ a0_0) = false := decide_eq_false c2
  clear c2
  obtain rfl := Option.some.inj H
  go_enter Tryd.func66, Tryd.ntmps66
  go_wp2_with (first | ((with_reducible refine gate_dst (N := 1) rfl ?_); refine box_event ?hg (N := 1) ?hd (cs := #[.int .i64 a0_0, .int .i64 a0_1]) (t := 61) ?hr ?_; (case hd => rfl); (case hg => rfl); (case hr => exact k99_); intro gb101 hg w11 hbox hb; have BK101 := Aside0.mk (hbox); have GW101 := Aside0.mk (HB.ge hg); have GE101 := Aside0.mk (HB.ge hg); replace HB := HB.mw hb; clear hb hbox hg; have hcz12_0 : w11.cell? ⟨gb101, 0, none⟩ = some (.int .i64 a0_0) := (blk_cell BK101.out 0).trans rfl; have hcz12_1 : w11.cell? ⟨gb101, 1, none⟩ = some (.int .i64 a0_1) := (blk_cell BK101.out 1).trans rfl; have hfz12_0 := blk_frozen BK101.out 0; have hfz12_1 := blk_frozen BK101.out 1))
  go_ret
  exact ⟨k81_, k82_⟩
end Go.Proofs.YtgmfaleamhpfjaaDoor.P
namespace Go.Proofs.YtgmfaleamhpfjaaDoor.P
open Go.RowKit Go.Proofs.YtgmfaleamhpfjaaDoorW.PrintWords Go.Proofs.YtgmfaleamhpfjaaDoorW.PrintLast Go.Proofs.YtgmfaleamhpfjaaDoorW.PrintMore
attribute [local go_sem] max2_int min2_int max_two min_two max_three min_three max_four min_four
set_option linter.unusedVariables false
set_option linter.unusedSimpArgs false
def impl_areRules_1.f (a0_0 : Int) (a0_1 : Int) : Option (Bool) := (impl_isRule.f a0_0 a0_1).bind fun t102 => (some (!t102))
set_option maxHeartbeats 8000000 in
set_option maxRecDepth 100000 in
theorem impl_areRules_1.calls (a0_0 : Int) (a0_1 : Int) (r : Bool) (w : World) (h : impl_areRules_1.f a0_0 a0_1 = some r) :
  Calls Tryd.prog 65 #[.agg #[.int .i64 a0_0, .int .i64 a0_1]] w fun e w' => e = .returned (.bool r) ∧ Below w.heap.size w w' := by
 have hu61 := Tryd.underlying61
 have HB := Aside0.mk (Below.refl w.heap.size w)
 have H : ((impl_isRule.f a0_0 a0_1).bind fun t102 => (some (!t102))) = some r := h
 clear h
 obtain ⟨t102, A2, H⟩ := obnd_ H
 (try dsimp only at H)
 obtain rfl := Option.some.inj H
 go_enter Tryd.func65, Tryd.ntmps65
 go_wp2_with (first | ((with_reducible refine gate_dst (N := 1) rfl ?_); refine box_event ?hg (N := 1) ?hd (cs := #[.int .i64 a0_0, .int .i64 a0_1]) (t := 61) ?hr ?_; (case hd => rfl); (case hg => rfl); (case hr => exact k99_); intro gb101 hg w3 hbox hb; have BK101 := Aside0.mk (hbox); have GW101 := Aside0.mk (HB.ge hg); have GE101 := Aside0.mk (HB.ge hg); replace HB := HB.mw hb; clear hb hbox hg; have hcz4_0 : w3.cell? ⟨gb101, 0, none⟩ = some (.int .i64 a0_0) := (blk_cell BK101.out 0).trans rfl; have hcz4_1 : w3.cell? ⟨gb101, 1, none⟩ = some (.int .i64 a0_1) := (blk_cell BK101.out 1).trans rfl; have hfz4_0 := blk_frozen BK101.out 0; have hfz4_1 := blk_frozen BK101.out 1) | ((with_reducible refine gate_callee (f := 66) rfl ?_); refine goesL_ (some 4) rfl rfl Tryd.func66 (by kernel_rfl) rfl #[.agg #[.int .i64 a0_0, .int .i64 a0_1]] rfl k70_ ?_; (with_reducible refine (impl_isRule.calls a0_0 a0_1 t102 _ A2.out).mono ?_); rintro e w5 ⟨rfl, hb⟩; refine ⟨_, rfl, ?_⟩; replace BK101 := BK101.mw hb; replace HB := Aside0.mk (below_step k82_ hb); (try clear hb)))
 go_ret
 exact ⟨k81_, k82_⟩
end Go.Proofs.YtgmfaleamhpfjaaDoor.P
namespace Go.Proofs.YtgmfaleamhpfjaaDoor.P
open Go.RowKit Go.Proofs.YtgmfaleamhpfjaaDoorW.PrintWords Go.Proofs.YtgmfaleamhpfjaaDoorW.PrintLast Go.Proofs.YtgmfaleamhpfjaaDoorW.PrintMore
attribute [local go_sem] max2_int min2_int max_two min_two max_three min_three max_four min_four
set_option linter.unusedVariables false
set_option linter.unusedSimpArgs false
def okRule (x : SRule) : Bool := decide (2 ≤ x.f0) && (decide (x.f0 ≤ 60) && (decide (0 ≤ x.f1) && decide (x.f1 < x.f0)))
theorem isRule_ok (x : SRule) : impl_isRule.f x.f0 x.f1 = some (okRule x) := by
  unfold impl_isRule.f okRule
  simp only [ge_iff_le]
  by_cases h1 : 2 ≤ x.f0
  · by_cases h2 : x.f0 ≤ 60
    · by_cases h3 : 0 ≤ x.f1 <;> simp [h1, h2, h3]
    · simp [h1, h2]
  · simp [h1]
theorem all_ok_any : ∀ l : List SRule, l.all okRule = !(l.any fun x => !okRule x)
  | [] => rfl
  | x :: l => by rw [List.all_cons, List.any_cons, all_ok_any l]; cases okRule x <;> simp
theorem areRules_1_ok (x : SRule) : impl_areRules_1.f x.f0 x.f1 = some (!okRule x) := by
  unfold impl_areRules_1.f
  rw [isRule_ok]
  cases okRule x <;> simp
def impl_areRules.f (l0 : List (SRule)) : Option (Bool) := some (decide (l0.length ≤ 12) && l0.all okRule)
set_option maxHeartbeats 2000000 in
set_option maxRecDepth 100000 in
theorem impl_areRules.calls (A0 : Option Addr) (c0 : Nat) (l0 : List (SRule)) (r : Bool) (w : World) (hr0 : Kd.C kRule w A0 l0.length l0) (hc0 : l0.length ≤ c0) (h : impl_areRules.f l0 = some r) :
    Calls Tryd.prog 49 #[.slice A0 l0.length c0] w fun e w' => e = .returned (.bool r) ∧ Below w.heap.size w w' := by
  obtain rfl := Option.some.inj h
  clear h
  have hcall := fun (W : World) (hb : Below w.heap.size w W) => cof_calls (fun x => !okRule x) 65 #[] (enters_of Tryd.func65 (by kernel_rfl) rfl) A0 c0 l0 W
    (fun W' x _ hb' => (impl_areRules_1.calls x.f0 x.f1 _ W' (areRules_1_ok x)).mono fun e w' ⟨he, hb2⟩ => ⟨he, hb'.trans (hb2.mono hb'.size)⟩) (Kd.C_below hr0 hb)
  have HC := Aside0.mk hcall
  have hb0 := Below.refl w.heap.size w
  clear hcall hr0
  by_cases c2 : l0.length ≤ 12
  · have d1 : decide (l0.length ≤ 12) = true := decide_eq_true c2
    have d2 : decide ((l0.length : Int) ≤ 12) = true := decide_eq_true (by omega)
    rw [d1, Bool.true_and, all_ok_any]
    clear c2
    go_enter Tryd.func49, Tryd.ntmps49
    go_wp2_with (go_at_call 64; refine (HC.out _ hb0).mono ?_; rintro e w' ⟨rfl, hb'⟩)
    go_ret
    exact ⟨rfl, hb'⟩
  · have d1 : decide (l0.length ≤ 12) = false := decide_eq_false c2
    have d2 : decide ((l0.length : Int) ≤ 12) = false := decide_eq_false (by omega)
    rw [d1, Bool.false_and]
    go_enter Tryd.func49, Tryd.ntmps49
    go_wp2
    go_ret
    exact ⟨rfl, hb0⟩
end Go.Proofs.YtgmfaleamhpfjaaDoor.P
namespace Go.Proofs.YtgmfaleamhpfjaaDoor.P
open Go.RowKit Go.Proofs.YtgmfaleamhpfjaaDoorW.PrintWords Go.Proofs.YtgmfaleamhpfjaaDoorW.PrintLast Go.Proofs.YtgmfaleamhpfjaaDoorW.PrintMore
attribute [local go_sem] max2_int min2_int max_two min_two max_three min_three max_four min_four
set_option linter.unusedVariables false
set_option linter.unusedSimpArgs false
def impl_mod.f (a0 : Int) (a1 : Int) : Option (Int) := if a1 = 0 then (none) else (some (Int.tmod (wrap64 ((Int.tmod a0 a1) + a1)) a1))
set_option maxHeartbeats 8000000 in
set_option maxRecDepth 100000 in
theorem impl_mod.calls (a0 : Int) (a1 : Int) (r : Int) (w : World) (h : impl_mod.f a0 a1 = some r) :
  Calls Tryd.prog 81 #[.int .i64 a0, .int .i64 a1] w fun e w' => e = .returned (.int .i64 r) ∧ Drawn0 w w' := by
 have H : (if a1 = 0 then (none) else (some (Int.tmod (wrap64 ((Int.tmod a0 a1) + a1)) a1))) = some r := h
 clear h
 by_cases c3 : a1 = 0
 ·rw [if_pos c3] at H
  exact absurd H (by simp)
 ·rw [if_neg c3] at H
  have c3b0 : (a1 == 0) = false := beq_eq_false_iff_ne.mpr c3
  have c3b1 : (a1 != 0) = true := bne_iff_ne.mpr c3
  obtain rfl := Option.some.inj H
  go_enter Tryd.func81, Tryd.ntmps81
  go_wp2
  go_ret
  exact ⟨k98_, k96_⟩
end Go.Proofs.YtgmfaleamhpfjaaDoor.P
namespace Go.Proofs.YtgmfaleamhpfjaaDoor.P
open Go.RowKit Go.Proofs.YtgmfaleamhpfjaaDoorW.PrintWords Go.Proofs.YtgmfaleamhpfjaaDoorW.PrintLast Go.Proofs.YtgmfaleamhpfjaaDoorW.PrintMore
attribute [local go_sem] max2_int min2_int max_two min_two max_three min_three max_four min_four
set_option linter.unusedVariables false
set_option linter.unusedSimpArgs false
def crosses (n : Int) (x : SRule) : Bool := n % x.f0 == x.f1
theorem mod_ok (n b : Int) (h1 : 2 ≤ b) (h2 : b ≤ 60) : impl_mod.f n b = some (n % b) := by
  unfold impl_mod.f
  rw [if_neg (by omega)]
  have a1 := Int.tmod_lt_of_pos n (b := b) (by omega)
  have a2 := Int.lt_tmod_of_pos n (b := b) (by omega)
  rw [show wrap64 (Int.tmod n b + b) = Int.tmod n b + b by unfold wrap64; omega]
  rw [Int.tmod_eq_emod_of_nonneg (by omega : 0 ≤ Int.tmod n b + b), Int.add_emod_right]
  congr 1
  rw [Int.tmod_eq_emod]
  split
  · simp
  · rw [Int.sub_emod, Int.emod_emod_of_dvd _ (Int.dvd_refl _)]
    have : ((b.natAbs : Int)) % b = 0 := by rw [show (b.natAbs : Int) = b by omega]; exact Int.emod_self
    rw [this]; simp
def impl_firstRule.f (l0 : List (SRule)) (a1 : Int) : Option (Int) := if l0.all okRule = true then some (firstIx (crosses a1) l0 0) else none
set_option maxHeartbeats 2000000 in
set_option maxRecDepth 100000 in
theorem firstRule_1_calls (n : Int) (B : Nat) (x : SRule) (W : World) (hx : okRule x = true) (hB : B < W.heap.size) (hn : W.cell? ⟨B, 0, none⟩ = some (.int .i64 n)) :
    Calls Tryd.prog 80 #[.agg #[.int .i64 x.f0, .int .i64 x.f1], .pointer (some ⟨B, 0, none⟩)] W fun e w' => e = .returned (.bool (crosses n x)) ∧ Below W.heap.size W w' := by
  have hu := Tryd.underlying61
  have h1 : 2 ≤ x.f0 ∧ x.f0 ≤ 60 := by unfold okRule at hx; simp at hx; omega
  have HM := Aside0.mk (fun W => impl_mod.calls n x.f0 _ W (mod_ok n x.f0 h1.1 h1.2))
  clear hx h1
  unfold crosses
  go_enter Tryd.func80, Tryd.ntmps80
  go_wp2
  go_quiet ((go_at_call 81; exact Calls.quiet_of ((HM.out _).mono (fun e w' h => ⟨h.1, h.2.out⟩))))
  go_wp2
  go_ret
  exact ⟨rfl, pw_below_drewN (below_alloc (Below.refl _ _) _) _⟩
set_option maxHeartbeats 2000000 in
set_option maxRecDepth 100000 in
theorem impl_firstRule.calls (A0 : Option Addr) (c0 : Nat) (l0 : List (SRule)) (a1 : Int) (r : Int) (w : World) (hr0 : Kd.C kRule w A0 l0.length l0) (hc0 : l0.length ≤ c0) (h : impl_firstRule.f l0 a1 = some r) :
    Calls Tryd.prog 69 #[.slice A0 l0.length c0, .int .i64 a1] w fun e w' => e = .returned (.int .i64 r) ∧ Below w.heap.size w w' := by
  unfold impl_firstRule.f at h
  by_cases hl : l0.all okRule = true
  · rw [if_pos hl] at h
    obtain rfl := Option.some.inj h
    clear h
    have hb := below_alloc (Below.refl w.heap.size w) (.cells #[.int .i64 a1] 3 (0, 0))
    have hcall := ixf_calls (crosses a1) 80 #[.pointer (some ⟨w.heap.size, 0, none⟩)] (enters_of Tryd.func80 (by kernel_rfl) rfl) A0 c0 l0 (w.alloc (.cells #[.int .i64 a1] 3 (0, 0)))
      (fun W' x hx hb' => (firstRule_1_calls a1 w.heap.size x W' (List.all_eq_true.mp hl x hx) (by have := hb'.size; simp at this; omega) ((hb'.cell (p := ⟨w.heap.size, 0, none⟩) (by simp)).trans (by simp))).mono fun e w' ⟨he, hb2⟩ => ⟨he, hb'.trans (hb2.mono hb'.size)⟩) (Kd.C_below hr0 hb)
    have HC := Aside0.mk hcall
    have HB := Aside0.mk hb
    clear hcall hr0 hl hb
    go_enter Tryd.func69, Tryd.ntmps69
    go_wp2_with (go_at_call 79; refine HC.out.mono ?_; rintro e w' ⟨rfl, hb'⟩)
    go_ret
    exact ⟨rfl, HB.out.trans (hb'.mono HB.out.size)⟩
  · rw [if_neg hl] at h
    exact absurd h (by simp)
end Go.Proofs.YtgmfaleamhpfjaaDoor.P
namespace Go.Proofs.YtgmfaleamhpfjaaDoor.P
open Go.RowKit Go.Proofs.YtgmfaleamhpfjaaDoorW.PrintWords Go.Proofs.YtgmfaleamhpfjaaDoorW.PrintLast Go.Proofs.YtgmfaleamhpfjaaDoorW.PrintMore
attribute [local go_sem] max2_int min2_int max_two min_two max_three min_three max_four min_four
set_option linter.unusedVariables false
set_option linter.unusedSimpArgs false
def impl_isLeft.f (l0 : List (SRule)) (a1 : Int) : Option (Bool) := (impl_firstRule.f l0 a1).bind fun t101 => (some (decide (t101 < 0)))
set_option maxHeartbeats 8000000 in
set_option maxRecDepth 100000 in
theorem impl_isLeft.calls (A0 : Option Addr) (c0 : Nat) (l0 : List (SRule)) (a1 : Int) (r : Bool) (w : World) (hr0 : Kd.C kRule w A0 l0.length l0) (hc0 : l0.length ≤ c0) (h : impl_isLeft.f l0 a1 = some r) :
  Calls Tryd.prog 54 #[.slice A0 l0.length c0, .int .i64 a1] w fun e w' => e = .returned (.bool r) ∧ Below w.heap.size w w' := by
 have HR0 := Aside0.mk hr0
 have HC0 := Aside0.mk hc0
 clear hr0 hc0
 have HB := Aside0.mk (Below.refl w.heap.size w)
 have H : ((impl_firstRule.f l0 a1).bind fun t101 => (some (decide (t101 < 0)))) = some r := h
 clear h
 obtain ⟨t101, A3, H⟩ := obnd_ H
 (try dsimp only at H)
 obtain rfl := Option.some.inj H
 go_enter Tryd.func54, Tryd.ntmps54
 go_wp2_with (first | ((with_reducible refine gate_callee (f := 69) rfl ?_); refine goesL_ (some 7) rfl rfl Tryd.func69 (by kernel_rfl) rfl #[.slice A0 l0.length c0, .int .i64 a1] rfl k70_ ?_; (with_reducible refine (impl_firstRule.calls _ _ l0 a1 t101 _ ?side1 ?side2 A3.out).mono ?_); (case side1 => exact k63_); (case side2 => exact HC0.out); rintro e w4 ⟨rfl, hb⟩; refine ⟨_, rfl, ?_⟩; replace HB := HB.mw hb; (try clear hb)))
 go_ret
 exact ⟨k81_, k85_⟩
end Go.Proofs.YtgmfaleamhpfjaaDoor.P
namespace Go.Proofs.YtgmfaleamhpfjaaDoor.P
open Go.RowKit Go.Proofs.YtgmfaleamhpfjaaDoorW.PrintWords Go.Proofs.YtgmfaleamhpfjaaDoorW.PrintLast Go.Proofs.YtgmfaleamhpfjaaDoorW.PrintMore
attribute [local go_sem] max2_int min2_int max_two min_two max_three min_three max_four min_four
set_option linter.unusedVariables false
set_option linter.unusedSimpArgs false
def impl_agrees.l0 : Nat → ByteArray → List (SRule) → Int → Int → Option (Bool)
 | 0, _, _, _, _ => none
 | k + 1, x0, x1, x7, x8 => if x8 < x7 then (if 0 ≤ x8 then (if x8 < (x0.size : Int) then (if (bt x0 x8) = 63 then (impl_agrees.l0 k x0 x1 x7 (wrap64 (x8 + 1))) else ((impl_isLeft.f x1 (wrap64 (x8 + 1))).bind fun t101 => (if (t101 != ((bt x0 x8) == 111)) = true then (some false) else (impl_agrees.l0 k x0 x1 x7 (wrap64 (x8 + 1)))))) else (none)) else (none)) else (some true)
def impl_agrees.f (k : Nat) (a0 : ByteArray) (l1 : List (SRule)) : Option (Bool) := impl_agrees.l0 k a0 l1 (a0.size : Int) 0
def impl_agrees.T4 : Bool × List (List Nat × List Nat) := (true, [([], []), ([], []), ([0, 1], [0, 1]), ([2], [2]), ([3], [3]), ([4], [4]), ([4], [4]), ([6, 4], [4, 6]), ([5, 7, 4, 4], [4, 5, 7]), ([4], [4]), ([4], [4]), ([9, 10, 4], [4, 9, 10]), ([11, 4], [4, 11]), ([8, 12, 4], [4, 8, 12]), ([4, 13], [4, 13])])
def impl_agrees.B4 : List Nat := [0, 0, 3, 7, 15, 31, 31, 95, 255, 31, 31, 1567, 3615, 8191, 16383]
theorem impl_agrees.tab4 : rtab .any (opsOf Tryd.f58 4) = impl_agrees.T4 := by kernel_rfl
theorem impl_agrees.bits4 : waitsOk impl_agrees.T4.2 impl_agrees.B4 = true := by kernel_rfl
set_option maxHeartbeats 8000000 in
set_option maxRecDepth 100000 in
theorem impl_agrees.calls (k : Nat) (a0 : ByteArray) (A1 : Option Addr) (c1 : Nat) (l1 : List (SRule)) (r : Bool) (w : World) (hr1 : Kd.C kRule w A1 l1.length l1) (hc1 : l1.length ≤ c1) (h : impl_agrees.f k a0 l1 = some r) :
  Calls Tryd.prog 58 #[.string a0, .slice A1 l1.length c1] w fun e w' => e = .returned (.bool r) ∧ Below w.heap.size w w' := by
 have HR1 := Aside0.mk hr1
 have HC1 := Aside0.mk hc1
 clear hr1 hc1
 have HB := Aside0.mk (Below.refl w.heap.size w)
 have H : (impl_agrees.l0 k a0 l1 (a0.size : Int) 0) = some r := h
 clear h
 have H' := Aside0.mk H
 clear H
 go_enter Tryd.func58, Tryd.ntmps58
 go_wp2
 go_loopg [8] k (fun kq v8 w' => ∃ (x8_1 : Int), v8 = .int .i64 x8_1 ∧ Aside0 (impl_agrees.l0 kq a0 l1 (a0.size : Int) x8_1 = some r) ∧ Aside0 (kq ≤ k) ∧ Aside0 (Below w.heap.size w w'))
 case atStart => exact ⟨(0), k98_, H', ⟨Nat.le_refl _⟩, ⟨k85_⟩⟩
 case round =>
  clear H'
  obtain ⟨x8_1, rfl, HA, HK1, HB⟩ := hrel
  cases gk with
  | zero => exact absurd HA.out (by simp [impl_agrees.l0])
  | succ k1 =>
   have H := HA.out
   clear HA
   simp only [impl_agrees.l0] at H
   by_cases c3 : x8_1 < (a0.size : Int)
   ·rw [if_pos c3] at H
    have c3b0 : decide (x8_1 < (a0.size : Int)) = true := decide_eq_true c3
    clear c3
    by_cases c4 : 0 ≤ x8_1
    ·rw [if_pos c4] at H
     have c4b0 : decide (0 ≤ x8_1) = true := decide_eq_true c4
     clear c4
     by_cases c5 : x8_1 < (a0.size : Int)
     ·rw [if_pos c5] at H
      have c5b0 : decide (x8_1 < (a0.size : Int)) = true := decide_eq_true c5
      clear c5
      by_cases c7 : (bt a0 x8_1) = 63
      ·rw [if_pos c7] at H
       have c7b0 : ((bt a0 x8_1) == 63) = true := beq_iff_eq.mpr c7
       have c7b1 : ((bt a0 x8_1) != 63) = false := bne_eq_false_iff_eq.mpr c7
       clear c7
       have H' := Aside0.mk H
       clear H
       try go_wp2
       have n0_ := Aside0.mk (below_drew1 HB.out)
       clear HB
       have HB := n0_
       clear n0_
       have p6 : 0 ≤ (x8_1 : Int) := of_decide_eq_true k97_
       have q6 : x8_1 < (a0.size : Int) := of_decide_eq_true k97_
       have hx6 := bt_at a0 x8_1
       replace p6 := eq_true p6
       replace q6 := eq_true q6
       refine start_ (n := 15) (S := fun w' => True) (ds := []) #[false, false, false, false, false, false, false, false, false, false, false, false, false, false, false] (by kernel_rfl) rfl rfl trivial (fun hHeld => ?_); refine with_tabW impl_agrees.tab4 impl_agrees.bits4 (fun HT_ HW_ => ?_)
       generalize wr.drew = w8 at HB hHeld ⊢
       refine pure_ (i := 0) (N := some 11) (v := ?_) (a' := ?_) #[true, false, false, false, false, false, false, false, false, false, false, false, false, false, false] rfl rfl (any_of HT_.out (by kernel_rfl)) (fun _ _ _ h => h) (Or.inl ⟨by rfl, ?_⟩) ?_ ?_
       rotate_left
       ·intro w'
        go_simp
        with_reducible rfl
       rotate_left
       ·simp only [Act.put, List.setIfInBounds_toArray, List.set_cons_zero, List.set_cons_succ, i64_w, i32_w]
        rfl
       refine pure_ (i := 1) (N := some 12) (v := ?_) (a' := ?_) #[true, true, false, false, false, false, false, false, false, false, false, false, false, false, false] rfl rfl (any_of HT_.out (by kernel_rfl)) (fun _ _ _ h => h) (Or.inl ⟨by rfl, ?_⟩) ?_ ?_
       rotate_left
       ·intro w'
        go_simp
        with_reducible rfl
       rotate_left
       ·simp only [Act.put, List.setIfInBounds_toArray, List.set_cons_zero, List.set_cons_succ, i64_w, i32_w]
        rfl
       refine take_ (i := 2) (N := some 13) (v := ?_) (a' := ?_) #[true, true, true, false, false, false, false, false, false, false, false, false, false, false, false] rfl rfl (take_ofW HT_.out HW_.out (by kernel_rfl)) (fun _ _ _ h => h) (Or.inl ⟨by rfl, ?_⟩) hHeld ?_ ?_
       rotate_left
       ·intro w' _
        go_simp
        with_reducible rfl
       rotate_left
       ·simp only [Act.put, List.setIfInBounds_toArray, List.set_cons_zero, List.set_cons_succ, i64_w, i32_w]
        rfl
       refine pure_ (i := 3) (N := some 14) (v := ?_) (a' := ?_) #[true, true, true, true, false, false, false, false, false, false, false, false, false, false, false] rfl rfl (any_of HT_.out (by kernel_rfl)) (fun _ _ _ h => h) (Or.inl ⟨by rfl, ?_⟩) ?_ ?_
       rotate_left
       ·intro w'
        go_simp
        with_reducible rfl
       rotate_left
       ·simp only [Act.put, List.setIfInBounds_toArray, List.set_cons_zero, List.set_cons_succ, i64_w, i32_w]
        rfl
       refine pure_ (i := 4) (N := some 15) (v := ?_) (a' := ?_) #[true, true, true, true, true, false, false, false, false, false, false, false, false, false, false] rfl rfl (any_of HT_.out (by kernel_rfl)) (fun _ _ _ h => h) (Or.inl ⟨by rfl, ?_⟩) ?_ ?_
       rotate_left
       ·intro w'
        go_simp
        with_reducible rfl
       rotate_left
       ·simp only [Act.put, List.setIfInBounds_toArray, List.set_cons_zero, List.set_cons_succ, i64_w, i32_w]
        rfl
       refine pure_ (i := 5) (N := some 16) (v := undef) (a' := ?_) #[true, true, true, true, true, true, false, false, false, false, false, false, false, false, false] rfl rfl (any_of HT_.out (by kernel_rfl)) (fun _ _ _ h => h) (Or.inr ⟨by rfl, rfl⟩) ?_ ?_
       rotate_left
       ·simp only [Act.put, List.setIfInBounds_toArray, List.set_cons_zero, List.set_cons_succ, i64_w, i32_w]
        rfl
       refine pure_ (i := 6) (N := some 17) (v := undef) (a' := ?_) #[true, true, true, true, true, true, true, false, false, false, false, false, false, false, false] rfl rfl (any_of HT_.out (by kernel_rfl)) (fun _ _ _ h => h) (Or.inr ⟨by rfl, rfl⟩) ?_ ?_
       rotate_left
       ·simp only [Act.put, List.setIfInBounds_toArray, List.set_cons_zero, List.set_cons_succ, i64_w, i32_w]
        rfl
       refine pure_ (i := 7) (N := some 18) (v := undef) (a' := ?_) #[true, true, true, true, true, true, true, true, false, false, false, false, false, false, false] rfl rfl (any_of HT_.out (by kernel_rfl)) (fun _ _ _ h => h) (Or.inr ⟨by rfl, rfl⟩) ?_ ?_
       rotate_left
       ·simp only [Act.put, List.setIfInBounds_toArray, List.set_cons_zero, List.set_cons_succ, i64_w, i32_w]
        rfl
       refine pure_ (i := 8) (N := some 19) (v := undef) (a' := ?_) #[true, true, true, true, true, true, true, true, true, false, false, false, false, false, false] rfl rfl (any_of HT_.out (by kernel_rfl)) (fun _ _ _ h => h) (Or.inr ⟨by rfl, rfl⟩) ?_ ?_
       rotate_left
       ·simp only [Act.put, List.setIfInBounds_toArray, List.set_cons_zero, List.set_cons_succ, i64_w, i32_w]
        rfl
       refine pure_ (i := 9) (N := some 20) (v := undef) (a' := ?_) #[true, true, true, true, true, true, true, true, true, true, false, false, false, false, false] rfl rfl (any_of HT_.out (by kernel_rfl)) (fun _ _ _ h => h) (Or.inr ⟨by rfl, rfl⟩) ?_ ?_
       rotate_left
       ·simp only [Act.put, List.setIfInBounds_toArray, List.set_cons_zero, List.set_cons_succ, i64_w, i32_w]
        rfl
       refine pure_ (i := 10) (N := some 21) (v := undef) (a' := ?_) #[true, true, true, true, true, true, true, true, true, true, true, false, false, false, false] rfl rfl (any_of HT_.out (by kernel_rfl)) (fun _ _ _ h => h) (Or.inr ⟨by rfl, rfl⟩) ?_ ?_
       rotate_left
       ·simp only [Act.put, List.setIfInBounds_toArray, List.set_cons_zero, List.set_cons_succ, i64_w, i32_w]
        rfl
       refine pure_ (i := 11) (N := some 22) (v := undef) (a' := ?_) #[true, true, true, true, true, true, true, true, true, true, true, true, false, false, false] rfl rfl (any_of HT_.out (by kernel_rfl)) (fun _ _ _ h => h) (Or.inr ⟨by rfl, rfl⟩) ?_ ?_
       rotate_left
       ·simp only [Act.put, List.setIfInBounds_toArray, List.set_cons_zero, List.set_cons_succ, i64_w, i32_w]
        rfl
       refine pure_ (i := 12) (N := some 23) (v := undef) (a' := ?_) #[true, true, true, true, true, true, true, true, true, true, true, true, true, false, false] rfl rfl (any_of HT_.out (by kernel_rfl)) (fun _ _ _ h => h) (Or.inr ⟨by rfl, rfl⟩) ?_ ?_
       rotate_left
       ·simp only [Act.put, List.setIfInBounds_toArray, List.set_cons_zero, List.set_cons_succ, i64_w, i32_w]
        rfl
       refine pure_ (i := 13) (N := some 24) (v := undef) (a' := ?_) #[true, true, true, true, true, true, true, true, true, true, true, true, true, true, false] rfl rfl (any_of HT_.out (by kernel_rfl)) (fun _ _ _ h => h) (Or.inr ⟨by rfl, rfl⟩) ?_ ?_
       rotate_left
       ·simp only [Act.put, List.setIfInBounds_toArray, List.set_cons_zero, List.set_cons_succ, i64_w, i32_w]
        rfl
       refine pure_ (i := 14) (N := some 25) (v := ?_) (a' := ?_) #[true, true, true, true, true, true, true, true, true, true, true, true, true, true, true] rfl rfl (any_of HT_.out (by kernel_rfl)) (fun _ _ _ h => h) (Or.inl ⟨by rfl, ?_⟩) ?_ ?_
       rotate_left
       ·intro w'
        go_simp
        with_reducible rfl
       rotate_left
       ·simp only [Act.put, List.setIfInBounds_toArray, List.set_cons_zero, List.set_cons_succ, i64_w, i32_w]
        rfl
       refine done_ (done_of HT_.out (by kernel_rfl)) ?_
       try go_wp2
       go_roundg k1
       case measure => have := HK1.out; omega
       case rel => exact ⟨(wrap64 (x8_1 + 1)), k98_, H', ⟨k101_⟩, ⟨k85_⟩⟩
      ·rw [if_neg c7] at H
       have c7b0 : ((bt a0 x8_1) == 63) = false := beq_eq_false_iff_ne.mpr c7
       have c7b1 : ((bt a0 x8_1) != 63) = true := bne_iff_ne.mpr c7
       obtain ⟨t101, A9, H⟩ := obnd_ H
       (try dsimp only at H)
       by_cases c11 : (t101 != ((bt a0 x8_1) == 111)) = true
       ·rw [if_pos c11] at H
        have c11b0 : (t101 != ((bt a0 x8_1) == 111)) = true := c11
        (try (have c11b1 : decide (t101 = ((bt a0 x8_1) == 111)) = false := by simpa using c11))
        (try (have c11b2 : (t101 == ((bt a0 x8_1) == 111)) = false := by simpa using c11))
        (try (have c11b3 : ¬ (t101 = ((bt a0 x8_1) == 111)) := by simpa using c11))
        clear c11
        obtain rfl := Option.some.inj H
        try go_wp2
        have n0_ := Aside0.mk (below_drew1 HB.out)
        clear HB
        have HB := n0_
        clear n0_
        have p6 : 0 ≤ (x8_1 : Int) := of_decide_eq_true k97_
        have q6 : x8_1 < (a0.size : Int) := of_decide_eq_true k97_
        have hx6 := bt_at a0 x8_1
        replace p6 := eq_true p6
        replace q6 := eq_true q6
        have p10 : 0 ≤ (x8_1 : Int) := of_decide_eq_true k97_
        have q10 : x8_1 < (a0.size : Int) := of_decide_eq_true k97_
        have hx10 := bt_at a0 x8_1
        replace p10 := eq_true p10
        replace q10 := eq_true q10
        refine start_ (n := 15) (S := fun w' => True) (ds := []) #[false, false, false, false, false, false, false, false, false, false, false, false, false, false, false] (by kernel_rfl) rfl rfl trivial (fun hHeld => ?_); refine with_tabW impl_agrees.tab4 impl_agrees.bits4 (fun HT_ HW_ => ?_)
        generalize wr.drew = w12 at HB hHeld ⊢
        refine pure_ (i := 0) (N := some 11) (v := ?_) (a' := ?_) #[true, false, false, false, false, false, false, false, false, false, false, false, false, false, false] rfl rfl (any_of HT_.out (by kernel_rfl)) (fun _ _ _ h => h) (Or.inl ⟨by rfl, ?_⟩) ?_ ?_
        rotate_left
        ·intro w'
         go_simp
         with_reducible rfl
        rotate_left
        ·simp only [Act.put, List.setIfInBounds_toArray, List.set_cons_zero, List.set_cons_succ, i64_w, i32_w]
         rfl
        refine pure_ (i := 1) (N := some 12) (v := ?_) (a' := ?_) #[true, true, false, false, false, false, false, false, false, false, false, false, false, false, false] rfl rfl (any_of HT_.out (by kernel_rfl)) (fun _ _ _ h => h) (Or.inl ⟨by rfl, ?_⟩) ?_ ?_
        rotate_left
        ·intro w'
         go_simp
         with_reducible rfl
        rotate_left
        ·simp only [Act.put, List.setIfInBounds_toArray, List.set_cons_zero, List.set_cons_succ, i64_w, i32_w]
         rfl
        refine take_ (i := 2) (N := some 13) (v := ?_) (a' := ?_) #[true, true, true, false, false, false, false, false, false, false, false, false, false, false, false] rfl rfl (take_ofW HT_.out HW_.out (by kernel_rfl)) (fun _ _ _ h => h) (Or.inl ⟨by rfl, ?_⟩) hHeld ?_ ?_
        rotate_left
        ·intro w' _
         go_simp
         with_reducible rfl
        rotate_left
        ·simp only [Act.put, List.setIfInBounds_toArray, List.set_cons_zero, List.set_cons_succ, i64_w, i32_w]
         rfl
        refine pure_ (i := 3) (N := some 14) (v := ?_) (a' := ?_) #[true, true, true, true, false, false, false, false, false, false, false, false, false, false, false] rfl rfl (any_of HT_.out (by kernel_rfl)) (fun _ _ _ h => h) (Or.inl ⟨by rfl, ?_⟩) ?_ ?_
        rotate_left
        ·intro w'
         go_simp
         with_reducible rfl
        rotate_left
        ·simp only [Act.put, List.setIfInBounds_toArray, List.set_cons_zero, List.set_cons_succ, i64_w, i32_w]
         rfl
        refine pure_ (i := 4) (N := some 15) (v := ?_) (a' := ?_) #[true, true, true, true, true, false, false, false, false, false, false, false, false, false, false] rfl rfl (any_of HT_.out (by kernel_rfl)) (fun _ _ _ h => h) (Or.inl ⟨by rfl, ?_⟩) ?_ ?_
        rotate_left
        ·intro w'
         go_simp
         with_reducible rfl
        rotate_left
        ·simp only [Act.put, List.setIfInBounds_toArray, List.set_cons_zero, List.set_cons_succ, i64_w, i32_w]
         rfl
        refine pure_ (i := 5) (N := some 16) (v := ?_) (a' := ?_) #[true, true, true, true, true, true, false, false, false, false, false, false, false, false, false] rfl rfl (any_of HT_.out (by kernel_rfl)) (fun _ _ _ h => h) (Or.inl ⟨by rfl, ?_⟩) ?_ ?_
        rotate_left
        ·intro w'
         go_simp
         with_reducible rfl
        rotate_left
        ·simp only [Act.put, List.setIfInBounds_toArray, List.set_cons_zero, List.set_cons_succ, i64_w, i32_w]
         rfl
        refine pure_ (i := 6) (N := some 17) (v := ?_) (a' := ?_) #[true, true, true, true, true, true, true, false, false, false, false, false, false, false, false] rfl rfl (any_of HT_.out (by kernel_rfl)) (fun _ _ _ h => h) (Or.inl ⟨by rfl, ?_⟩) ?_ ?_
        rotate_left
        ·intro w'
         go_simp
         with_reducible rfl
        rotate_left
        ·simp only [Act.put, List.setIfInBounds_toArray, List.set_cons_zero, List.set_cons_succ, i64_w, i32_w]
         rfl
        refine pure_ (i := 7) (N := some 18) (v := ?_) (a' := ?_) #[true, true, true, true, true, true, true, true, false, false, false, false, false, false, false] rfl rfl (any_of HT_.out (by kernel_rfl)) (fun _ _ _ h => h) (Or.inl ⟨by rfl, ?_⟩) ?_ ?_
        rotate_left
        ·intro w'
         go_simp
         with_reducible rfl
        rotate_left
        ·simp only [Act.put, List.setIfInBounds_toArray, List.set_cons_zero, List.set_cons_succ, i64_w, i32_w]
         rfl
        refine pure_ (i := 9) (N := some 20) (v := ?_) (a' := ?_) #[true, true, true, true, true, true, true, true, false, true, false, false, false, false, false] rfl rfl (any_of HT_.out (by kernel_rfl)) (fun _ _ _ h => h) (Or.inl ⟨by rfl, ?_⟩) ?_ ?_
        rotate_left
        ·intro w'
         go_simp
         with_reducible rfl
        rotate_left
        ·simp only [Act.put, List.setIfInBounds_toArray, List.set_cons_zero, List.set_cons_succ, i64_w, i32_w]
         rfl
        refine pure_ (i := 10) (N := some 21) (v := ?_) (a' := ?_) #[true, true, true, true, true, true, true, true, false, true, true, false, false, false, false] rfl rfl (any_of HT_.out (by kernel_rfl)) (fun _ _ _ h => h) (Or.inl ⟨by rfl, ?_⟩) ?_ ?_
        rotate_left
        ·intro w'
         go_simp
         with_reducible rfl
        rotate_left
        ·simp only [Act.put, List.setIfInBounds_toArray, List.set_cons_zero, List.set_cons_succ, i64_w, i32_w]
         rfl
        refine take_ (i := 11) (N := some 22) (v := ?_) (a' := ?_) #[true, true, true, true, true, true, true, true, false, true, true, true, false, false, false] rfl rfl (take_ofW HT_.out HW_.out (by kernel_rfl)) (fun _ _ _ h => h) (Or.inl ⟨by rfl, ?_⟩) hHeld ?_ ?_
        rotate_left
        ·intro w' _
         go_simp
         with_reducible rfl
        rotate_left
        ·simp only [Act.put, List.setIfInBounds_toArray, List.set_cons_zero, List.set_cons_succ, i64_w, i32_w]
         rfl
        refine pure_ (i := 12) (N := some 23) (v := ?_) (a' := ?_) #[true, true, true, true, true, true, true, true, false, true, true, true, true, false, false] rfl rfl (any_of HT_.out (by kernel_rfl)) (fun _ _ _ h => h) (Or.inl ⟨by rfl, ?_⟩) ?_ ?_
        rotate_left
        ·intro w'
         go_simp
         with_reducible rfl
        rotate_left
        ·simp only [Act.put, List.setIfInBounds_toArray, List.set_cons_zero, List.set_cons_succ, i64_w, i32_w]
         rfl
        refine one_ (i := 8) (N := some 19) #[true, true, true, true, true, true, true, true, true, true, true, true, true, false, false] rfl rfl (one_of HT_.out (by kernel_rfl)) (by decide) (fun K hK => ?_)
        refine goes_ Tryd.func54 (by kernel_rfl) rfl #[.slice A1 l1.length c1, .int .i64 (wrap64 (x8_1 + 1))] (by rfl) rfl rfl k70_ ?_
        with_reducible refine (impl_isLeft.calls _ _ l1 (wrap64 (x8_1 + 1)) t101 _ ?side1 ?side2 A9.out).mono ?_
        (case side1 => exact k55_)
        (case side2 => exact HC1.out)
        rintro e w13 ⟨rfl, hb⟩
        refine ⟨_, rfl, ?_⟩
        have n0_ := Aside0.mk (HB.mv hb)
        clear HB
        have HB := n0_
        clear n0_
        (try clear hb)
        (try clear hb2)
        (try clear hk)
        (try clear hi)
        refine hK.out _ _ trivial (fun hHeld => ?_)
        clear hK K
        refine norm_ (a' := ?_) ?_ ?_
        rotate_left
        ·show Act.put _ (some 19) _ = _
         simp only [Act.put, List.setIfInBounds_toArray, List.set_cons_zero, List.set_cons_succ, i64_w, i32_w]
         rfl
        refine pure_ (i := 13) (N := some 24) (v := ?_) (a' := ?_) #[true, true, true, true, true, true, true, true, true, true, true, true, true, true, false] rfl rfl (any_of HT_.out (by kernel_rfl)) (fun _ _ _ h => h) (Or.inl ⟨by rfl, ?_⟩) ?_ ?_
        rotate_left
        ·intro w'
         go_simp
         with_reducible rfl
        rotate_left
        ·simp only [Act.put, List.setIfInBounds_toArray, List.set_cons_zero, List.set_cons_succ, i64_w, i32_w]
         rfl
        refine pure_ (i := 14) (N := some 25) (v := ?_) (a' := ?_) #[true, true, true, true, true, true, true, true, true, true, true, true, true, true, true] rfl rfl (any_of HT_.out (by kernel_rfl)) (fun _ _ _ h => h) (Or.inl ⟨by rfl, ?_⟩) ?_ ?_
        rotate_left
        ·intro w'
         go_simp
         with_reducible rfl
        rotate_left
        ·simp only [Act.put, List.setIfInBounds_toArray, List.set_cons_zero, List.set_cons_succ, i64_w, i32_w]
         rfl
        refine done_ (done_of HT_.out (by kernel_rfl)) ?_
        try go_wp2
        go_ret
        exact ⟨k81_, k85_⟩
       ·rw [if_neg c11] at H
        have c11b0 : (t101 != ((bt a0 x8_1) == 111)) = false := by simpa using c11
        (try (have c11b1 : decide (t101 = ((bt a0 x8_1) == 111)) = true := by simpa using c11))
        (try (have c11b2 : (t101 == ((bt a0 x8_1) == 111)) = true := by simpa using c11))
        clear c11
        have H' := Aside0.mk H
        clear H
        try go_wp2
        have n0_ := Aside0.mk (below_drew1 HB.out)
        clear HB
        have HB := n0_
        clear n0_
        have p6 : 0 ≤ (x8_1 : Int) := of_decide_eq_true k97_
        have q6 : x8_1 < (a0.size : Int) := of_decide_eq_true k97_
        have hx6 := bt_at a0 x8_1
        replace p6 := eq_true p6
        replace q6 := eq_true q6
        have p10 : 0 ≤ (x8_1 : Int) := of_decide_eq_true k97_
        have q10 : x8_1 < (a0.size : Int) := of_decide_eq_true k97_
        have hx10 := bt_at a0 x8_1
        replace p10 := eq_true p10
        replace q10 := eq_true q10
        refine start_ (n := 15) (S := fun w' => True) (ds := []) #[false, false, false, false, false, false, false, false, false, false, false, false, false, false, false] (by kernel_rfl) rfl rfl trivial (fun hHeld => ?_); refine with_tabW impl_agrees.tab4 impl_agrees.bits4 (fun HT_ HW_ => ?_)
        generalize wr.drew = w14 at HB hHeld ⊢
        refine pure_ (i := 0) (N := some 11) (v := ?_) (a' := ?_) #[true, false, false, false, false, false, false, false, false, false, false, false, false, false, false] rfl rfl (any_of HT_.out (by kernel_rfl)) (fun _ _ _ h => h) (Or.inl ⟨by rfl, ?_⟩) ?_ ?_
        rotate_left
        ·intro w'
         go_simp
         with_reducible rfl
        rotate_left
        ·simp only [Act.put, List.setIfInBounds_toArray, List.set_cons_zero, List.set_cons_succ, i64_w, i32_w]
         rfl
        refine pure_ (i := 1) (N := some 12) (v := ?_) (a' := ?_) #[true, true, false, false, false, false, false, false, false, false, false, false, false, false, false] rfl rfl (any_of HT_.out (by kernel_rfl)) (fun _ _ _ h => h) (Or.inl ⟨by rfl, ?_⟩) ?_ ?_
        rotate_left
        ·intro w'
         go_simp
         with_reducible rfl
        rotate_left
        ·simp only [Act.put, List.setIfInBounds_toArray, List.set_cons_zero, List.set_cons_succ, i64_w, i32_w]
         rfl
        refine take_ (i := 2) (N := some 13) (v := ?_) (a' := ?_) #[true, true, true, false, false, false, false, false, false, false, false, false, false, false, false] rfl rfl (take_ofW HT_.out HW_.out (by kernel_rfl)) (fun _ _ _ h => h) (Or.inl ⟨by rfl, ?_⟩) hHeld ?_ ?_
        rotate_left
        ·intro w' _
         go_simp
         with_reducible rfl
        rotate_left
        ·simp only [Act.put, List.setIfInBounds_toArray, List.set_cons_zero, List.set_cons_succ, i64_w, i32_w]
         rfl
        refine pure_ (i := 3) (N := some 14) (v := ?_) (a' := ?_) #[true, true, true, true, false, false, false, false, false, false, false, false, false, false, false] rfl rfl (any_of HT_.out (by kernel_rfl)) (fun _ _ _ h => h) (Or.inl ⟨by rfl, ?_⟩) ?_ ?_
        rotate_left
        ·intro w'
         go_simp
         with_reducible rfl
        rotate_left
        ·simp only [Act.put, List.setIfInBounds_toArray, List.set_cons_zero, List.set_cons_succ, i64_w, i32_w]
         rfl
        refine pure_ (i := 4) (N := some 15) (v := ?_) (a' := ?_) #[true, true, true, true, true, false, false, false, false, false, false, false, false, false, false] rfl rfl (any_of HT_.out (by kernel_rfl)) (fun _ _ _ h => h) (Or.inl ⟨by rfl, ?_⟩) ?_ ?_
        rotate_left
        ·intro w'
         go_simp
         with_reducible rfl
        rotate_left
        ·simp only [Act.put, List.setIfInBounds_toArray, List.set_cons_zero, List.set_cons_succ, i64_w, i32_w]
         rfl
        refine pure_ (i := 5) (N := some 16) (v := ?_) (a' := ?_) #[true, true, true, true, true, true, false, false, false, false, false, false, false, false, false] rfl rfl (any_of HT_.out (by kernel_rfl)) (fun _ _ _ h => h) (Or.inl ⟨by rfl, ?_⟩) ?_ ?_
        rotate_left
        ·intro w'
         go_simp
         with_reducible rfl
        rotate_left
        ·simp only [Act.put, List.setIfInBounds_toArray, List.set_cons_zero, List.set_cons_succ, i64_w, i32_w]
         rfl
        refine pure_ (i := 6) (N := some 17) (v := ?_) (a' := ?_) #[true, true, true, true, true, true, true, false, false, false, false, false, false, false, false] rfl rfl (any_of HT_.out (by kernel_rfl)) (fun _ _ _ h => h) (Or.inl ⟨by rfl, ?_⟩) ?_ ?_
        rotate_left
        ·intro w'
         go_simp
         with_reducible rfl
        rotate_left
        ·simp only [Act.put, List.setIfInBounds_toArray, List.set_cons_zero, List.set_cons_succ, i64_w, i32_w]
         rfl
        refine pure_ (i := 7) (N := some 18) (v := ?_) (a' := ?_) #[true, true, true, true, true, true, true, true, false, false, false, false, false, false, false] rfl rfl (any_of HT_.out (by kernel_rfl)) (fun _ _ _ h => h) (Or.inl ⟨by rfl, ?_⟩) ?_ ?_
        rotate_left
        ·intro w'
         go_simp
         with_reducible rfl
        rotate_left
        ·simp only [Act.put, List.setIfInBounds_toArray, List.set_cons_zero, List.set_cons_succ, i64_w, i32_w]
         rfl
        refine pure_ (i := 9) (N := some 20) (v := ?_) (a' := ?_) #[true, true, true, true, true, true, true, true, false, true, false, false, false, false, false] rfl rfl (any_of HT_.out (by kernel_rfl)) (fun _ _ _ h => h) (Or.inl ⟨by rfl, ?_⟩) ?_ ?_
        rotate_left
        ·intro w'
         go_simp
         with_reducible rfl
        rotate_left
        ·simp only [Act.put, List.setIfInBounds_toArray, List.set_cons_zero, List.set_cons_succ, i64_w, i32_w]
         rfl
        refine pure_ (i := 10) (N := some 21) (v := ?_) (a' := ?_) #[true, true, true, true, true, true, true, true, false, true, true, false, false, false, false] rfl rfl (any_of HT_.out (by kernel_rfl)) (fun _ _ _ h => h) (Or.inl ⟨by rfl, ?_⟩) ?_ ?_
        rotate_left
        ·intro w'
         go_simp
         with_reducible rfl
        rotate_left
        ·simp only [Act.put, List.setIfInBounds_toArray, List.set_cons_zero, List.set_cons_succ, i64_w, i32_w]
         rfl
        refine take_ (i := 11) (N := some 22) (v := ?_) (a' := ?_) #[true, true, true, true, true, true, true, true, false, true, true, true, false, false, false] rfl rfl (take_ofW HT_.out HW_.out (by kernel_rfl)) (fun _ _ _ h => h) (Or.inl ⟨by rfl, ?_⟩) hHeld ?_ ?_
        rotate_left
        ·intro w' _
         go_simp
         with_reducible rfl
        rotate_left
        ·simp only [Act.put, List.setIfInBounds_toArray, List.set_cons_zero, List.set_cons_succ, i64_w, i32_w]
         rfl
        refine pure_ (i := 12) (N := some 23) (v := ?_) (a' := ?_) #[true, true, true, true, true, true, true, true, false, true, true, true, true, false, false] rfl rfl (any_of HT_.out (by kernel_rfl)) (fun _ _ _ h => h) (Or.inl ⟨by rfl, ?_⟩) ?_ ?_
        rotate_left
        ·intro w'
         go_simp
         with_reducible rfl
        rotate_left
        ·simp only [Act.put, List.setIfInBounds_toArray, List.set_cons_zero, List.set_cons_succ, i64_w, i32_w]
         rfl
        refine one_ (i := 8) (N := some 19) #[true, true, true, true, true, true, true, true, true, true, true, true, true, false, false] rfl rfl (one_of HT_.out (by kernel_rfl)) (by decide) (fun K hK => ?_)
        refine goes_ Tryd.func54 (by kernel_rfl) rfl #[.slice A1 l1.length c1, .int .i64 (wrap64 (x8_1 + 1))] (by rfl) rfl rfl k70_ ?_
        with_reducible refine (impl_isLeft.calls _ _ l1 (wrap64 (x8_1 + 1)) t101 _ ?side1 ?side2 A9.out).mono ?_
        (case side1 => exact k55_)
        (case side2 => exact HC1.out)
        rintro e w15 ⟨rfl, hb⟩
        refine ⟨_, rfl, ?_⟩
        have n0_ := Aside0.mk (HB.mv hb)
        clear HB
        have HB := n0_
        clear n0_
        (try clear hb)
        (try clear hb2)
        (try clear hk)
        (try clear hi)
        refine hK.out _ _ trivial (fun hHeld => ?_)
        clear hK K
        refine norm_ (a' := ?_) ?_ ?_
        rotate_left
        ·show Act.put _ (some 19) _ = _
         simp only [Act.put, List.setIfInBounds_toArray, List.set_cons_zero, List.set_cons_succ, i64_w, i32_w]
         rfl
        refine pure_ (i := 13) (N := some 24) (v := ?_) (a' := ?_) #[true, true, true, true, true, true, true, true, true, true, true, true, true, true, false] rfl rfl (any_of HT_.out (by kernel_rfl)) (fun _ _ _ h => h) (Or.inl ⟨by rfl, ?_⟩) ?_ ?_
        rotate_left
        ·intro w'
         go_simp
         with_reducible rfl
        rotate_left
        ·simp only [Act.put, List.setIfInBounds_toArray, List.set_cons_zero, List.set_cons_succ, i64_w, i32_w]
         rfl
        refine pure_ (i := 14) (N := some 25) (v := ?_) (a' := ?_) #[true, true, true, true, true, true, true, true, true, true, true, true, true, true, true] rfl rfl (any_of HT_.out (by kernel_rfl)) (fun _ _ _ h => h) (Or.inl ⟨by rfl, ?_⟩) ?_ ?_
        rotate_left
        ·intro w'
         go_simp
         with_reducible rfl
        rotate_left
        ·simp only [Act.put, List.setIfInBounds_toArray, List.set_cons_zero, List.set_cons_succ, i64_w, i32_w]
         rfl
        refine done_ (done_of HT_.out (by kernel_rfl)) ?_
        try go_wp2
        go_roundg k1
        case measure => have := HK1.out; omega
        case rel => exact ⟨(wrap64 (x8_1 + 1)), k98_, H', ⟨k101_⟩, ⟨k85_⟩⟩
     ·rw [if_neg c5] at H
      exact absurd H (by simp)
    ·rw [if_neg c4] at H
     exact absurd H (by simp)
   ·rw [if_neg c3] at H
    have c3b0 : decide (x8_1 < (a0.size : Int)) = false := decide_eq_false c3
    clear c3
    obtain rfl := Option.some.inj H
    go_wp2
    go_ret
    exact ⟨k81_, k85_⟩
end Go.Proofs.YtgmfaleamhpfjaaDoor.P
namespace Go.Proofs.YtgmfaleamhpfjaaDoor.P
open Go.RowKit Go.Proofs.YtgmfaleamhpfjaaDoorW.PrintWords Go.Proofs.YtgmfaleamhpfjaaDoorW.PrintLast Go.Proofs.YtgmfaleamhpfjaaDoorW.PrintMore
attribute [local go_sem] max2_int min2_int max_two min_two max_three min_three max_four min_four
set_option linter.unusedVariables false
set_option linter.unusedSimpArgs false
mutual
def impl_someAnswers_1.f : Nat → ByteArray → Int → Int → List SRule → List SRule → Int → List (List SRule) → Option (List (List SRule))
  | 0, _, _, _, _, _, _, _ => none
  | k + 1, p, R, most, rules, list, frm, out => if (out.length : Int) = most then some out else (if (list.length : Int) = R then ((impl_agrees.f k p list).bind fun t => if t = true then (if out.length < 5864062014805 then some (out ++ [list]) else none) else some out) else impl_someAnswers_1.l0 k p R most rules list out frm)
def impl_someAnswers_1.l0 : Nat → ByteArray → Int → Int → List SRule → List SRule → List (List SRule) → Int → Option (List (List SRule))
  | 0, _, _, _, _, _, _, _ => none
  | k + 1, p, R, most, rules, list, out, i => if i < (rules.length : Int) then (if 0 ≤ i then (if list.length < 8796093022207 then ((impl_someAnswers_1.f k p R most rules (list ++ [rd_Rule rules i]) (wrap64 (i + 1)) out).bind fun o => impl_someAnswers_1.l0 k p R most rules list o (wrap64 (i + 1))) else none) else none) else some out
end
theorem goesV_ {P : Program} {ops : Array Oper} {Q : Exit → Act → World → Prop} {oi : Oper} {N : Option Tmp} {a : Act} {w : World} {K : Act → World → Prop} {f : FuncId} {fn : Func} {fv : Operand} {xs : Array Operand} {ts : Array TypeId} (lb : Array Value) (hf : P.funcs[f]? = some fn) (hname : (fn.name == "runtime.NumGoroutine") = false) (hb : fn.body.isSome = true) (args : Array Value)
    (hw : Region.wanted oi (yielded ops a.tmps) = true) (hN : oi.dst = N) (hop : oi.op = .call { callee := .value fv, args := xs, argTypes := ts }) (hv : a.eval fv = .func (.func f) #[] lb) (hargs : xs.map a.eval = args)
    (h : Calls P f (args ++ lb) w fun e w' => ∃ v, e = .returned v ∧ K (a.put N v) w') : if Region.wanted oi (yielded ops a.tmps) = true then Oper.wp P oi a w K Q else K (a.put N undef) w := by
  refine call_ f (args ++ lb) hw hN ?_ h
  have he := enters_ hf hname hb (args ++ lb) w
  unfold execOp
  simp [hop, resolve, Deferred.ofValue, invoke, hv, hargs, he]
structure ChMv (g : Nat) (row : Option Nat) (w w' : World) : Prop where
  os : w'.os = w.os
  tape : w'.tape = w.tape
  output : w'.output = w.output
  size : w.heap.size ≤ w'.heap.size
  block : ∀ k, k < w.heap.size → k ≠ g → some k ≠ row → w'.heap[k]? = w.heap[k]?
section
variable {g : Nat} {row row' : Option Nat} {w w1 w2 : World}
theorem ChMv.of_below (h : Below w.heap.size w w1) : ChMv g row w w1 := ⟨h.os, h.tape, h.output, h.size, fun k hk _ _ => h.block k hk⟩
theorem ChMv.of_grown (h : w.grownBy w1 row) : ChMv g row w w1 := ⟨h.os, h.tape, h.output, h.size, fun k hk _ hr => h.block k hk hr⟩
theorem ChMv.refl (w : World) : ChMv g row w w := ChMv.of_below (Below.refl _ _)
theorem ChMv.trans (h : ChMv g row w w1) (h2 : ChMv g row' w1 w2) (hr : ∀ k, row' = some k → row = some k ∨ w.heap.size ≤ k) : ChMv g row w w2 :=
  ⟨h2.os.trans h.os, h2.tape.trans h.tape, h2.output.trans h.output, Nat.le_trans h.size h2.size, fun k hk hg hne => (h2.block k (Nat.lt_of_lt_of_le hk h.size) hg (fun e => by
    rcases hr k e.symm with hr | hb
    · exact hne hr.symm
    · omega)).trans (h.block k hk hg hne)⟩
theorem ChMv.then_below (h : ChMv g row w w1) (hb : Below w1.heap.size w1 w2) : ChMv g row w w2 := ChMv.trans h (ChMv.of_below (row := none) hb) (fun k hk => by simp at hk)
theorem ChMv.set (h : ChMv g row w w1) (u : Value) : ChMv g row w (w1.setCell ⟨g, 0, none⟩ u) :=
  ⟨h.os, h.tape, h.output, by simpa [World.setCell] using h.size, fun k hk hg hr => (Below.heap_setCell w1 ⟨g, 0, none⟩ u k hg).trans (h.block k hk hg hr)⟩
theorem ChMv.blk {b gL : Nat} {o : Obj} (h : ChMv g (some gL) w w1) (hb : w.heap[b]? = some o) (hne : b ≠ g ∧ b ≠ gL) : w1.heap[b]? = some o := (h.block b (blk_lt hb) hne.1 (by simpa using hne.2)).trans hb
end
def ChFix (w0 : World) (bs gL g gM gP gR gC : Nat) (p : ByteArray) (R most : Int) (AR : Option Addr) (cR : Nat) (rules : List SRule) : Prop :=
  (g < w0.heap.size ∧ g ≠ gL ∧ bs ≤ w0.heap.size) ∧ ((gM ≠ g ∧ gM ≠ gL) ∧ (gP ≠ g ∧ gP ≠ gL) ∧ (gR ≠ g ∧ gR ≠ gL) ∧ (gC ≠ g ∧ gC ≠ gL)) ∧ w0.heap[gM]? = some (.cells #[.int .i64 most] 3 (0, 0)) ∧ w0.heap[gP]? = some (.cells #[.string p, .int .i64 R] 27 (0, 0)) ∧ w0.heap[gR]? = some (.cells #[.slice AR rules.length cR] 47 (0, 0)) ∧ w0.heap[gC]? = some (.cells #[.func (.func 57) #[] #[.pointer (some ⟨g, 0, none⟩), .pointer (some ⟨gM, 0, none⟩), .pointer (some ⟨gP, 0, none⟩), .pointer (some ⟨gR, 0, none⟩), .pointer (some ⟨gC, 0, none⟩)]] 78 (0, 0)) ∧ rules.length ≤ cR ∧ (∀ W', ChMv g (some gL) w0 W' → Kd.C kRule W' AR rules.length rules)
def ChSt (w0 : World) (bs gL g : Nat) (vo : Value) (out : List (List SRule)) (W : World) : Prop :=
  W.heap[g]? = some (.cells #[vo] 35 (0, 0)) ∧ Kd.S (Kd.slice 61 kRule) 47 W bs (fun k => k = gL ∨ w0.heap.size ≤ k) vo out ∧ ChMv g (some gL) w0 W
theorem ChSt.below {w0 : World} {bs gL g : Nat} {vo : Value} {out : List (List SRule)} {W W1 : World} (h : ChSt w0 bs gL g vo out W) (hb : Below W.heap.size W W1) : ChSt w0 bs gL g vo out W1 :=
  ⟨blk_below h.1 hb, Kd.S_below h.2.1 hb, ChMv.then_below h.2.2 hb⟩
def ChRo (W : World) (vo v : Value) : Prop := ∀ k, v.ownBlock = some k → vo.ownBlock = some k ∨ W.heap.size ≤ k
theorem ch_list {w0 : World} {bs gL g b' : Nat} {ok' : Nat → Prop} {vo : Value} {out : List (List SRule)} {W W1 : World} {A : Option Addr} {c : Nat} {l : List SRule} (hS : ChSt w0 bs gL g vo out W) (h : Kd.R kRule 61 W b' ok' (.slice A l.length c) l) (hm : ChMv g vo.ownBlock W W1) : Kd.C kRule W1 A l.length l :=
  (Kd.R_reads' (Kd.R_step (Kd.R_bound h) (fun k hk hlt => hm.block k hlt (fun e => by
    obtain ⟨_, _, _, q, hq, cells', hc'⟩ := hk
    rw [e, hS.1] at hc'
    injection hc' with hc'
    injection hc' with _ hq'
    subst hq'
    revert hq
    decide) (fun e => by
    obtain ⟨cells, hc⟩ := Kd.S_typed hS.2.1 k e.symm
    obtain ⟨_, _, _, q, hq, cells', hc'⟩ := hk
    rw [hc] at hc'
    injection hc' with hc'
    injection hc' with _ hq'
    subst hq'
    revert hq
    decide)))).2.2
theorem ch_rules {gL g b' : Nat} {ok' : Nat → Prop} {W W1 : World} {cs : Array Value} {A : Option Addr} {c : Nat} {l : List SRule} (hG : W.heap[g]? = some (.cells cs 35 (0, 0))) (hL : ∃ cells, W.heap[gL]? = some (.cells cells 47 (0, 0))) (h : Kd.R kRule 61 W b' ok' (.slice A l.length c) l) (hm : ChMv g (some gL) W W1) : Kd.C kRule W1 A l.length l :=
  (Kd.R_reads' (Kd.R_step (Kd.R_bound h) (fun k hk hlt => hm.block k hlt (fun e => by
    obtain ⟨_, _, _, q, hq, cells', hc'⟩ := hk
    rw [e, hG] at hc'
    injection hc' with hc'
    injection hc' with _ hq'
    subst hq'
    revert hq
    decide) (fun e => by
    obtain ⟨cells, hc⟩ := hL
    obtain ⟨_, _, _, q, hq, cells', hc'⟩ := hk
    injection e with e
    rw [e, hc] at hc'
    injection hc' with hc'
    injection hc' with _ hq'
    subst hq'
    revert hq
    decide)))).2.2
theorem infoS_RuleA : (Tryd.prog.info? 47).map (fun i => (i.zero, i.size, i.bytes)) = some (some (.slice none 0 0), 1, 24) := by kernel_rfl
set_option maxHeartbeats 8000000 in
set_option maxRecDepth 100000 in
theorem impl_someAnswers_1.own (w0 : World) (bs gL g gM gP gR gC : Nat) (p : ByteArray) (R most : Int) (AR : Option Addr) (cR : Nat) (rules : List SRule) (hfix : Aside0 (ChFix w0 bs gL g gM gP gR gC p R most AR cR rules)) (k : Nat) : ∀ (list : List SRule) (frm : Int) (out r : List (List SRule)) (Al : Option Addr) (cl : Nat) (vo : Value) (W : World)
    (_ : ChSt w0 bs gL g vo out W) (_ : list.length ≤ cl) (_ : Kd.R kRule 61 W w0.heap.size (fun _ => True) (.slice Al list.length cl) list) (_ : Kd.S (Kd.slice 61 kRule) 47 W bs (fun k => (k = gL ∨ w0.heap.size ≤ k) ∧ some k ≠ (Value.slice Al list.length cl).ownBlock) vo out) (_ : impl_someAnswers_1.f k p R most rules list frm out = some r),
    Calls Tryd.prog 57 (#[.slice Al list.length cl, .int .i64 frm] ++ #[.pointer (some ⟨g, 0, none⟩), .pointer (some ⟨gM, 0, none⟩), .pointer (some ⟨gP, 0, none⟩), .pointer (some ⟨gR, 0, none⟩), .pointer (some ⟨gC, 0, none⟩)]) W fun e w' => e = .returned (.tuple #[]) ∧ ∃ v1, ChSt w0 bs gL g v1 r w' ∧ ChMv g vo.ownBlock W w' ∧ ChRo W vo v1 := by
  induction k using Nat.strongRecOn with
  | ind k ih =>
  intro list frm out r Al cl vo W hst hlc hown hap h
  have hcM : W.cell? ⟨gM, 0, none⟩ = some (.int .i64 most) := (blk_cell (ChMv.blk hst.2.2 hfix.out.2.2.1 hfix.out.2.1.1) 0).trans rfl
  have hcP0 : W.cell? ⟨gP, 0, none⟩ = some (.string p) := (blk_cell (ChMv.blk hst.2.2 hfix.out.2.2.2.1 hfix.out.2.1.2.1) 0).trans rfl
  have hcP1 : W.cell? ⟨gP, 1, none⟩ = some (.int .i64 R) := (blk_cell (ChMv.blk hst.2.2 hfix.out.2.2.2.1 hfix.out.2.1.2.1) 1).trans rfl
  have hS0 := hst.2.1
  obtain ⟨Ao, co, eo⟩ := Kd.S_slice hS0
  subst eo
  have hcG : W.cell? ⟨g, 0, none⟩ = some (.slice Ao out.length co) := (blk_cell hst.1 0).trans rfl
  have HLC := Aside0.mk (show ∀ W1, ChMv g (Value.slice Ao out.length co).ownBlock W W1 → Kd.C kRule W1 Al list.length list from fun W1 hm => ch_list hst hown hm)
  have IH := Aside0.mk ih
  have HST0 := Aside0.mk hst
  have HLE := Aside0.mk hlc
  have HOWN := Aside0.mk hown
  have HAP := Aside0.mk hap
  have HG := Aside0.mk hfix.out.1
  clear ih hst hlc hown hap hS0
  cases k with
  | zero => exact absurd h (by simp [impl_someAnswers_1.f])
  | succ k =>
    simp only [impl_someAnswers_1.f] at h
    by_cases c1_ : (out.length : Int) = most
    · rw [if_pos c1_] at h
      have c1b : ((out.length : Int) == most) = true := beq_iff_eq.mpr c1_
      have HR := Aside0.mk (Option.some.inj h)
      clear c1_ h
      go_enter Tryd.func57, Tryd.ntmps57
      go_wp2
      (first | (refine bodyPost_ret (results_none rfl _ _ _) rfl ?_) | go_end0)
      exact ⟨rfl, _, by rw [← HR.out]; exact HST0.out, ChMv.refl _, fun _ h_ => .inl h_⟩
    · rw [if_neg c1_] at h
      have c1b : ((out.length : Int) == most) = false := beq_eq_false_iff_ne.mpr c1_
      clear c1_
      by_cases c2_ : (list.length : Int) = R
      · rw [if_pos c2_] at h
        have c2b : ((list.length : Int) == R) = true := beq_iff_eq.mpr c2_
        clear c2_
        replace h := Option.bind_eq_some_iff.mp h
        obtain ⟨t, A0_, h⟩ := h
        have A_ := Aside0.mk A0_
        clear A0_
        cases t with
        | true =>
          rw [if_pos rfl] at h
          by_cases c3_ : out.length < 5864062014805
          · rw [if_pos c3_] at h
            have HLO := Aside0.mk c3_
            have HR := Aside0.mk (Option.some.inj h)
            clear c3_ h
            go_enter Tryd.func57, Tryd.ntmps57
            go_wp2_with (first | ((with_reducible refine gate_callee (f := 58) rfl ?_); refine goesL_ (some 22) rfl rfl Tryd.func58 (by kernel_rfl) rfl #[.string p, .slice Al list.length cl] rfl k84_ ?_; (with_reducible refine (impl_agrees.calls k p _ _ list true _ ?side1 ?side2 A_.out).mono ?_); (case side1 => exact HLC.out _ (ChMv.refl _)); (case side2 => exact HLE.out); rintro e w1 ⟨rfl, hb⟩; refine ⟨_, rfl, ?_⟩; have HB1 := Aside0.mk hb; have hcG1 : w1.cell? ⟨g, 0, none⟩ = some (.slice Ao out.length co) := (blk_cell (blk_below HST0.out.1 hb) 0).trans rfl; clear hb) | ((with_reducible refine gate_builtin (b := .append) (xs := #[.tmp 23, .tmp 25]) rfl ?_); at_builtin; refine Kd.S_append (Kd.slice 61 kRule) (w0 := w1) bs rfl (.tmp 23) (.tmp 25) 35 47 (.slice none 0 0) 24 rfl Tryd.underlying35 infoS_RuleA rfl (by decide) (by omega) (.slice Ao out.length co) out list [.slice Al list.length cl] (fun k_ => k_ = gL ∨ w0.heap.size ≤ k_) (fun k_ => some k_ = (.slice Al list.length cl : Value).ownBlock) rfl rfl ?aP ?aK ?aF ?aO ?aB ?aS ?aL ?_; (case aP => exact Kd.M_row (Kd.R_tight rfl (Kd.R_lower (Kd.R_below HOWN.out HB1.out) HG.out.2.2))); (case aF => exact (fun k_ hk => .inr (Nat.le_trans (Nat.le_trans HST0.out.2.2.size HB1.out.size) hk))); (case aK => exact (fun k_ hk => ⟨.inr (Kd.R_base HOWN.out k_ hk.symm), fun e_ => ((Kd.S_R HAP.out).1 k_ e_.symm).2 hk⟩)); (case aO => exact Kd.S_below HAP.out HB1.out); (case aB => exact Below.refl _ _); (case aS => exact Nat.le_trans HG.out.2.2 (Nat.le_trans HST0.out.2.2.size HB1.out.size)); (case aL => have h_ := HLO.out; omega); intro v1 w4 ho hb hg hat; rw [HR.out] at ho; obtain ⟨A1v, c1v, e1v⟩ := Kd.S_slice ho; subst e1v; have HO4 := Aside0.mk ho; have HG4 := Aside0.mk hg; have HAT := Aside0.mk hat; have hbk4 := blk_grown (blk_below HST0.out.1 HB1.out) hg (fun e_ => by have h1_ := (Kd.S_R HST0.out.2.1).1 g e_.symm; have h2_ := HG.out; omega); have HK4 := Aside0.mk hbk4; have hcG4 : w4.cell? ⟨g, 0, none⟩ = some (.slice Ao out.length co) := (blk_cell hbk4 0).trans rfl; have hfG4 := blk_frozen hbk4 0; clear ho hb hg hat hbk4))
            (first | (refine bodyPost_ret (results_none rfl _ _ _) rfl ?_) | go_end0)
            refine ⟨rfl, (.slice A1v r.length c1v), ?_, ?_, ?_⟩
            · refine ⟨blk_put HK4.out 0 (.slice A1v r.length c1v) rfl, ?_, ?_⟩
              · exact Kd.S_mono (Kd.S_far (p := ⟨g, 0, none⟩) (Kd.S_bound HO4.out) (fun k_ hk => by have h1_ := hk.1; have h2_ := HG.out; show k_ ≠ g; omega) (.slice A1v r.length c1v)) (fun _ hk => hk.1)
              · exact ChMv.set (ChMv.trans (ChMv.then_below HST0.out.2.2 HB1.out) (ChMv.of_grown HG4.out) (fun k_ hk => ((Kd.S_R HST0.out.2.1).1 k_ hk).imp (fun e_ => by rw [e_]) id)) _
            · exact ChMv.set (ChMv.trans (ChMv.of_below HB1.out) (ChMv.of_grown HG4.out) (fun _ h_ => .inl h_)) _
            · exact (fun k_ hk => HAT.out.elim (fun e_ => .inl (e_ ▸ hk)) (fun ⟨b_, e_, hb_⟩ => .inr (by rw [e_] at hk; injection hk with hk; have := HB1.out.size; omega)))
          · rw [if_neg c3_] at h
            exact absurd h (by simp)
        | false =>
          rw [if_neg (by decide)] at h
          have HR := Aside0.mk (Option.some.inj h)
          clear h
          go_enter Tryd.func57, Tryd.ntmps57
          go_wp2_with (((with_reducible refine gate_callee (f := 58) rfl ?_); refine goesL_ (some 22) rfl rfl Tryd.func58 (by kernel_rfl) rfl #[.string p, .slice Al list.length cl] rfl k84_ ?_; (with_reducible refine (impl_agrees.calls k p _ _ list false _ ?side1 ?side2 A_.out).mono ?_); (case side1 => exact HLC.out _ (ChMv.refl _)); (case side2 => exact HLE.out); rintro e w1 ⟨rfl, hb⟩; refine ⟨_, rfl, ?_⟩; have HB1 := Aside0.mk hb; clear hb))
          (first | (refine bodyPost_ret (results_none rfl _ _ _) rfl ?_) | go_end0)
          exact ⟨rfl, _, by rw [← HR.out]; exact ChSt.below HST0.out HB1.out, ChMv.of_below HB1.out, fun _ h_ => .inl h_⟩
      · rw [if_neg c2_] at h
        have c2b : ((list.length : Int) == R) = false := beq_eq_false_iff_ne.mpr c2_
        clear c2_
        have H' := Aside0.mk h
        clear h
        have HMV0 := Aside0.mk (ChMv.refl (g := g) (row := (Value.slice Ao out.length co).ownBlock) W)
        have HRO0 := Aside0.mk (show ChRo W (Value.slice Ao out.length co) (Value.slice Ao out.length co) from fun _ h_ => .inl h_)
        go_enter Tryd.func57, Tryd.ntmps57
        go_wp2
        go_loopg [9] k (fun kq v9 wx => ∃ (o : List (List SRule)) (i : Int) (vq : Value), v9 = .int .i64 i ∧ Aside0 (impl_someAnswers_1.l0 kq p R most rules list o i = some r) ∧ Aside0 (kq ≤ k) ∧ Aside0 (ChSt w0 bs gL g vq o wx) ∧ Aside0 (ChMv g (Value.slice Ao out.length co).ownBlock W wx) ∧ Aside0 (ChRo W (Value.slice Ao out.length co) vq))
        case atStart => exact ⟨out, frm, _, rfl, H', ⟨Nat.le_refl _⟩, HST0, HMV0, HRO0⟩
        case round =>
          clear H' HMV0 HRO0 hcG hcM hcP0 hcP1
          obtain ⟨o, i, vq, rfl, HA_, HK, HST, HMV, HRO⟩ := hrel
          cases gk with
          | zero => exact absurd HA_.out (by simp [impl_someAnswers_1.l0])
          | succ k1 =>
            have H := HA_.out
            clear HA_
            simp only [impl_someAnswers_1.l0] at H
            have hcR : wr.cell? ⟨gR, 0, none⟩ = some (.slice AR rules.length cR) := (blk_cell (ChMv.blk HST.out.2.2 hfix.out.2.2.2.2.1 hfix.out.2.1.2.2.1) 0).trans rfl
            by_cases c1_ : i < (rules.length : Int)
            · rw [if_pos c1_] at H
              have c1b_ : decide (i < (rules.length : Int)) = true := decide_eq_true c1_
              by_cases c2_ : 0 ≤ i
              · rw [if_pos c2_] at H
                have c2b_ : decide (0 ≤ i) = true := decide_eq_true c2_
                by_cases c3_ : list.length < 8796093022207
                · rw [if_pos c3_] at H
                  have HLB := Aside0.mk c3_
                  clear c3_
                  replace H := Option.bind_eq_some_iff.mp H
                  obtain ⟨o2, A0_, H⟩ := H
                  have A_ := Aside0.mk A0_
                  have H' := Aside0.mk H
                  clear A0_ H
                  obtain ⟨Aq, cq, eq_⟩ := Kd.S_slice HST.out.2.1
                  subst eq_
                  obtain ⟨ad, e_, hx0, hx1⟩ := at_Rule (hfix.out.2.2.2.2.2.2.2 _ HST.out.2.2) i c2_ c1_
                  subst e_
                  have hcC : wr.cell? ⟨gC, 0, none⟩ = some (.func (.func 57) #[] #[.pointer (some ⟨g, 0, none⟩), .pointer (some ⟨gM, 0, none⟩), .pointer (some ⟨gP, 0, none⟩), .pointer (some ⟨gR, 0, none⟩), .pointer (some ⟨gC, 0, none⟩)]) := (blk_cell (ChMv.blk HST.out.2.2 hfix.out.2.2.2.2.2.1 hfix.out.2.1.2.2.2) 0).trans rfl
                  have HXc := Aside0.mk (show wr.drew.cell? ⟨gC, 0, none⟩ = _ from hcC)
                  have HXr := Aside0.mk (show wr.drew.cell? ⟨gR, 0, none⟩ = _ from hcR)
                  have HX0 := Aside0.mk (show wr.drew.cell? (ad.add (i.toNat * 2)) = _ from hx0)
                  have HX1 := Aside0.mk (show wr.drew.cell? ⟨(ad.add (i.toNat * 2)).block, (ad.add (i.toNat * 2)).off + 1, none⟩ = _ from hx1)
                  have HBx := Aside0.mk (below_drew1 (Below.refl wr.heap.size wr))
                  clear hx0 hx1 hcC
                  go_wp2
                  refine start_ (n := 13) (S := fun w' => w'.cell? ⟨gC, 0, none⟩ = some (.func (.func 57) #[] #[.pointer (some ⟨g, 0, none⟩), .pointer (some ⟨gM, 0, none⟩), .pointer (some ⟨gP, 0, none⟩), .pointer (some ⟨gR, 0, none⟩), .pointer (some ⟨gC, 0, none⟩)]) ∧ w'.cell? ⟨gR, 0, none⟩ = some (.slice (some ad) rules.length cR) ∧ w'.cell? (ad.add (i.toNat * 2)) = some (.int .i64 (rd_Rule rules i).f0) ∧ w'.cell? ⟨(ad.add (i.toNat * 2)).block, (ad.add (i.toNat * 2)).off + 1, none⟩ = some (.int .i64 (rd_Rule rules i).f1)) (ds := [12]) #[false, false, false, false, false, false, false, false, false, false, false, false, false] (by kernel_rfl) rfl rfl ⟨HXc.out, HXr.out, HX0.out, HX1.out⟩ (fun hHeld => ?_)
                  generalize wr.drew = wS at HXc HXr HX0 HX1 HBx hHeld ⊢
                  have HBc := Aside0.mk (Below.refl wS.heap.size wS)
                  refine pure_ (i := 2) (N := some 36) (v := ?_) (a' := ?_) #[false, false, true, false, false, false, false, false, false, false, false, false, false] rfl rfl (by kernel_rfl) (fun _ _ _ h => h) (Or.inl ⟨by rfl, ?_⟩) ?_ ?_
                  rotate_left
                  · intro w'
                    go_simp
                    with_reducible rfl
                  rotate_left
                  · simp only [Act.put, List.setIfInBounds_toArray, List.set_cons_zero, List.set_cons_succ, i64_w, i32_w]
                    rfl
                  refine pure_ (i := 5) (N := some 39) (v := ?_) (a' := ?_) #[false, false, true, false, false, true, false, false, false, false, false, false, false] rfl rfl (by kernel_rfl) (fun _ _ _ h => h) (Or.inl ⟨by rfl, ?_⟩) ?_ ?_
                  rotate_left
                  · intro w'
                    go_simp
                    with_reducible rfl
                  rotate_left
                  · simp only [Act.put, List.setIfInBounds_toArray, List.set_cons_zero, List.set_cons_succ, i64_w, i32_w]
                    rfl
                  refine pure_ (i := 10) (N := some 44) (v := ?_) (a' := ?_) #[false, false, true, false, false, true, false, false, false, false, true, false, false] rfl rfl (by kernel_rfl) (fun _ _ _ h => h) (Or.inl ⟨by rfl, ?_⟩) ?_ ?_
                  rotate_left
                  · intro w'
                    go_simp
                    with_reducible rfl
                  rotate_left
                  · simp only [Act.put, List.setIfInBounds_toArray, List.set_cons_zero, List.set_cons_succ, i64_w, i32_w]
                    rfl
                  refine pure_ (i := 11) (N := some 45) (v := ?_) (a' := ?_) #[false, false, true, false, false, true, false, false, false, false, true, true, false] rfl rfl (by kernel_rfl) (fun _ _ _ h => h) (Or.inl ⟨by rfl, ?_⟩) ?_ ?_
                  rotate_left
                  · intro w'
                    go_simp
                    with_reducible rfl
                  rotate_left
                  · simp only [Act.put, List.setIfInBounds_toArray, List.set_cons_zero, List.set_cons_succ, i64_w, i32_w]
                    rfl
                  refine take_ (i := 0) (N := some 34) (v := ?_) (a' := ?_) #[true, false, true, false, false, true, false, false, false, false, true, true, false] rfl rfl (by kernel_rfl) (fun _ _ _ h => h) (Or.inl ⟨by rfl, ?_⟩) hHeld ?_ ?_
                  rotate_left
                  · rintro w' ⟨s0, s1, s2, s3⟩
                    go_simp
                    with_reducible rfl
                  rotate_left
                  · simp only [Act.put, List.setIfInBounds_toArray, List.set_cons_zero, List.set_cons_succ, i64_w, i32_w]
                    rfl
                  refine take_ (i := 4) (N := some 38) (v := ?_) (a' := ?_) #[true, false, true, false, true, true, false, false, false, false, true, true, false] rfl rfl (by kernel_rfl) (fun _ _ _ h => h) (Or.inl ⟨by rfl, ?_⟩) hHeld ?_ ?_
                  rotate_left
                  · rintro w' ⟨s0, s1, s2, s3⟩
                    go_simp
                    with_reducible rfl
                  rotate_left
                  · simp only [Act.put, List.setIfInBounds_toArray, List.set_cons_zero, List.set_cons_succ, i64_w, i32_w]
                    rfl
                  refine pure_ (i := 6) (N := some 40) (v := ?_) (a' := ?_) #[true, false, true, false, true, true, true, false, false, false, true, true, false] rfl rfl (by kernel_rfl) (fun _ _ _ h => h) (Or.inl ⟨by rfl, ?_⟩) ?_ ?_
                  rotate_left
                  · intro w'
                    go_simp
                    with_reducible rfl
                  rotate_left
                  · simp only [Act.put, List.setIfInBounds_toArray, List.set_cons_zero, List.set_cons_succ, i64_w, i32_w]
                    rfl
                  refine take_ (i := 7) (N := some 41) (v := ?_) (a' := ?_) #[true, false, true, false, true, true, true, true, false, false, true, true, false] rfl rfl (by kernel_rfl) (fun _ _ _ h => h) (Or.inl ⟨by rfl, ?_⟩) hHeld ?_ ?_
                  rotate_left
                  · rintro w' ⟨s0, s1, s2, s3⟩
                    go_simp
                    with_reducible rfl
                  rotate_left
                  · simp only [Act.put, List.setIfInBounds_toArray, List.set_cons_zero, List.set_cons_succ, i64_w, i32_w]
                    rfl
                  refine join_ (σ := Value × Value × Value) 2 #[true, true, true, true, true, true, true, true, true, false, true, true, false] (fun s_ => [(35, s_.1), (37, s_.2.1), (42, s_.2.2)]) (fun s_ w' => Kd.R kRule 61 w' wS.heap.size (fun _ => True) s_.2.1 list ∧ Kd.R kRule 61 w' wS.heap.size (fun _ => True) s_.2.2 [rd_Rule rules i] ∧ Below wS.heap.size wS w') ?_ ?_
                  rotate_left
                  · intro hCont
                    refine two_ (i := 1) (j := 8) (Ni := some 35) (Nj := some 42) #[true, true, true, false, true, true, true, true, false, false, true, true, false] #[true, false, true, false, true, true, true, true, true, false, true, true, false] rfl rfl rfl rfl (by kernel_rfl) (by decide) (by decide) (fun K hK => ?_) (fun K hK => ?_)
                    · skip
                      refine Kd.R_lit_step kRule _ 61 ?hg (N := 35) ?hd (xs := ([] : List SRule)) (inner := []) (ok := fun _ => True) (okp := fun _ => True) ?hr ?hp (fun _ hk => hk) trivial (Below.refl _ _) (Nat.le_refl _) (by simp) ?_
                      (case hd => rfl)
                      (case hg => rfl)
                      (case hr => exact k99_)
                      (case hp => exact Reps.none _ _)
                      intro v35 w1_0 ho hb hg_ hnew_
                      clear hg_ hnew_
                      have HL0 := Aside0.mk (Kd.R_lower ho (below_size HBc.out))
                      clear ho
                      have n9_ := Aside0.mk (below_step HBc.out hb)
                      clear HBc hb
                      have HBc := n9_
                      clear n9_
                      refine hK.out _ _ ⟨(pw_cell_below HBc.out HXc.out), (pw_cell_below HBc.out HXr.out), (pw_cell_below HBc.out HX0.out), (pw_cell_below HBc.out HX1.out)⟩ (fun hHeld => ?_)
                      clear hK K
                      refine norm_ (a' := ?_) ?_ ?_
                      rotate_left
                      · show Act.put _ (some 35) _ = _
                        simp only [Act.put, List.setIfInBounds_toArray, List.set_cons_zero, List.set_cons_succ, i64_w, i32_w]
                        rfl
                      refine two_ (i := 3) (j := 8) (Ni := some 37) (Nj := some 42) #[true, true, true, true, true, true, true, true, false, false, true, true, false] #[true, true, true, false, true, true, true, true, true, false, true, true, false] rfl rfl rfl rfl (by kernel_rfl) (by decide) (by decide) (fun K hK => ?_) (fun K hK => ?_)
                      · skip
                        refine Kd.R_append_rows_step kRule (w0 := wS) wS.heap.size (by rfl) (.tmp 35) (.tmp 36) 47 61 (.agg #[(.int .i64 0), (.int .i64 0)]) 16 rfl Tryd.underlying47 infoE_Rule rfl (by decide) (by omega) v35 ([] : List SRule) list _ _ _ (fun _ => True) (fun _ => False) rfl rfl HL0.out ?aR (fun _ _ h => h) (fun _ h => h.elim) (fun _ _ => trivial) HBc.out (below_size HBc.out) ?aL ?_
                        (case aR => exact HLC.out _ (ChMv.then_below (ChMv.then_below HMV.out HBx.out) HBc.out))
                        (case aL => have h_ := HLB.out; simp only [List.length_nil]; omega)
                        intro v37 w3_1 ho hb hg hat_
                        simp only [List.nil_append] at ho
                        clear hg hat_ HL0 HBc
                        have HA := Aside0.mk ho
                        have HBc := Aside0.mk hb
                        clear ho hb
                        refine hK.out _ _ ⟨(pw_cell_below HBc.out HXc.out), (pw_cell_below HBc.out HXr.out), (pw_cell_below HBc.out HX0.out), (pw_cell_below HBc.out HX1.out)⟩ (fun hHeld => ?_)
                        clear hK K
                        refine norm_ (a' := ?_) ?_ ?_
                        rotate_left
                        · show Act.put _ (some 37) _ = _
                          simp only [Act.put, List.setIfInBounds_toArray, List.set_cons_zero, List.set_cons_succ, i64_w, i32_w]
                          rfl
                        refine one_ (i := 8) (N := some 42) #[true, true, true, true, true, true, true, true, true, false, true, true, false] rfl rfl (by kernel_rfl) (by decide) (fun K hK => ?_)
                        refine Kd.R_lit_step kRule _ 61 ?hg (N := 42) ?hd (xs := ([rd_Rule rules i] : List SRule)) (inner := [.int .i64 (rd_Rule rules i).f0, .int .i64 (rd_Rule rules i).f1]) (ok := fun _ => True) (okp := fun _ => True) ?hr ?hp (fun _ hk => hk) trivial (Below.refl _ _) (Nat.le_refl _) (by simp) ?_
                        (case hd => rfl)
                        (case hg => rfl)
                        (case hr => exact k99_)
                        (case hp => exact Reps.front (kRule_mkM _ _ _ (rd_Rule rules i)) rfl (Reps.none _ _) rfl)
                        intro v42 w8_2 ho hb hg_ hnew_
                        clear hg_ hnew_
                        have n1_ := Aside0.mk (Kd.R_below HA.out hb)
                        clear HA
                        have HA := n1_
                        clear n1_
                        have HL1 := Aside0.mk (Kd.R_lower ho (below_size HBc.out))
                        clear ho
                        have n9_ := Aside0.mk (below_step HBc.out hb)
                        clear HBc hb
                        have HBc := n9_
                        clear n9_
                        refine hK.out _ _ ⟨(pw_cell_below HBc.out HXc.out), (pw_cell_below HBc.out HXr.out), (pw_cell_below HBc.out HX0.out), (pw_cell_below HBc.out HX1.out)⟩ (fun hHeld => ?_)
                        clear hK K
                        refine norm_ (a' := ?_) ?_ ?_
                        rotate_left
                        · show Act.put _ (some 42) _ = _
                          simp only [Act.put, List.setIfInBounds_toArray, List.set_cons_zero, List.set_cons_succ, i64_w, i32_w]
                          rfl
                        exact norm_ k80_ (hCont (v35, v37, v42) _ ⟨HA.out, Kd.R_mono HL1.out (fun _ _ => trivial), HBc.out⟩)
                      · skip
                        refine Kd.R_lit_step kRule _ 61 ?hg (N := 42) ?hd (xs := ([rd_Rule rules i] : List SRule)) (inner := [.int .i64 (rd_Rule rules i).f0, .int .i64 (rd_Rule rules i).f1]) (ok := fun _ => True) (okp := fun _ => True) ?hr ?hp (fun _ hk => hk) trivial (Below.refl _ _) (Nat.le_refl _) (by simp) ?_
                        (case hd => rfl)
                        (case hg => rfl)
                        (case hr => exact k99_)
                        (case hp => exact Reps.front (kRule_mkM _ _ _ (rd_Rule rules i)) rfl (Reps.none _ _) rfl)
                        intro v42 w8_1 ho hb hg_ hnew_
                        clear hg_ hnew_
                        have HL1 := Aside0.mk (Kd.R_mono (Kd.R_lower (Kd.R_new' ho (Kd.R_lt HL0.out)) (below_size HBc.out)) (fun _ hk => hk.2))
                        have n1_ := Aside0.mk (Kd.R_below HL0.out hb)
                        clear HL0 ho
                        have HL0 := n1_
                        clear n1_
                        have n9_ := Aside0.mk (below_step HBc.out hb)
                        clear HBc hb
                        have HBc := n9_
                        clear n9_
                        refine hK.out _ _ ⟨(pw_cell_below HBc.out HXc.out), (pw_cell_below HBc.out HXr.out), (pw_cell_below HBc.out HX0.out), (pw_cell_below HBc.out HX1.out)⟩ (fun hHeld => ?_)
                        clear hK K
                        refine norm_ (a' := ?_) ?_ ?_
                        rotate_left
                        · show Act.put _ (some 42) _ = _
                          simp only [Act.put, List.setIfInBounds_toArray, List.set_cons_zero, List.set_cons_succ, i64_w, i32_w]
                          rfl
                        refine one_ (i := 3) (N := some 37) #[true, true, true, true, true, true, true, true, true, false, true, true, false] rfl rfl (by kernel_rfl) (by decide) (fun K hK => ?_)
                        refine Kd.R_append_rows_step kRule (w0 := wS) wS.heap.size (by rfl) (.tmp 35) (.tmp 36) 47 61 (.agg #[(.int .i64 0), (.int .i64 0)]) 16 rfl Tryd.underlying47 infoE_Rule rfl (by decide) (by omega) v35 ([] : List SRule) list _ _ _ (fun _ => True) (fun _ => False) rfl rfl HL0.out ?aR (fun _ _ h => h) (fun _ h => h.elim) (fun _ _ => trivial) HBc.out (below_size HBc.out) ?aL ?_
                        (case aR => exact HLC.out _ (ChMv.then_below (ChMv.then_below HMV.out HBx.out) HBc.out))
                        (case aL => have h_ := HLB.out; simp only [List.length_nil]; omega)
                        intro v37 w3_2 ho hb hg hat_
                        simp only [List.nil_append] at ho
                        have n1_ := Aside0.mk (Kd.R_grown HL1.out hg (fun _ hk => hk))
                        clear HL1
                        have HL1 := n1_
                        clear n1_
                        clear hg hat_ HL0 HBc
                        have HA := Aside0.mk ho
                        have HBc := Aside0.mk hb
                        clear ho hb
                        refine hK.out _ _ ⟨(pw_cell_below HBc.out HXc.out), (pw_cell_below HBc.out HXr.out), (pw_cell_below HBc.out HX0.out), (pw_cell_below HBc.out HX1.out)⟩ (fun hHeld => ?_)
                        clear hK K
                        refine norm_ (a' := ?_) ?_ ?_
                        rotate_left
                        · show Act.put _ (some 37) _ = _
                          simp only [Act.put, List.setIfInBounds_toArray, List.set_cons_zero, List.set_cons_succ, i64_w, i32_w]
                          rfl
                        exact norm_ k80_ (hCont (v35, v37, v42) _ ⟨HA.out, Kd.R_mono HL1.out (fun _ _ => trivial), HBc.out⟩)
                    · skip
                      refine Kd.R_lit_step kRule _ 61 ?hg (N := 42) ?hd (xs := ([rd_Rule rules i] : List SRule)) (inner := [.int .i64 (rd_Rule rules i).f0, .int .i64 (rd_Rule rules i).f1]) (ok := fun _ => True) (okp := fun _ => True) ?hr ?hp (fun _ hk => hk) trivial (Below.refl _ _) (Nat.le_refl _) (by simp) ?_
                      (case hd => rfl)
                      (case hg => rfl)
                      (case hr => exact k99_)
                      (case hp => exact Reps.front (kRule_mkM _ _ _ (rd_Rule rules i)) rfl (Reps.none _ _) rfl)
                      intro v42 w8_0 ho hb hg_ hnew_
                      clear hg_ hnew_
                      have HL1 := Aside0.mk (Kd.R_lower ho (below_size HBc.out))
                      clear ho
                      have n9_ := Aside0.mk (below_step HBc.out hb)
                      clear HBc hb
                      have HBc := n9_
                      clear n9_
                      refine hK.out _ _ ⟨(pw_cell_below HBc.out HXc.out), (pw_cell_below HBc.out HXr.out), (pw_cell_below HBc.out HX0.out), (pw_cell_below HBc.out HX1.out)⟩ (fun hHeld => ?_)
                      clear hK K
                      refine norm_ (a' := ?_) ?_ ?_
                      rotate_left
                      · show Act.put _ (some 42) _ = _
                        simp only [Act.put, List.setIfInBounds_toArray, List.set_cons_zero, List.set_cons_succ, i64_w, i32_w]
                        rfl
                      refine one_ (i := 1) (N := some 35) #[true, true, true, false, true, true, true, true, true, false, true, true, false] rfl rfl (by kernel_rfl) (by decide) (fun K hK => ?_)
                      refine Kd.R_lit_step kRule _ 61 ?hg (N := 35) ?hd (xs := ([] : List SRule)) (inner := []) (ok := fun _ => True) (okp := fun _ => True) ?hr ?hp (fun _ hk => hk) trivial (Below.refl _ _) (Nat.le_refl _) (by simp) ?_
                      (case hd => rfl)
                      (case hg => rfl)
                      (case hr => exact k99_)
                      (case hp => exact Reps.none _ _)
                      intro v35 w1_1 ho hb hg_ hnew_
                      clear hg_ hnew_
                      have n1_ := Aside0.mk (Kd.R_mono (Kd.R_elder' HL1.out (Kd.R_base ho) hb) (fun _ hk => hk.2))
                      clear HL1
                      have HL1 := n1_
                      clear n1_
                      have HL0 := Aside0.mk (Kd.R_lower ho (below_size HBc.out))
                      clear ho
                      have n9_ := Aside0.mk (below_step HBc.out hb)
                      clear HBc hb
                      have HBc := n9_
                      clear n9_
                      refine hK.out _ _ ⟨(pw_cell_below HBc.out HXc.out), (pw_cell_below HBc.out HXr.out), (pw_cell_below HBc.out HX0.out), (pw_cell_below HBc.out HX1.out)⟩ (fun hHeld => ?_)
                      clear hK K
                      refine norm_ (a' := ?_) ?_ ?_
                      rotate_left
                      · show Act.put _ (some 35) _ = _
                        simp only [Act.put, List.setIfInBounds_toArray, List.set_cons_zero, List.set_cons_succ, i64_w, i32_w]
                        rfl
                      refine one_ (i := 3) (N := some 37) #[true, true, true, true, true, true, true, true, true, false, true, true, false] rfl rfl (by kernel_rfl) (by decide) (fun K hK => ?_)
                      refine Kd.R_append_rows_step kRule (w0 := wS) wS.heap.size (by rfl) (.tmp 35) (.tmp 36) 47 61 (.agg #[(.int .i64 0), (.int .i64 0)]) 16 rfl Tryd.underlying47 infoE_Rule rfl (by decide) (by omega) v35 ([] : List SRule) list _ _ _ (fun _ => True) (fun _ => False) rfl rfl HL0.out ?aR (fun _ _ h => h) (fun _ h => h.elim) (fun _ _ => trivial) HBc.out (below_size HBc.out) ?aL ?_
                      (case aR => exact HLC.out _ (ChMv.then_below (ChMv.then_below HMV.out HBx.out) HBc.out))
                      (case aL => have h_ := HLB.out; simp only [List.length_nil]; omega)
                      intro v37 w3_2 ho hb hg hat_
                      simp only [List.nil_append] at ho
                      have n1_ := Aside0.mk (Kd.R_grown HL1.out hg (fun _ hk => hk))
                      clear HL1
                      have HL1 := n1_
                      clear n1_
                      clear hg hat_ HL0 HBc
                      have HA := Aside0.mk ho
                      have HBc := Aside0.mk hb
                      clear ho hb
                      refine hK.out _ _ ⟨(pw_cell_below HBc.out HXc.out), (pw_cell_below HBc.out HXr.out), (pw_cell_below HBc.out HX0.out), (pw_cell_below HBc.out HX1.out)⟩ (fun hHeld => ?_)
                      clear hK K
                      refine norm_ (a' := ?_) ?_ ?_
                      rotate_left
                      · show Act.put _ (some 37) _ = _
                        simp only [Act.put, List.setIfInBounds_toArray, List.set_cons_zero, List.set_cons_succ, i64_w, i32_w]
                        rfl
                      exact norm_ k80_ (hCont (v35, v37, v42) _ ⟨HA.out, Kd.R_mono HL1.out (fun _ _ => trivial), HBc.out⟩)
                  rintro ⟨v35, v37, v42⟩ wJ ⟨ha_, hl_, hb_⟩
                  clear HBc
                  have HA := Aside0.mk ha_
                  have HL1 := Aside0.mk hl_
                  have HBc := Aside0.mk hb_
                  clear ha_ hl_ hb_
                  obtain ⟨A42, c42, e42⟩ := Kd.R_slice HL1.out
                  dsimp only at e42
                  subst e42
                  refine norm_ (a' := ?_) ?_ ?_
                  rotate_left
                  · simp only [putAll, Act.put, List.setIfInBounds_toArray, List.set_cons_zero, List.set_cons_succ]
                    rfl
                  refine one_ (i := 9) (N := some 43) #[true, true, true, true, true, true, true, true, true, true, true, true, false] rfl rfl (by kernel_rfl) (by decide) (fun K hK => ?_)
                  refine Kd.R_append_rows_step kRule (w0 := wS) wS.heap.size (by rfl) (.tmp 37) (.tmp 42) 47 61 (.agg #[(.int .i64 0), (.int .i64 0)]) 16 rfl Tryd.underlying47 infoE_Rule rfl (by decide) (by omega) v37 list [rd_Rule rules i] _ _ _ (fun _ => True) (fun _ => False) rfl rfl HA.out ?aR (fun _ _ h => h) (fun _ h => h.elim) (fun _ _ => trivial) HBc.out (below_size HBc.out) ?aL ?_
                  (case aR => exact (Kd.R_reads' HL1.out).2.2)
                  (case aL => have h_ := HLB.out; simp only [List.length_singleton]; omega)
                  intro v43 wB ho hb hg hat_
                  clear hg hat_ HA HL1 HBc
                  have HA := Aside0.mk ho
                  have HBc := Aside0.mk hb
                  clear ho hb
                  obtain ⟨A43, c43, e43⟩ := Kd.R_slice HA.out
                  subst e43
                  refine hK.out _ _ ⟨(pw_cell_below HBc.out HXc.out), (pw_cell_below HBc.out HXr.out), (pw_cell_below HBc.out HX0.out), (pw_cell_below HBc.out HX1.out)⟩ (fun hHeld => ?_)
                  clear hK K
                  refine norm_ (a' := ?_) ?_ ?_
                  rotate_left
                  · show Act.put _ (some 43) _ = _
                    simp only [Act.put, List.setIfInBounds_toArray, List.set_cons_zero, List.set_cons_succ, i64_w, i32_w]
                    rfl
                  refine last_ (i := 12) (N := some 46) #[true, true, true, true, true, true, true, true, true, true, true, true, true] rfl rfl (by kernel_rfl) (by decide) (fun K hK => ?_)
                  refine goesV_ #[.pointer (some ⟨g, 0, none⟩), .pointer (some ⟨gM, 0, none⟩), .pointer (some ⟨gP, 0, none⟩), .pointer (some ⟨gR, 0, none⟩), .pointer (some ⟨gC, 0, none⟩)] Tryd.func57 (by kernel_rfl) rfl #[.slice A43 (list ++ [rd_Rule rules i]).length c43, .int .i64 (wrap64 (i + 1))] (by rfl) rfl rfl rfl k84_ ?_
                  have HSB := Aside0.mk (ChSt.below (ChSt.below HST.out HBx.out) HBc.out)
                  refine (IH.out k1 (by have := HK.out; omega) (list ++ [rd_Rule rules i]) (wrap64 (i + 1)) o o2 A43 c43 (.slice Aq o.length cq) _ ?s1 ?s2 ?s3 ?s4 A_.out).mono ?_
                  (case s1 => exact HSB.out)
                  (case s2 => exact (Kd.R_reads' HA.out).2.1)
                  (case s3 => exact Kd.R_lower HA.out (Nat.le_trans HST.out.2.2.size HBx.out.size))
                  (case s4 => exact Kd.S_mono (Kd.S_below (Kd.S_below (Kd.S_bound HST.out.2.1) HBx.out) HBc.out) (fun k_ hk => ⟨hk.1, fun e_ => by have h1_ := Kd.R_base HA.out k_ e_.symm; have h2_ := hk.2.2.1; have h3_ := HBx.out.size; omega⟩))
                  rintro e wC ⟨rfl, v1, h1_, h2_, h3_⟩
                  refine ⟨_, rfl, ?_⟩
                  have HSTN := Aside0.mk h1_
                  have HMVN := Aside0.mk (ChMv.trans (ChMv.then_below (ChMv.then_below HMV.out HBx.out) HBc.out) h2_ HRO.out)
                  have HRON := Aside0.mk (show ChRo W (Value.slice Ao out.length co) v1 from fun k_ hk => (h3_ k_ hk).elim (fun e_ => HRO.out k_ e_) (fun hb_ => .inr (Nat.le_trans (Nat.le_trans HMV.out.size (Nat.le_trans HBx.out.size HBc.out.size)) hb_)))
                  clear h1_ h2_ h3_ HSB
                  refine hK.out _ _ ?_
                  clear hK K
                  refine norm_ (a' := ?_) ?_ ?_
                  rotate_left
                  · show Act.put _ (some 46) _ = _
                    simp only [Act.put, List.setIfInBounds_toArray, List.set_cons_zero, List.set_cons_succ, i64_w, i32_w]
                    rfl
                  refine done_ (by kernel_rfl) ?_
                  go_wp2
                  go_roundg k1
                  case measure => have := HK.out; omega
                  case rel => exact ⟨o2, wrap64 (i + 1), v1, (by first | rfl | (simp; done)), H', ⟨by have := HK.out; omega⟩, HSTN, HMVN, HRON⟩
                · rw [if_neg c3_] at H
                  exact absurd H (by simp)
              · rw [if_neg c2_] at H
                exact absurd H (by simp)
            · rw [if_neg c1_] at H
              have c1b_ : decide (i < (rules.length : Int)) = false := decide_eq_false c1_
              clear c1_
              have HR := Aside0.mk (Option.some.inj H)
              clear H
              go_wp2
              (first | (refine bodyPost_ret (results_none rfl _ _ _) rfl ?_) | go_end0)
              exact ⟨rfl, _, by rw [← HR.out]; exact HST.out, HMV.out, HRO.out⟩
end Go.Proofs.YtgmfaleamhpfjaaDoor.P
namespace Go.Proofs.YtgmfaleamhpfjaaDoor.P
open Go.RowKit Go.Proofs.YtgmfaleamhpfjaaDoorW.PrintWords Go.Proofs.YtgmfaleamhpfjaaDoorW.PrintLast Go.Proofs.YtgmfaleamhpfjaaDoorW.PrintMore
attribute [local go_sem] max2_int min2_int max_two min_two max_three min_three max_four min_four
set_option linter.unusedVariables false
set_option linter.unusedSimpArgs false
def impl_someAnswers.f (k : Nat) (a0_0 : ByteArray) (a0_1 : Int) (a1 : Int) : Option (List (List SRule)) := (impl_fitting.f k a0_0).bind fun rules => impl_someAnswers_1.f k a0_0 a0_1 a1 rules [] 0 []
set_option maxHeartbeats 8000000 in
set_option maxRecDepth 100000 in
theorem impl_someAnswers.calls (k : Nat) (a0_0 : ByteArray) (a0_1 : Int) (a1 : Int) (r : List (List SRule)) (w : World) (h : impl_someAnswers.f k a0_0 a0_1 a1 = some r) :
    Calls Tryd.prog 35 #[.agg #[.string a0_0, .int .i64 a0_1], .int .i64 a1] w fun e w' => ∃ v0_ : Value, e = .returned (v0_) ∧ Kd.S (Kd.slice 61 kRule) 47 w' w.heap.size (fun _ => True) v0_ r ∧ Below w.heap.size w w' := by
  have hu := Tryd.underlying27
  unfold impl_someAnswers.f at h
  replace h := Option.bind_eq_some_iff.mp h
  obtain ⟨rules, A1_, h⟩ := h
  have A1 := Aside0.mk A1_
  have H := Aside0.mk h
  clear A1_ h
  go_enter Tryd.func35, Tryd.ntmps35
  go_wp2_with (first | ((with_reducible refine gate_dst (N := 2) rfl ?_); (try (refine gate_guard (by rfl) ?_; dsimp only)); refine box_event ?hg (N := 2) ?hd (cs := #[.string a0_0, .int .i64 a0_1]) (t := 27) ?hr ?_; (case hd => rfl); (case hg => rfl); (case hr => exact k99_); intro gP hg w1 hbox hb; have BP1 := Aside0.mk hbox; have HB1 := Aside0.mk hb; have GP := Aside0.mk (show w.heap.size ≤ gP by rw [hg]; exact Nat.le_refl _); clear hbox hb hg) | ((with_reducible refine gate_dst (N := 3) rfl ?_); (try (refine gate_guard (by rfl) ?_; dsimp only)); refine box_event ?hg (N := 3) ?hd (cs := #[.int .i64 a1]) (t := 3) ?hr ?_; (case hd => rfl); (case hg => rfl); (case hr => exact k99_); intro gM hg w2 hbox hb; have BM2 := Aside0.mk hbox; have BP2 := Aside0.mk (blk_below BP1.out hb); have HB2 := Aside0.mk (below_step HB1.out hb); have GM := Aside0.mk (show gP < gM by rw [hg]; exact blk_lt BP1.out); have hcP0 : w2.cell? ⟨gP, 0, none⟩ = some (.string a0_0) := (blk_cell BP2.out 0).trans rfl; clear BP1 HB1; clear hbox hb hg) | ((with_reducible refine gate_callee (f := 56) rfl ?_); refine goesL_ (some 10) rfl rfl Tryd.func56 (by kernel_rfl) rfl #[.string a0_0] rfl k84_ ?_; (with_reducible refine (impl_fitting.calls k a0_0 rules _ A1.out).mono ?_); rintro e w3 ⟨v10, rfl, ho, hb⟩; refine ⟨_, rfl, ?_⟩; obtain ⟨A10, c10, e10⟩ := Kd.R_slice ho; subst e10; have HL3 := Aside0.mk ho; have BP3 := Aside0.mk (blk_below BP2.out hb); have BM3 := Aside0.mk (blk_below BM2.out hb); have HB3 := Aside0.mk (below_step HB2.out hb); clear ho hb hcP0 BP2 BM2 HB2) | ((with_reducible refine gate_dst (N := 5) rfl ?_); (try (refine gate_guard (by rfl) ?_; dsimp only)); refine box_event ?hg (N := 5) ?hd (cs := #[.slice none 0 0]) (t := 47) ?hr ?_; (case hd => rfl); (case hg => rfl); (case hr => exact k99_); intro gR hg w4 hbox hb; have BR4 := Aside0.mk hbox; have BP4 := Aside0.mk (blk_below BP3.out hb); have BM4 := Aside0.mk (blk_below BM3.out hb); have HL4 := Aside0.mk (Kd.R_below HL3.out hb); have HB4 := Aside0.mk (below_step HB3.out hb); have GR := Aside0.mk (show gM < gR by rw [hg]; exact blk_lt BM3.out); have hcR : w4.cell? ⟨gR, 0, none⟩ = some (.slice none 0 0) := (blk_cell hbox 0).trans rfl; have hfR := blk_frozen hbox 0; clear BP3 BM3 HL3 HB3; clear hbox hb hg) | ((with_reducible refine gate_dst (N := 11) rfl ?_); obtain ⟨gL, hgL⟩ : ∃ g_, g_ = (w4.setCell ⟨gR, 0, none⟩ (.slice A10 rules.length c10)).heap.size := ⟨_, rfl⟩; refine Kd.R_lit (Kd.tag (fun _ => 0) (Kd.slice 61 kRule)) _ 47 ?hg (N := 11) ?hd (xs := ([] : List (List SRule × Nat))) (inner := []) (ok := fun k_ => k_ = gL) (okp := fun _ => False) ?hr ?hp (fun _ hk => hk.elim) hgL.symm (Below.refl _ _) (Nat.le_refl _) (by simp) ?_; (case hd => rfl); (case hg => rfl); (case hr => exact k99_); (case hp => exact Reps.none _ _); intro v11 w5 ho hb hg_ hnew_; clear hg_; obtain ⟨b_, hb1_, -⟩ := hnew_; have hb2_ := ho.1 b_ hb1_; have GLT := Aside0.mk (show gL < w5.heap.size by rw [← hb2_]; exact Kd.R_lt ho b_ hb1_); have HTL := Aside0.mk (show ∃ cells_, w5.heap[gL]? = some (.cells cells_ 47 (0, 0)) by rw [← hb2_]; exact Kd.R_typed ho b_ hb1_); clear hb1_ hb2_; obtain ⟨A11, c11, e11⟩ := Kd.R_slice ho; replace e11 : v11 = (.slice A11 0 c11) := e11; subst e11; have HS5 := Aside0.mk (Kd.R_lower ho (show w.heap.size ≤ (w4.setCell ⟨gR, 0, none⟩ (.slice A10 rules.length c10)).heap.size by have := HB4.out.size; simpa [World.setCell] using this)); have BR5 := Aside0.mk (blk_below (blk_put (cs' := #[(.slice A10 rules.length c10)]) BR4.out 0 (.slice A10 rules.length c10) rfl) hb); have BP5 := Aside0.mk (blk_below (blk_far BP4.out (p := ⟨gR, 0, none⟩) (by have h1_ := GM.out; have h2_ := GR.out; show gP ≠ gR; omega) (.slice A10 rules.length c10)) hb); have BM5 := Aside0.mk (blk_below (blk_far BM4.out (p := ⟨gR, 0, none⟩) (by have h2_ := GR.out; show gM ≠ gR; omega) (.slice A10 rules.length c10)) hb); have HL5 := Aside0.mk (Kd.R_below (Kd.R_set HL4.out BR4.out (by decide) 0 (.slice A10 rules.length c10)) hb); have HB5 := Aside0.mk (below_step (below_set HB4.out (by have h0_ := GP.out; have h1_ := GM.out; have h2_ := GR.out; omega)) hb); have GL := Aside0.mk (show gR < gL by rw [hgL]; have := blk_lt BR4.out; simpa [World.setCell] using this); clear hgL ho hb BR4 BP4 BM4 HL4 HB4 hcR hfR) | ((with_reducible refine gate_dst (N := 6) rfl ?_); (try (refine gate_guard (by rfl) ?_; dsimp only)); refine box_event ?hg (N := 6) ?hd (cs := #[.slice none 0 0]) (t := 35) ?hr ?_; (case hd => rfl); (case hg => rfl); (case hr => exact k99_); intro gO hg w6 hbox hb; have BO6 := Aside0.mk hbox; have BR6 := Aside0.mk (blk_below BR5.out hb); have BP6 := Aside0.mk (blk_below BP5.out hb); have BM6 := Aside0.mk (blk_below BM5.out hb); have HL6 := Aside0.mk (Kd.R_below HL5.out hb); have HS6 := Aside0.mk (Kd.R_below HS5.out hb); have HTL6 := Aside0.mk (HTL.out.elim (fun c_ hc_ => ⟨c_, blk_below hc_ hb⟩) : ∃ cells_, w6.heap[gL]? = some (.cells cells_ 47 (0, 0))); have HB6 := Aside0.mk (below_step HB5.out hb); have GO := Aside0.mk (show gL < gO ∧ gR < gO by rw [hg]; exact ⟨GLT.out, blk_lt BR5.out⟩); have hcO : w6.cell? ⟨gO, 0, none⟩ = some (.slice none 0 0) := (blk_cell hbox 0).trans rfl; have hfO := blk_frozen hbox 0; clear BR5 BP5 BM5 HL5 HS5 HB5 HTL GLT; clear hbox hb hg) | ((with_reducible refine gate_dst (N := 7) rfl ?_); (try (refine gate_guard (by rfl) ?_; dsimp only)); refine box_event ?hg (N := 7) ?hd (cs := #[.nilFunc]) (t := 78) ?hr ?_; (case hd => rfl); (case hg => rfl); (case hr => exact k99_); intro gC hg w8 hbox hb; have BC8 := Aside0.mk hbox; have BO8 := Aside0.mk (blk_below (blk_put (cs' := #[(.slice A11 0 c11)]) BO6.out 0 (.slice A11 0 c11) rfl) hb); have BR8 := Aside0.mk (blk_below (blk_far BR6.out (p := ⟨gO, 0, none⟩) (by have h1_ := GO.out.2; show gR ≠ gO; omega) (.slice A11 0 c11)) hb); have BP8 := Aside0.mk (blk_below (blk_far BP6.out (p := ⟨gO, 0, none⟩) (by have h1_ := GO.out.2; have h2_ := GR.out; have h3_ := GM.out; show gP ≠ gO; omega) (.slice A11 0 c11)) hb); have BM8 := Aside0.mk (blk_below (blk_far BM6.out (p := ⟨gO, 0, none⟩) (by have h1_ := GO.out.2; have h2_ := GR.out; show gM ≠ gO; omega) (.slice A11 0 c11)) hb); have HL8 := Aside0.mk (Kd.R_below (Kd.R_set HL6.out BO6.out (by decide) 0 (.slice A11 0 c11)) hb); have HS8 := Aside0.mk (Kd.R_below (Kd.R_far (p := ⟨gO, 0, none⟩) HS6.out (fun k_ hk => by have h1_ := GO.out.1; show k_ ≠ gO; omega) (.slice A11 0 c11)) hb); have HB8 := Aside0.mk (below_step (below_set HB6.out (by have h0_ := GP.out; have h1_ := GM.out; have h2_ := GR.out; have h3_ := GO.out.2; omega)) hb); have HTL8 := Aside0.mk (HTL6.out.elim (fun c_ hc_ => ⟨c_, blk_below (blk_far hc_ (p := ⟨gO, 0, none⟩) (by have h1_ := GO.out.1; show gL ≠ gO; omega) _) hb⟩) : ∃ cells_, w8.heap[gL]? = some (.cells cells_ 47 (0, 0))); have GC := Aside0.mk (show gO < gC by rw [hg]; have := blk_lt BO6.out; simpa [World.setCell] using this); have hcC : w8.cell? ⟨gC, 0, none⟩ = some .nilFunc := (blk_cell hbox 0).trans rfl; have hfC := blk_frozen hbox 0; have hstF : ∀ (m : Mode) (W : World), Sem.run Tryd.prog (store ⟨gC, 0, none⟩ (.func (.func 57) #[] #[.pointer (some ⟨gO, 0, none⟩), .pointer (some ⟨gM, 0, none⟩), .pointer (some ⟨gP, 0, none⟩), .pointer (some ⟨gR, 0, none⟩), .pointer (some ⟨gC, 0, none⟩)]) m) W = stored Tryd.prog W ⟨gC, 0, none⟩ (.func (.func 57) #[] #[.pointer (some ⟨gO, 0, none⟩), .pointer (some ⟨gM, 0, none⟩), .pointer (some ⟨gP, 0, none⟩), .pointer (some ⟨gR, 0, none⟩), .pointer (some ⟨gC, 0, none⟩)]) m := fun m W => run_store _ W _ _ m rfl; clear BO6 BR6 BP6 BM6 HL6 HS6 HB6 HTL6 hcO hfO; clear hbox hb hg))
  have BC0 := Aside0.mk (show (w8.setCell ⟨gC, 0, none⟩ (.func (.func 57) #[] #[.pointer (some ⟨gO, 0, none⟩), .pointer (some ⟨gM, 0, none⟩), .pointer (some ⟨gP, 0, none⟩), .pointer (some ⟨gR, 0, none⟩), .pointer (some ⟨gC, 0, none⟩)])).heap[gC]? = _ from blk_put (cs' := #[(.func (.func 57) #[] #[.pointer (some ⟨gO, 0, none⟩), .pointer (some ⟨gM, 0, none⟩), .pointer (some ⟨gP, 0, none⟩), .pointer (some ⟨gR, 0, none⟩), .pointer (some ⟨gC, 0, none⟩)])]) BC8.out 0 (.func (.func 57) #[] #[.pointer (some ⟨gO, 0, none⟩), .pointer (some ⟨gM, 0, none⟩), .pointer (some ⟨gP, 0, none⟩), .pointer (some ⟨gR, 0, none⟩), .pointer (some ⟨gC, 0, none⟩)]) rfl)
  have BO0 := Aside0.mk (show (w8.setCell ⟨gC, 0, none⟩ (.func (.func 57) #[] #[.pointer (some ⟨gO, 0, none⟩), .pointer (some ⟨gM, 0, none⟩), .pointer (some ⟨gP, 0, none⟩), .pointer (some ⟨gR, 0, none⟩), .pointer (some ⟨gC, 0, none⟩)])).heap[gO]? = _ from blk_far BO8.out (p := ⟨gC, 0, none⟩) (by have h1_ := GC.out; show gO ≠ gC; omega) _)
  have BR0 := Aside0.mk (show (w8.setCell ⟨gC, 0, none⟩ (.func (.func 57) #[] #[.pointer (some ⟨gO, 0, none⟩), .pointer (some ⟨gM, 0, none⟩), .pointer (some ⟨gP, 0, none⟩), .pointer (some ⟨gR, 0, none⟩), .pointer (some ⟨gC, 0, none⟩)])).heap[gR]? = _ from blk_far BR8.out (p := ⟨gC, 0, none⟩) (by have h1_ := GC.out; have h2_ := GO.out.2; show gR ≠ gC; omega) _)
  have BP0 := Aside0.mk (show (w8.setCell ⟨gC, 0, none⟩ (.func (.func 57) #[] #[.pointer (some ⟨gO, 0, none⟩), .pointer (some ⟨gM, 0, none⟩), .pointer (some ⟨gP, 0, none⟩), .pointer (some ⟨gR, 0, none⟩), .pointer (some ⟨gC, 0, none⟩)])).heap[gP]? = _ from blk_far BP8.out (p := ⟨gC, 0, none⟩) (by have h1_ := GC.out; have h2_ := GO.out.2; have h3_ := GR.out; have h4_ := GM.out; show gP ≠ gC; omega) _)
  have BM0 := Aside0.mk (show (w8.setCell ⟨gC, 0, none⟩ (.func (.func 57) #[] #[.pointer (some ⟨gO, 0, none⟩), .pointer (some ⟨gM, 0, none⟩), .pointer (some ⟨gP, 0, none⟩), .pointer (some ⟨gR, 0, none⟩), .pointer (some ⟨gC, 0, none⟩)])).heap[gM]? = _ from blk_far BM8.out (p := ⟨gC, 0, none⟩) (by have h1_ := GC.out; have h2_ := GO.out.2; have h3_ := GR.out; show gM ≠ gC; omega) _)
  have HL0 := Aside0.mk (Kd.R_set HL8.out BC8.out (by decide) 0 (.func (.func 57) #[] #[.pointer (some ⟨gO, 0, none⟩), .pointer (some ⟨gM, 0, none⟩), .pointer (some ⟨gP, 0, none⟩), .pointer (some ⟨gR, 0, none⟩), .pointer (some ⟨gC, 0, none⟩)]))
  have HTL0 := Aside0.mk (HTL8.out.elim (fun c_ hc_ => ⟨c_, blk_far hc_ (p := ⟨gC, 0, none⟩) (by have h1_ := GO.out.1; have h2_ := GC.out; show gL ≠ gC; omega) _⟩) : ∃ cells_, (w8.setCell ⟨gC, 0, none⟩ (.func (.func 57) #[] #[.pointer (some ⟨gO, 0, none⟩), .pointer (some ⟨gM, 0, none⟩), .pointer (some ⟨gP, 0, none⟩), .pointer (some ⟨gR, 0, none⟩), .pointer (some ⟨gC, 0, none⟩)])).heap[gL]? = some (.cells cells_ 47 (0, 0)))
  have HS0 := Aside0.mk (Kd.R_far (p := ⟨gC, 0, none⟩) HS8.out (fun k_ hk => by have h1_ := GO.out.1; have h2_ := GC.out; show k_ ≠ gC; omega) (.func (.func 57) #[] #[.pointer (some ⟨gO, 0, none⟩), .pointer (some ⟨gM, 0, none⟩), .pointer (some ⟨gP, 0, none⟩), .pointer (some ⟨gR, 0, none⟩), .pointer (some ⟨gC, 0, none⟩)]))
  have HB0 := Aside0.mk (below_set (g := gC) (j := 0) (v := (.func (.func 57) #[] #[.pointer (some ⟨gO, 0, none⟩), .pointer (some ⟨gM, 0, none⟩), .pointer (some ⟨gP, 0, none⟩), .pointer (some ⟨gR, 0, none⟩), .pointer (some ⟨gC, 0, none⟩)])) HB8.out (by have h0_ := GP.out; have h1_ := GM.out; have h2_ := GR.out; have h3_ := GO.out.2; have h4_ := GC.out; omega))
  clear BC8 BO8 BR8 BP8 BM8 HL8 HTL8 HS8 HB8 hcC hfC hstF
  generalize w8.setCell ⟨gC, 0, none⟩ (.func (.func 57) #[] #[.pointer (some ⟨gO, 0, none⟩), .pointer (some ⟨gM, 0, none⟩), .pointer (some ⟨gP, 0, none⟩), .pointer (some ⟨gR, 0, none⟩), .pointer (some ⟨gC, 0, none⟩)]) = W0 at BC0 BO0 BR0 BP0 BM0 HL0 HTL0 HS0 HB0 ⊢
  have HF := Aside0.mk (show ChFix W0 w.heap.size gL gO gM gP gR gC a0_0 a0_1 a1 A10 c10 rules from ⟨⟨blk_lt BO0.out, by have h1_ := GO.out.1; omega, HB0.out.size⟩, ⟨⟨by have h1_ := GO.out.2; have h2_ := GR.out; omega, by have h1_ := GL.out; have h2_ := GR.out; omega⟩, ⟨by have h1_ := GO.out.2; have h2_ := GR.out; have h3_ := GM.out; omega, by have h1_ := GL.out; have h2_ := GR.out; have h3_ := GM.out; omega⟩, ⟨by have h1_ := GO.out.2; omega, by have h1_ := GL.out; omega⟩, ⟨by have h1_ := GC.out; omega, by have h1_ := GC.out; have h2_ := GO.out.1; omega⟩⟩, BM0.out, BP0.out, BR0.out, BC0.out, (Kd.R_reads' HL0.out).2.1, fun W' hm => ch_rules BO0.out HTL0.out HL0.out hm⟩)
  have HSS := Aside0.mk (show Kd.S (Kd.slice 61 kRule) 47 W0 w.heap.size (fun k_ => k_ = gL) (.slice A11 0 c11) [] from ⟨fun _ => 0, HS0.out⟩)
  refine calls_of_args (args' := #[.slice none ([] : List SRule).length 0, .int .i64 0] ++ #[.pointer (some ⟨gO, 0, none⟩), .pointer (some ⟨gM, 0, none⟩), .pointer (some ⟨gP, 0, none⟩), .pointer (some ⟨gR, 0, none⟩), .pointer (some ⟨gC, 0, none⟩)]) rfl ?_
  refine (impl_someAnswers_1.own W0 w.heap.size gL gO gM gP gR gC a0_0 a0_1 a1 A10 c10 rules HF k [] 0 [] r none 0 (.slice A11 0 c11) W0 ⟨BO0.out, Kd.S_mono HSS.out (fun _ h_ => .inl h_), ChMv.refl _⟩ (Nat.le_refl _) (Kd.R_nil _ _ _ _ _) (Kd.S_mono HSS.out (fun _ h_ => ⟨.inl h_, by simp [Value.ownBlock]⟩)) H.out).mono ?_
  rintro e wE ⟨rfl, v1, h1_, h2_, h3_⟩
  have HE1 := Aside0.mk h1_
  clear h1_ h2_ h3_
  obtain ⟨A1v, c1v, e1v⟩ := Kd.S_slice HE1.out.2.1
  subst e1v
  have hcE : wE.cell? ⟨gO, 0, none⟩ = some (.slice A1v r.length c1v) := (blk_cell HE1.out.1 0).trans rfl
  go_wp2
  go_ret
  exact ⟨_, rfl, Kd.S_mono HE1.out.2.1 (fun _ _ => trivial), HE1.out.2.2.os.trans HB0.out.os, HE1.out.2.2.tape.trans HB0.out.tape, HE1.out.2.2.output.trans HB0.out.output, Nat.le_trans HB0.out.size HE1.out.2.2.size, fun k_ hk => (HE1.out.2.2.block k_ (Nat.lt_of_lt_of_le hk HB0.out.size) (by have h0_ := GP.out; have h1_ := GM.out; have h2_ := GR.out; have h3_ := GO.out.2; omega) (fun e_ => by injection e_ with e_; have h0_ := GP.out; have h1_ := GM.out; have h2_ := GR.out; have h3_ := GL.out; omega)).trans (HB0.out.block k_ hk)⟩
end Go.Proofs.YtgmfaleamhpfjaaDoor.P
namespace Go.Proofs.YtgmfaleamhpfjaaDoor.P
open Go.RowKit Go.Proofs.YtgmfaleamhpfjaaDoorW.PrintWords Go.Proofs.YtgmfaleamhpfjaaDoorW.PrintLast Go.Proofs.YtgmfaleamhpfjaaDoorW.PrintMore
attribute [local go_sem] max2_int min2_int max_two min_two max_three min_three max_four min_four
set_option linter.unusedVariables false
set_option linter.unusedSimpArgs false
def impl_withSign.f (a0_0 : ByteArray) (a0_1 : Int) (a1 : Int) (a2 : ByteArray) : Option (ByteArray × Int) := if 0 ≤ (wrap64 (a1 - 1)) then (if (wrap64 (a1 - 1)) ≤ (a0_0.size : Int) then (if (a0_0.extract 0 ((wrap64 (a1 - 1)) : Int).toNat).size + a2.size ≤ 9223372036854775807 then (if 0 ≤ a1 then (if a1 ≤ (a0_0.size : Int) then (if ((a0_0.extract 0 ((wrap64 (a1 - 1)) : Int).toNat) ++ a2).size + (a0_0.extract (a1 : Int).toNat a0_0.size).size ≤ 9223372036854775807 then (some (((a0_0.extract 0 ((wrap64 (a1 - 1)) : Int).toNat) ++ a2) ++ (a0_0.extract (a1 : Int).toNat a0_0.size), a0_1)) else (none)) else (none)) else (none)) else (none)) else (none)) else (none)
def impl_withSign.T1 : Bool × List (List Nat × List Nat) := (true, [([], []), ([0], [0]), ([], []), ([2], [2]), ([1, 3], [1, 3]), ([], []), ([4, 5], [4, 5]), ([], []), ([7], [7]), ([], []), ([8, 9], [8, 9]), ([6, 10], [6, 10]), ([0, 1, 2, 3, 4, 5, 6, 7, 8, 9, 10, 11], []), ([12, 11, 0, 1, 2, 3, 4, 5, 6, 7, 8, 9, 10, 11], [11, 12])])
def impl_withSign.B1 : List Nat := [0, 1, 0, 4, 15, 0, 63, 0, 128, 0, 896, 2047, 4095, 8191]
theorem impl_withSign.tab1 : rtab .any (opsOf Tryd.f38 1) = impl_withSign.T1 := by kernel_rfl
theorem impl_withSign.bits1 : waitsOk impl_withSign.T1.2 impl_withSign.B1 = true := by kernel_rfl
set_option maxHeartbeats 8000000 in
set_option maxRecDepth 100000 in
theorem impl_withSign.calls (a0_0 : ByteArray) (a0_1 : Int) (a1 : Int) (a2 : ByteArray) (r1 : ByteArray) (r2 : Int) (w : World) (h : impl_withSign.f a0_0 a0_1 a1 a2 = some (r1, r2)) :
  Calls Tryd.prog 38 #[.agg #[.string a0_0, .int .i64 a0_1], .int .i64 a1, .string a2] w fun e w' => e = .returned (.agg #[.string r1, .int .i64 r2]) ∧ Below w.heap.size w w' := by
 have hu27 := Tryd.underlying27
 have HB := Aside0.mk (Below.refl w.heap.size w)
 have H : (if 0 ≤ (wrap64 (a1 - 1)) then (if (wrap64 (a1 - 1)) ≤ (a0_0.size : Int) then (if (a0_0.extract 0 ((wrap64 (a1 - 1)) : Int).toNat).size + a2.size ≤ 9223372036854775807 then (if 0 ≤ a1 then (if a1 ≤ (a0_0.size : Int) then (if ((a0_0.extract 0 ((wrap64 (a1 - 1)) : Int).toNat) ++ a2).size + (a0_0.extract (a1 : Int).toNat a0_0.size).size ≤ 9223372036854775807 then (some (((a0_0.extract 0 ((wrap64 (a1 - 1)) : Int).toNat) ++ a2) ++ (a0_0.extract (a1 : Int).toNat a0_0.size), a0_1)) else (none)) else (none)) else (none)) else (none)) else (none)) else (none)) = some (r1, r2) := h
 clear h
 obtain ⟨ji4, hji4⟩ : ∃ j_ : Int, (wrap64 (a1 - 1)) = j_ := ⟨_, rfl⟩
 replace H : (if 0 ≤ (ji4) then (if (ji4) ≤ (a0_0.size : Int) then (if (a0_0.extract 0 ((ji4) : Int).toNat).size + a2.size ≤ 9223372036854775807 then (if 0 ≤ a1 then (if a1 ≤ (a0_0.size : Int) then (if ((a0_0.extract 0 ((ji4) : Int).toNat) ++ a2).size + (a0_0.extract (a1 : Int).toNat a0_0.size).size ≤ 9223372036854775807 then (some (((a0_0.extract 0 ((ji4) : Int).toNat) ++ a2) ++ (a0_0.extract (a1 : Int).toNat a0_0.size), a0_1)) else (none)) else (none)) else (none)) else (none)) else (none)) else (none)) = some (r1, r2) := by first | (rw [hji4] at H; exact H) | (simp only [hji4] at H ⊢; exact H)
 have hji4w : (IntKind.i64.wrap (a1 - 1)) = ji4 := (i64_w _).trans hji4
 by_cases c5 : 0 ≤ (ji4)
 ·rw [if_pos c5] at H
  have c5b0 := eq_true c5
  have c5b1 : decide (0 ≤ (ji4)) = true := decide_eq_true c5
  clear c5
  by_cases c6 : (ji4) ≤ (a0_0.size : Int)
  ·rw [if_pos c6] at H
   have c6b0 := eq_true c6
   have c6b1 : decide ((ji4) ≤ (a0_0.size : Int)) = true := decide_eq_true c6
   clear c6
   by_cases c7 : (a0_0.extract 0 ((ji4) : Int).toNat).size + a2.size ≤ 9223372036854775807
   ·rw [if_pos c7] at H
    have c7b0 := eq_true c7
    have c7b1 : decide ((a0_0.extract 0 ((ji4) : Int).toNat).size + a2.size ≤ 9223372036854775807) = true := decide_eq_true c7
    try have c7b2 : (9223372036854775807 < (a0_0.extract 0 ((ji4) : Int).toNat).size + a2.size) = False := eq_false (Nat.not_lt.2 c7)
    have e7_ : (a0_0.extract 0 ((ji4) : Int).toNat).size = (ji4).toNat := by rw [ByteArray.size_extract]; have := of_eq_true c6b0; omega
    have c7b3 : (9223372036854775807 < (ji4).toNat + a2.size) = False := by rw [← e7_]; exact c7b2
    by_cases c8 : 0 ≤ a1
    ·rw [if_pos c8] at H
     have c8b0 := eq_true c8
     have c8b1 : decide (0 ≤ a1) = true := decide_eq_true c8
     clear c8
     by_cases c9 : a1 ≤ (a0_0.size : Int)
     ·rw [if_pos c9] at H
      have c9b0 := eq_true c9
      have c9b1 : decide (a1 ≤ (a0_0.size : Int)) = true := decide_eq_true c9
      clear c9
      by_cases c10 : ((a0_0.extract 0 ((ji4) : Int).toNat) ++ a2).size + (a0_0.extract (a1 : Int).toNat a0_0.size).size ≤ 9223372036854775807
      ·rw [if_pos c10] at H
       have c10b0 := eq_true c10
       have c10b1 : decide (((a0_0.extract 0 ((ji4) : Int).toNat) ++ a2).size + (a0_0.extract (a1 : Int).toNat a0_0.size).size ≤ 9223372036854775807) = true := decide_eq_true c10
       try have c10b2 : (9223372036854775807 < ((a0_0.extract 0 ((ji4) : Int).toNat) ++ a2).size + (a0_0.extract (a1 : Int).toNat a0_0.size).size) = False := eq_false (Nat.not_lt.2 c10)
       have e10_ : (a0_0.extract (a1 : Int).toNat a0_0.size).size = a0_0.size - a1.toNat := by rw [ByteArray.size_extract]; omega
       have c10b3 : (9223372036854775807 < (ji4).toNat + a2.size + (a0_0.size - a1.toNat)) = False := by rw [← e7_, ← e10_, ← ByteArray.size_append]; exact c10b2
       clear e7_ e10_
       simp only [Option.some.injEq, Prod.mk.injEq] at H
       obtain ⟨rfl, rfl⟩ := H
       go_enter Tryd.func38, Tryd.ntmps38
       try go_wp2_with (first | ((with_reducible refine gate_dst (N := 3) rfl ?_); refine box_event ?hg (N := 3) ?hd (cs := #[.string a0_0, .int .i64 a0_1]) (t := 27) ?hr ?_; (case hd => rfl); (case hg => rfl); (case hr => exact k99_); intro gb101 hg w11 hbox hb; have BK101 := Aside0.mk (hbox); have GW101 := Aside0.mk (HB.ge hg); have GE101 := Aside0.mk (HB.ge hg); replace HB := HB.mw hb; clear hb hbox hg) | ((with_reducible refine gate_dst (N := 6) rfl ?_); refine box_event ?hg (N := 6) ?hd (cs := #[.string (⟨#[]⟩ : ByteArray), .int .i64 0]) (t := 27) ?hr ?_; (case hd => rfl); (case hg => rfl); (case hr => exact k99_); intro gb102 hg w12 hbox hb; have BK102 := Aside0.mk (hbox); have GW102 := Aside0.mk ((by rw [hg]; exact (below_size k82_) : w.heap.size ≤ gb102)); have GE102 := Aside0.mk ((by rw [hg]; exact (below_size k82_) : w.heap.size ≤ gb102)); replace HB := Aside0.mk (below_step k82_ hb); have NB101_102 := Aside0.mk (BK101.ne hg); have NB102_101 := Aside0.mk (BK101.ne hg).symm; replace BK101 := BK101.mw hb; clear hb hbox hg))
       have n0_ := Aside0.mk (blk_drew BK101.out)
       have n1_ := Aside0.mk (blk_drew BK102.out)
       have n2_ := Aside0.mk (below_drew1 HB.out)
       clear BK101
       clear BK102
       clear HB
       have BK101 := n0_
       have BK102 := n1_
       have HB := n2_
       clear n0_ n1_ n2_
       refine start_ (n := 14) (S := fun w' => w'.cell? ⟨gb101, 0, none⟩ = some (.string a0_0) ∧ w'.cell? ⟨gb101, 1, none⟩ = some (.int .i64 a0_1)) (ds := [13]) #[false, false, false, false, false, false, false, false, false, false, false, false, false, false] (by kernel_rfl) rfl rfl ⟨(blk_cell BK101.out 0).trans rfl, (blk_cell BK101.out 1).trans rfl⟩ (fun hHeld => ?_); refine with_tabW impl_withSign.tab1 impl_withSign.bits1 (fun HT_ HW_ => ?_)
       generalize w12.drew = w13 at BK101 BK102 HB hHeld ⊢
       refine pure_ (i := 0) (N := some 7) (v := ?_) (a' := ?_) #[true, false, false, false, false, false, false, false, false, false, false, false, false, false] rfl rfl (any_of HT_.out (by kernel_rfl)) (fun _ _ _ h => h) (Or.inl ⟨by rfl, ?_⟩) ?_ ?_
       rotate_left
       ·intro w'
        go_simp
        with_reducible rfl
       rotate_left
       ·simp only [Act.put, List.setIfInBounds_toArray, List.set_cons_zero, List.set_cons_succ, i64_w, i32_w]
        rfl
       refine pure_ (i := 2) (N := some 9) (v := ?_) (a' := ?_) #[true, false, true, false, false, false, false, false, false, false, false, false, false, false] rfl rfl (any_of HT_.out (by kernel_rfl)) (fun _ _ _ h => h) (Or.inl ⟨by rfl, ?_⟩) ?_ ?_
       rotate_left
       ·intro w'
        go_simp
        with_reducible rfl
       rotate_left
       ·simp only [Act.put, List.setIfInBounds_toArray, List.set_cons_zero, List.set_cons_succ, i64_w, i32_w]
        rfl
       refine pure_ (i := 3) (N := some 10) (v := ?_) (a' := ?_) #[true, false, true, true, false, false, false, false, false, false, false, false, false, false] rfl rfl (any_of HT_.out (by kernel_rfl)) (fun _ _ _ h => h) (Or.inl ⟨by rfl, ?_⟩) ?_ ?_
       rotate_left
       ·intro w'
        go_simp
        with_reducible rfl
       rotate_left
       ·simp only [Act.put, List.setIfInBounds_toArray, List.set_cons_zero, List.set_cons_succ, i64_w, i32_w]
        rfl
       refine pure_ (i := 5) (N := some 12) (v := ?_) (a' := ?_) #[true, false, true, true, false, true, false, false, false, false, false, false, false, false] rfl rfl (any_of HT_.out (by kernel_rfl)) (fun _ _ _ h => h) (Or.inl ⟨by rfl, ?_⟩) ?_ ?_
       rotate_left
       ·intro w'
        go_simp
        with_reducible rfl
       rotate_left
       ·simp only [Act.put, List.setIfInBounds_toArray, List.set_cons_zero, List.set_cons_succ, i64_w, i32_w]
        rfl
       refine pure_ (i := 7) (N := some 14) (v := ?_) (a' := ?_) #[true, false, true, true, false, true, false, true, false, false, false, false, false, false] rfl rfl (any_of HT_.out (by kernel_rfl)) (fun _ _ _ h => h) (Or.inl ⟨by rfl, ?_⟩) ?_ ?_
       rotate_left
       ·intro w'
        go_simp
        with_reducible rfl
       rotate_left
       ·simp only [Act.put, List.setIfInBounds_toArray, List.set_cons_zero, List.set_cons_succ, i64_w, i32_w]
        rfl
       refine pure_ (i := 9) (N := some 16) (v := ?_) (a' := ?_) #[true, false, true, true, false, true, false, true, false, true, false, false, false, false] rfl rfl (any_of HT_.out (by kernel_rfl)) (fun _ _ _ h => h) (Or.inl ⟨by rfl, ?_⟩) ?_ ?_
       rotate_left
       ·intro w'
        go_simp
        with_reducible rfl
       rotate_left
       ·simp only [Act.put, List.setIfInBounds_toArray, List.set_cons_zero, List.set_cons_succ, i64_w, i32_w]
        rfl
       refine take_ (i := 1) (N := some 8) (v := ?_) (a' := ?_) #[true, true, true, true, false, true, false, true, false, true, false, false, false, false] rfl rfl (take_ofW HT_.out HW_.out (by kernel_rfl)) (fun _ _ _ h => h) (Or.inl ⟨by rfl, ?_⟩) hHeld ?_ ?_
       rotate_left
       ·rintro w' ⟨s0, s1⟩
        go_simp
        with_reducible rfl
       rotate_left
       ·simp only [Act.put, List.setIfInBounds_toArray, List.set_cons_zero, List.set_cons_succ, i64_w, i32_w]
        rfl
       refine pure_ (i := 4) (N := some 11) (v := ?_) (a' := ?_) #[true, true, true, true, true, true, false, true, false, true, false, false, false, false] rfl rfl (any_of HT_.out (by kernel_rfl)) (fun _ _ _ h => h) (Or.inl ⟨by rfl, ?_⟩) ?_ ?_
       rotate_left
       ·intro w'
        go_simp
        with_reducible rfl
       rotate_left
       ·simp only [Act.put, List.setIfInBounds_toArray, List.set_cons_zero, List.set_cons_succ, i64_w, i32_w]
        rfl
       refine pure_ (i := 6) (N := some 13) (v := ?_) (a' := ?_) #[true, true, true, true, true, true, true, true, false, true, false, false, false, false] rfl rfl (any_of HT_.out (by kernel_rfl)) (fun _ _ _ h => h) (Or.inl ⟨by rfl, ?_⟩) ?_ ?_
       rotate_left
       ·intro w'
        go_simp
        with_reducible rfl
       rotate_left
       ·simp only [Act.put, List.setIfInBounds_toArray, List.set_cons_zero, List.set_cons_succ, i64_w, i32_w]
        rfl
       refine take_ (i := 8) (N := some 15) (v := ?_) (a' := ?_) #[true, true, true, true, true, true, true, true, true, true, false, false, false, false] rfl rfl (take_ofW HT_.out HW_.out (by kernel_rfl)) (fun _ _ _ h => h) (Or.inl ⟨by rfl, ?_⟩) hHeld ?_ ?_
       rotate_left
       ·rintro w' ⟨s0, s1⟩
        go_simp
        with_reducible rfl
       rotate_left
       ·simp only [Act.put, List.setIfInBounds_toArray, List.set_cons_zero, List.set_cons_succ, i64_w, i32_w]
        rfl
       refine pure_ (i := 10) (N := some 17) (v := ?_) (a' := ?_) #[true, true, true, true, true, true, true, true, true, true, true, false, false, false] rfl rfl (any_of HT_.out (by kernel_rfl)) (fun _ _ _ h => h) (Or.inl ⟨by rfl, ?_⟩) ?_ ?_
       rotate_left
       ·intro w'
        go_simp
        with_reducible rfl
       rotate_left
       ·simp only [Act.put, List.setIfInBounds_toArray, List.set_cons_zero, List.set_cons_succ, i64_w, i32_w]
        rfl
       refine pure_ (i := 11) (N := some 18) (v := ?_) (a' := ?_) #[true, true, true, true, true, true, true, true, true, true, true, true, false, false] rfl rfl (any_of HT_.out (by kernel_rfl)) (fun _ _ _ h => h) (Or.inl ⟨by rfl, ?_⟩) ?_ ?_
       rotate_left
       ·intro w'
        go_simp
        with_reducible rfl
       rotate_left
       ·simp only [Act.put, List.setIfInBounds_toArray, List.set_cons_zero, List.set_cons_succ, i64_w, i32_w]
        rfl
       refine pure_ (i := 12) (N := some 19) (v := ?_) (a' := ?_) #[true, true, true, true, true, true, true, true, true, true, true, true, true, false] rfl rfl (any_of HT_.out (by kernel_rfl)) (fun _ _ _ h => h) (Or.inl ⟨by rfl, ?_⟩) ?_ ?_
       rotate_left
       ·intro w'
        go_simp
        with_reducible rfl
       rotate_left
       ·simp only [Act.put, List.setIfInBounds_toArray, List.set_cons_zero, List.set_cons_succ, i64_w, i32_w]
        rfl
       refine last_ (i := 13) (N := none) #[true, true, true, true, true, true, true, true, true, true, true, true, true, true] rfl rfl (one_of HT_.out (by kernel_rfl)) (by decide) (fun K hK => ?_)
       have hs14 : w13.cell? ⟨gb101, 0, none⟩ = some (.string a0_0) := (blk_cell BK101.out 0).trans rfl
       have hfs14 := blk_frozen BK101.out 0
       have hns14_1 := NB102_101.out
       have hms14_1 := NB101_102.out
       refine skip_ (w1 := ?_) (by rfl) rfl ?_ ?_
       rotate_left
       ·go_simp
        rfl
       refine hK.out _ _ ?_
       clear hK K
       refine done_ (done_of HT_.out (by kernel_rfl)) ?_
       have hnb15 := NB101_102.out
       have hnc15 := NB102_101.out
       have hcz16_0 : w13.cell? ⟨gb101, 0, none⟩ = some (.string a0_0) := (blk_cell BK101.out 0).trans rfl
       have hcz16_1 : w13.cell? ⟨gb101, 1, none⟩ = some (.int .i64 a0_1) := (blk_cell BK101.out 1).trans rfl
       have hfz16_0 := blk_frozen BK101.out 0
       have hfz16_1 := blk_frozen BK101.out 1
       have hcz17_0 : w13.cell? ⟨gb102, 0, none⟩ = some (.string (⟨#[]⟩ : ByteArray)) := (blk_cell BK102.out 0).trans rfl
       have hcz17_1 : w13.cell? ⟨gb102, 1, none⟩ = some (.int .i64 0) := (blk_cell BK102.out 1).trans rfl
       have hfz17_0 := blk_frozen BK102.out 0
       have hfz17_1 := blk_frozen BK102.out 1
       try go_wp2
       refine bodyPost_ret (results_cell_row rfl _ _ gb102 27 #[.string (((a0_0.extract 0 ((ji4) : Int).toNat) ++ a2) ++ (a0_0.extract (a1 : Int).toNat a0_0.size)), .int .i64 a0_1] (0, 0) _ rfl k0_ Tryd.underlying27 rfl (by kernel_rfl)) rfl ?_
       exact ⟨by first | rfl | (simp [errW_none, errW_some] <;> rfl) | (simp only [← hji4]; first | rfl | (simp [errW_none, errW_some] <;> rfl)) | (simp [*, errW_none, errW_some] <;> rfl), k78_⟩
      ·rw [if_neg c10] at H
       exact absurd H (by simp)
     ·rw [if_neg c9] at H
      exact absurd H (by simp)
    ·rw [if_neg c8] at H
     exact absurd H (by simp)
   ·rw [if_neg c7] at H
    exact absurd H (by simp)
  ·rw [if_neg c6] at H
   exact absurd H (by simp)
 ·rw [if_neg c5] at H
  exact absurd H (by simp)
end Go.Proofs.YtgmfaleamhpfjaaDoor.P
namespace Go.Proofs.YtgmfaleamhpfjaaDoor.P
open Go.RowKit Go.Proofs.YtgmfaleamhpfjaaDoorW.PrintWords Go.Proofs.YtgmfaleamhpfjaaDoorW.PrintLast Go.Proofs.YtgmfaleamhpfjaaDoorW.PrintMore
attribute [local go_sem] max2_int min2_int max_two min_two max_three min_three max_four min_four
set_option linter.unusedVariables false
set_option linter.unusedSimpArgs false
mutual
def impl_HarderPuzzle.j0 : Nat → Bool → ByteArray → Int → Option (ByteArray × Int × Bool)
 | 0, _, _, _ => none
 | k + 1, x14, x102000, x102001 => if x14 = true then (some ((⟨#[]⟩ : ByteArray), 0, false)) else (impl_HarderPuzzle.l0 k 1 x102000 x102001)
def impl_HarderPuzzle.l0 : Nat → Int → ByteArray → Int → Option (ByteArray × Int × Bool)
 | 0, _, _, _ => none
 | k + 1, x4, x102000, x102001 => if x4 ≤ (x102000.size : Int) then ((impl_withSign.f x102000 x102001 x4 (⟨#[63]⟩ : ByteArray)).bind fun bt107 => ((impl_someAnswers.f k bt107.1 bt107.2 2).bind fun t110 => (if (t110.length : Int) = 1 then (impl_HarderPuzzle.l0 k (wrap64 (x4 + 1)) bt107.1 bt107.2) else (impl_HarderPuzzle.l0 k (wrap64 (x4 + 1)) x102000 x102001)))) else (some (x102000, x102001, true))
end
def impl_HarderPuzzle.f (k : Nat) (a0_0 : ByteArray) (a0_1 : Int) : Option (ByteArray × Int × Bool) := (impl_isPuzzle.f a0_0 a0_1).bind fun t103 => (if t103 = true then ((impl_someAnswers.f k a0_0 a0_1 2).bind fun t104 => (impl_HarderPuzzle.j0 k ((t104.length : Int) != 1) a0_0 a0_1)) else (impl_HarderPuzzle.j0 k true a0_0 a0_1))
set_option maxHeartbeats 8000000 in
set_option maxRecDepth 100000 in
theorem impl_HarderPuzzle.calls (k : Nat) (a0_0 : ByteArray) (a0_1 : Int) (r1 : ByteArray) (r2 : Int) (r3 : Bool) (w : World) (h : impl_HarderPuzzle.f k a0_0 a0_1 = some (r1, r2, r3)) :
  Calls Tryd.prog 11 #[.agg #[.string a0_0, .int .i64 a0_1]] w fun e w' => e = .returned (.tuple #[.agg #[.string r1, .int .i64 r2], .bool r3]) ∧ Below w.heap.size w w' := by
 have hu27 := Tryd.underlying27
 have HB := Aside0.mk (Below.refl w.heap.size w)
 have H : ((impl_isPuzzle.f a0_0 a0_1).bind fun t103 => (if t103 = true then ((impl_someAnswers.f k a0_0 a0_1 2).bind fun t104 => (impl_HarderPuzzle.j0 k ((t104.length : Int) != 1) a0_0 a0_1)) else (impl_HarderPuzzle.j0 k true a0_0 a0_1))) = some (r1, r2, r3) := h
 clear h
 have HC2 := Aside0.mk H
 clear H
 go_enter Tryd.func11, Tryd.ntmps11
 go_upto_region 1 with (first | ((with_reducible refine gate_dst (N := 1) rfl ?_); (try (refine gate_guard (by rfl) ?_; dsimp only)); refine box_event ?hg (N := 1) ?hd (cs := #[.string a0_0, .int .i64 a0_1]) (t := 27) ?hr ?_; (case hd => rfl); (case hg => rfl); (case hr => exact k99_); intro gb101 hg w3 hbox hb; have BK101 := Aside0.mk (hbox); have GW101 := Aside0.mk (HB.ge hg); have GE101 := Aside0.mk (HB.ge hg); replace HB := HB.mw hb; clear hb hbox hg) | ((with_reducible refine gate_dst (N := 2) rfl ?_); (try (refine gate_guard (by rfl) ?_; dsimp only)); refine box_event ?hg (N := 2) ?hd (cs := #[.string (⟨#[]⟩ : ByteArray), .int .i64 0]) (t := 27) ?hr ?_; (case hd => rfl); (case hg => rfl); (case hr => exact k99_); intro gb102 hg w4 hbox hb; have BK102 := Aside0.mk (hbox); have GW102 := Aside0.mk ((by rw [hg]; exact (below_size k82_) : w.heap.size ≤ gb102)); have GE102 := Aside0.mk ((by rw [hg]; exact (below_size k82_) : w.heap.size ≤ gb102)); replace HB := Aside0.mk (below_step k82_ hb); have NB101_102 := Aside0.mk (BK101.ne hg); have NB102_101 := Aside0.mk (BK101.ne hg).symm; replace BK101 := BK101.mw hb; clear hb hbox hg))
 (try simp only [Act.put, List.setIfInBounds_toArray, List.set_cons_zero, List.set_cons_succ])
 go_cut [14] (fun v14 wc => ∃ (kq : Nat) (x14_1 : Bool), v14 = .bool x14_1 ∧ Aside0 (impl_HarderPuzzle.j0 kq x14_1 a0_0 a0_1 = some (r1, r2, r3)) ∧ Aside0 (kq ≤ k) ∧ Aside0 (wc.heap[gb101]? = some (.cells #[.string a0_0, .int .i64 a0_1] 27 (0, 0))) ∧ Aside0 (wc.heap[gb102]? = some (.cells #[.string (⟨#[]⟩ : ByteArray), .int .i64 0] 27 (0, 0))) ∧ Aside0 (Below w.heap.size w wc))
 case first =>
  have H := HC2.out
  clear HC2
  obtain ⟨t103, A5, H⟩ := obnd_ H
  (try dsimp only at H)
  by_cases c6 : t103 = true
  ·subst c6
   rw [if_pos rfl] at H
   obtain ⟨t104, A7, H⟩ := obnd_ H
   (try dsimp only at H)
   have H' := Aside0.mk H
   clear H
   have hnb8 := NB101_102.out
   have hnc8 := NB102_101.out
   have hcz9_0 : w4.cell? ⟨gb101, 0, none⟩ = some (.string a0_0) := (blk_cell BK101.out 0).trans rfl
   have hcz9_1 : w4.cell? ⟨gb101, 1, none⟩ = some (.int .i64 a0_1) := (blk_cell BK101.out 1).trans rfl
   have hfz9_0 := blk_frozen BK101.out 0
   have hfz9_1 := blk_frozen BK101.out 1
   go_wp2_with (first | ((with_reducible refine gate_callee (f := 34) rfl ?_); refine goesL_ (some 7) rfl rfl Tryd.func34 (by kernel_rfl) rfl #[.agg #[.string a0_0, .int .i64 a0_1]] rfl k70_ ?_; (with_reducible refine (impl_isPuzzle.calls a0_0 a0_1 true _ A5.out).mono ?_); rintro e w10 ⟨rfl, hb⟩; refine ⟨_, rfl, ?_⟩; replace BK101 := BK101.mw hb; replace BK102 := Aside0.mk (blk_below k91_ hb); replace HB := Aside0.mk (below_step k78_ hb); (try clear hb); have hcz11_0 : w10.cell? ⟨gb101, 0, none⟩ = some (.string a0_0) := (blk_cell BK101.out 0).trans rfl; have hcz11_1 : w10.cell? ⟨gb101, 1, none⟩ = some (.int .i64 a0_1) := (blk_cell BK101.out 1).trans rfl; have hfz11_0 := blk_frozen BK101.out 0; have hfz11_1 := blk_frozen BK101.out 1) | (go_at_call 35; (with_reducible refine (impl_someAnswers.calls k a0_0 a0_1 2 t104 _ A7.out).mono ?_); rintro e w12 ⟨v105, rfl, ho0, hb⟩; have HO106 := Aside0.mk (Kd.S_lower ho0 (below_size k78_)); replace BK101 := BK101.mw hb; replace BK102 := Aside0.mk (blk_below k91_ hb); replace HB := Aside0.mk (below_step k78_ hb); (try clear hb ho0); obtain ⟨Ao13, co13, eo13⟩ := Kd.S_slice HO106.out; subst eo13))
   go_meet
   case rel => exact ⟨_, (((t104.length : Int) != 1)), k98_, H', ⟨k100_⟩, ⟨k90_⟩, ⟨k91_⟩, ⟨k78_⟩⟩
  ·replace c6 := Bool.eq_false_iff.mpr c6
   subst c6
   rw [if_neg (show ¬ (false = true) by decide)] at H
   have H' := Aside0.mk H
   clear H
   have hnb14 := NB101_102.out
   have hnc14 := NB102_101.out
   have hcz15_0 : w4.cell? ⟨gb101, 0, none⟩ = some (.string a0_0) := (blk_cell BK101.out 0).trans rfl
   have hcz15_1 : w4.cell? ⟨gb101, 1, none⟩ = some (.int .i64 a0_1) := (blk_cell BK101.out 1).trans rfl
   have hfz15_0 := blk_frozen BK101.out 0
   have hfz15_1 := blk_frozen BK101.out 1
   go_wp2_with (first | ((with_reducible refine gate_callee (f := 34) rfl ?_); refine goesL_ (some 7) rfl rfl Tryd.func34 (by kernel_rfl) rfl #[.agg #[.string a0_0, .int .i64 a0_1]] rfl k70_ ?_; (with_reducible refine (impl_isPuzzle.calls a0_0 a0_1 false _ A5.out).mono ?_); rintro e w16 ⟨rfl, hb⟩; refine ⟨_, rfl, ?_⟩; replace BK101 := BK101.mw hb; replace BK102 := Aside0.mk (blk_below k91_ hb); replace HB := Aside0.mk (below_step k78_ hb); (try clear hb)))
   go_meet
   case rel => exact ⟨_, (true), k98_, H', ⟨k100_⟩, ⟨k90_⟩, ⟨k91_⟩, ⟨k78_⟩⟩
 case rest =>
  clear HC2
  obtain ⟨kq, x14_1, rfl, HA, HJ1, BK101, BK102, HB⟩ := hcut
  cases kq with
  | zero => exact absurd HA.out (by simp [impl_HarderPuzzle.j0])
  | succ kj1 =>
   have H := HA.out
   clear HA
   simp only [impl_HarderPuzzle.j0] at H
   by_cases c17 : x14_1 = true
   ·subst c17
    rw [if_pos rfl] at H
    simp only [Option.some.injEq, Prod.mk.injEq] at H
    obtain ⟨rfl, rfl, rfl⟩ := H
    have hnb18 := NB102_101.out
    have hnc18 := NB101_102.out
    have hcz19_0 : wc.cell? ⟨gb102, 0, none⟩ = some (.string (⟨#[]⟩ : ByteArray)) := (blk_cell BK102.out 0).trans rfl
    have hcz19_1 : wc.cell? ⟨gb102, 1, none⟩ = some (.int .i64 0) := (blk_cell BK102.out 1).trans rfl
    have hfz19_0 := blk_frozen BK102.out 0
    have hfz19_1 := blk_frozen BK102.out 1
    go_wp2
    refine bodyPost_ret (results_ct rfl _ _ gb102 27 #[.string (⟨#[]⟩ : ByteArray), .int .i64 0] (0, 0) _ rfl k4_ Tryd.underlying27 rfl (by kernel_rfl)) rfl ?_
    exact ⟨k81_, k78_⟩
   ·replace c17 := Bool.eq_false_iff.mpr c17
    subst c17
    rw [if_neg (show ¬ (false = true) by decide)] at H
    have H' := Aside0.mk H
    clear H
    go_wp2
    go_loopg [4] kj1 (fun kq v4 w' => ∃ (x4_2 : Int) (x102000_2 : ByteArray) (x102001_2 : Int), v4 = .int .i64 x4_2 ∧ Aside0 (impl_HarderPuzzle.l0 kq x4_2 x102000_2 x102001_2 = some (r1, r2, r3)) ∧ Aside0 (kq ≤ kj1) ∧ Aside0 (w'.heap[gb101]? = some (.cells #[.string x102000_2, .int .i64 x102001_2] 27 (0, 0))) ∧ Aside0 (w'.heap[gb102]? = some (.cells #[.string (⟨#[]⟩ : ByteArray), .int .i64 0] 27 (0, 0))) ∧ Aside0 (Below w.heap.size w w'))
    case atStart => exact ⟨(1), (a0_0), (a0_1), k98_, H', ⟨Nat.le_refl _⟩, ⟨k90_⟩, ⟨k91_⟩, ⟨k78_⟩⟩
    case round =>
     clear H'
     (try clear c17)
     obtain ⟨x4_2, x102000_2, x102001_2, rfl, HA, HK2, BK101, BK102, HB⟩ := hrel
     cases gk with
     | zero => exact absurd HA.out (by simp [impl_HarderPuzzle.l0])
     | succ k2 =>
      have H := HA.out
      clear HA
      simp only [impl_HarderPuzzle.l0] at H
      by_cases c20 : x4_2 ≤ (x102000_2.size : Int)
      ·rw [if_pos c20] at H
       have c20b0 : decide (x4_2 ≤ (x102000_2.size : Int)) = true := decide_eq_true c20
       clear c20
       obtain ⟨⟨t107, t108⟩, A21, H⟩ := obnd_ H
       (try dsimp only at H)
       obtain ⟨t110, A22, H⟩ := obnd_ H
       (try dsimp only at H)
       by_cases c23 : (t110.length : Int) = 1
       ·rw [if_pos c23] at H
        have c23b0 : ((t110.length : Int) == 1) = true := beq_iff_eq.mpr c23
        have c23b1 : ((t110.length : Int) != 1) = false := bne_eq_false_iff_eq.mpr c23
        clear c23
        have H' := Aside0.mk H
        clear H
        have hnb24 := NB101_102.out
        have hnc24 := NB102_101.out
        have hcz25_0 : wr.cell? ⟨gb101, 0, none⟩ = some (.string x102000_2) := (blk_cell BK101.out 0).trans rfl
        have hcz25_1 : wr.cell? ⟨gb101, 1, none⟩ = some (.int .i64 x102001_2) := (blk_cell BK101.out 1).trans rfl
        have hfz25_0 := blk_frozen BK101.out 0
        have hfz25_1 := blk_frozen BK101.out 1
        go_wp2_with (first | ((with_reducible refine gate_callee (f := 38) rfl ?_); refine goesL_ (some 25) rfl rfl Tryd.func38 (by kernel_rfl) rfl #[.agg #[.string x102000_2, .int .i64 x102001_2], .int .i64 x4_2, .string (⟨#[63]⟩ : ByteArray)] rfl k70_ ?_; (with_reducible refine (impl_withSign.calls x102000_2 x102001_2 x4_2 (⟨#[63]⟩ : ByteArray) t107 t108 _ A21.out).mono ?_); rintro e w26 ⟨rfl, hb⟩; refine ⟨_, rfl, ?_⟩; replace BK101 := BK101.mw hb; replace BK102 := Aside0.mk (blk_below k91_ hb); replace HB := Aside0.mk (below_step k78_ hb); (try clear hb)) | ((with_reducible refine gate_dst (N := 5) rfl ?_); (try (refine gate_guard (by rfl) ?_; dsimp only)); refine box_event ?hg (N := 5) ?hd (cs := #[.string (⟨#[]⟩ : ByteArray), .int .i64 0]) (t := 27) ?hr ?_; (case hd => rfl); (case hg => rfl); (case hr => exact k99_); intro gb109 hg w27 hbox hb; have BK109 := Aside0.mk (hbox); have GW109 := Aside0.mk ((by rw [hg]; exact (below_size k78_) : w.heap.size ≤ gb109)); have GE109 := Aside0.mk ((by rw [hg]; exact (below_size k78_) : w.heap.size ≤ gb109)); replace HB := Aside0.mk (below_step k78_ hb); have NB101_109 := Aside0.mk (BK101.ne hg); have NB109_101 := Aside0.mk (BK101.ne hg).symm; replace BK101 := BK101.mw hb; have NB102_109 := Aside0.mk (BK102.ne hg); have NB109_102 := Aside0.mk (BK102.ne hg).symm; replace BK102 := Aside0.mk (blk_below k91_ hb); clear hb hbox hg; have hnb28 := NB109_101.out; have hnc28 := NB101_109.out; have hnb29 := NB109_102.out; have hnc29 := NB102_109.out; have hcz30_0 : w27.cell? ⟨gb109, 0, none⟩ = some (.string (⟨#[]⟩ : ByteArray)) := (blk_cell BK109.out 0).trans rfl; have hcz30_1 : w27.cell? ⟨gb109, 1, none⟩ = some (.int .i64 0) := (blk_cell BK109.out 1).trans rfl; have hfz30_0 := blk_frozen BK109.out 0; have hfz30_1 := blk_frozen BK109.out 1) | ((with_reducible refine gate_callee (f := 35) rfl ?_); refine goesL_ (some 27) rfl rfl Tryd.func35 (by kernel_rfl) rfl #[.agg #[.string t107, .int .i64 t108], .int .i64 2] rfl k70_ ?_; (with_reducible refine (impl_someAnswers.calls k2 t107 t108 2 t110 _ A22.out).mono ?_); rintro e w31 ⟨v111, rfl, ho0, hb⟩; refine ⟨_, rfl, ?_⟩; have HO112 := Aside0.mk (Kd.S_lower ho0 (below_size k73_)); replace BK101 := Aside0.mk (blk_below (g := gb101) (o := .cells #[.string x102000_2, .int .i64 x102001_2] 27 (0, 0)) k35_ hb); replace BK102 := Aside0.mk (blk_below (g := gb102) (o := .cells #[.string (⟨#[]⟩ : ByteArray), .int .i64 0] 27 (0, 0)) k22_ hb); replace BK109 := Aside0.mk (blk_below (g := gb109) (o := .cells #[.string t107, .int .i64 t108] 27 (0, 0)) k16_ hb); replace HB := Aside0.mk (below_step k73_ hb); (try clear hb ho0); obtain ⟨Ao32, co32, eo32⟩ := Kd.S_slice HO112.out; subst eo32; have hcz33_0 : w31.cell? ⟨gb109, 0, none⟩ = some (.string t107) := (blk_cell BK109.out 0).trans rfl; have hcz33_1 : w31.cell? ⟨gb109, 1, none⟩ = some (.int .i64 t108) := (blk_cell BK109.out 1).trans rfl; have hfz33_0 := blk_frozen BK109.out 0; have hfz33_1 := blk_frozen BK109.out 1; have hcz34_0 : w31.cell? ⟨gb101, 0, none⟩ = some (.string x102000_2) := (blk_cell BK101.out 0).trans rfl; have hcz34_1 : w31.cell? ⟨gb101, 1, none⟩ = some (.int .i64 x102001_2) := (blk_cell BK101.out 1).trans rfl; have hfz34_0 := blk_frozen BK101.out 0; have hfz34_1 := blk_frozen BK101.out 1))
        go_roundg k2
        case measure => have := HJ1.out; have := HK2.out; omega
        case rel => exact ⟨(wrap64 (x4_2 + 1)), (t107), (t108), k98_, H', ⟨by have := HJ1.out; have := HK2.out; omega⟩, ⟨by (with_reducible repeat (first | refine blk_drewN ?_ _ | refine blk_drew ?_ | refine blk_alloc ?_ _)); refine blk_put (cs := #[.string t107, .int .i64 x102001_2]) ?_ 1 _ rfl; (with_reducible repeat (first | refine blk_drewN ?_ _ | refine blk_drew ?_ | refine blk_alloc ?_ _)); refine blk_put (cs := #[.string x102000_2, .int .i64 x102001_2]) ?_ 0 _ rfl; apply_rules only [BK101.out, blk_drewN, blk_drew, blk_alloc]⟩, ⟨k21_⟩, ⟨k73_⟩⟩
       ·rw [if_neg c23] at H
        have c23b0 : ((t110.length : Int) == 1) = false := beq_eq_false_iff_ne.mpr c23
        have c23b1 : ((t110.length : Int) != 1) = true := bne_iff_ne.mpr c23
        have H' := Aside0.mk H
        clear H
        have hnb35 := NB101_102.out
        have hnc35 := NB102_101.out
        have hcz36_0 : wr.cell? ⟨gb101, 0, none⟩ = some (.string x102000_2) := (blk_cell BK101.out 0).trans rfl
        have hcz36_1 : wr.cell? ⟨gb101, 1, none⟩ = some (.int .i64 x102001_2) := (blk_cell BK101.out 1).trans rfl
        have hfz36_0 := blk_frozen BK101.out 0
        have hfz36_1 := blk_frozen BK101.out 1
        go_wp2_with (first | ((with_reducible refine gate_callee (f := 38) rfl ?_); refine goesL_ (some 25) rfl rfl Tryd.func38 (by kernel_rfl) rfl #[.agg #[.string x102000_2, .int .i64 x102001_2], .int .i64 x4_2, .string (⟨#[63]⟩ : ByteArray)] rfl k70_ ?_; (with_reducible refine (impl_withSign.calls x102000_2 x102001_2 x4_2 (⟨#[63]⟩ : ByteArray) t107 t108 _ A21.out).mono ?_); rintro e w37 ⟨rfl, hb⟩; refine ⟨_, rfl, ?_⟩; replace BK101 := BK101.mw hb; replace BK102 := Aside0.mk (blk_below k91_ hb); replace HB := Aside0.mk (below_step k78_ hb); (try clear hb)) | ((with_reducible refine gate_dst (N := 5) rfl ?_); (try (refine gate_guard (by rfl) ?_; dsimp only)); refine box_event ?hg (N := 5) ?hd (cs := #[.string (⟨#[]⟩ : ByteArray), .int .i64 0]) (t := 27) ?hr ?_; (case hd => rfl); (case hg => rfl); (case hr => exact k99_); intro gb109 hg w38 hbox hb; have BK109 := Aside0.mk (hbox); have GW109 := Aside0.mk ((by rw [hg]; exact (below_size k78_) : w.heap.size ≤ gb109)); have GE109 := Aside0.mk ((by rw [hg]; exact (below_size k78_) : w.heap.size ≤ gb109)); replace HB := Aside0.mk (below_step k78_ hb); have NB101_109 := Aside0.mk (BK101.ne hg); have NB109_101 := Aside0.mk (BK101.ne hg).symm; replace BK101 := BK101.mw hb; have NB102_109 := Aside0.mk (BK102.ne hg); have NB109_102 := Aside0.mk (BK102.ne hg).symm; replace BK102 := Aside0.mk (blk_below k91_ hb); clear hb hbox hg; have hnb39 := NB109_101.out; have hnc39 := NB101_109.out; have hnb40 := NB109_102.out; have hnc40 := NB102_109.out; have hcz41_0 : w38.cell? ⟨gb109, 0, none⟩ = some (.string (⟨#[]⟩ : ByteArray)) := (blk_cell BK109.out 0).trans rfl; have hcz41_1 : w38.cell? ⟨gb109, 1, none⟩ = some (.int .i64 0) := (blk_cell BK109.out 1).trans rfl; have hfz41_0 := blk_frozen BK109.out 0; have hfz41_1 := blk_frozen BK109.out 1) | ((with_reducible refine gate_callee (f := 35) rfl ?_); refine goesL_ (some 27) rfl rfl Tryd.func35 (by kernel_rfl) rfl #[.agg #[.string t107, .int .i64 t108], .int .i64 2] rfl k70_ ?_; (with_reducible refine (impl_someAnswers.calls k2 t107 t108 2 t110 _ A22.out).mono ?_); rintro e w42 ⟨v111, rfl, ho0, hb⟩; refine ⟨_, rfl, ?_⟩; have HO112 := Aside0.mk (Kd.S_lower ho0 (below_size k73_)); replace BK101 := Aside0.mk (blk_below (g := gb101) (o := .cells #[.string x102000_2, .int .i64 x102001_2] 27 (0, 0)) k35_ hb); replace BK102 := Aside0.mk (blk_below (g := gb102) (o := .cells #[.string (⟨#[]⟩ : ByteArray), .int .i64 0] 27 (0, 0)) k22_ hb); replace BK109 := Aside0.mk (blk_below (g := gb109) (o := .cells #[.string t107, .int .i64 t108] 27 (0, 0)) k16_ hb); replace HB := Aside0.mk (below_step k73_ hb); (try clear hb ho0); obtain ⟨Ao43, co43, eo43⟩ := Kd.S_slice HO112.out; subst eo43))
        go_roundg k2
        case measure => have := HJ1.out; have := HK2.out; omega
        case rel => exact ⟨(wrap64 (x4_2 + 1)), (x102000_2), (x102001_2), k98_, H', ⟨by have := HJ1.out; have := HK2.out; omega⟩, ⟨k90_⟩, ⟨k91_⟩, ⟨k73_⟩⟩
      ·rw [if_neg c20] at H
       have c20b0 : decide (x4_2 ≤ (x102000_2.size : Int)) = false := decide_eq_false c20
       clear c20
       simp only [Option.some.injEq, Prod.mk.injEq] at H
       obtain ⟨rfl, rfl, rfl⟩ := H
       have hnb44 := NB101_102.out
       have hnc44 := NB102_101.out
       have hcz45_0 : wr.cell? ⟨gb101, 0, none⟩ = some (.string x102000_2) := (blk_cell BK101.out 0).trans rfl
       have hcz45_1 : wr.cell? ⟨gb101, 1, none⟩ = some (.int .i64 x102001_2) := (blk_cell BK101.out 1).trans rfl
       have hfz45_0 := blk_frozen BK101.out 0
       have hfz45_1 := blk_frozen BK101.out 1
       have hcz46_0 : wr.cell? ⟨gb102, 0, none⟩ = some (.string (⟨#[]⟩ : ByteArray)) := (blk_cell BK102.out 0).trans rfl
       have hcz46_1 : wr.cell? ⟨gb102, 1, none⟩ = some (.int .i64 0) := (blk_cell BK102.out 1).trans rfl
       have hfz46_0 := blk_frozen BK102.out 0
       have hfz46_1 := blk_frozen BK102.out 1
       go_wp2
       refine bodyPost_ret (results_ct rfl _ _ gb102 27 #[.string x102000_2, .int .i64 x102001_2] (0, 0) _ rfl k7_ Tryd.underlying27 rfl (by kernel_rfl)) rfl ?_
       exact ⟨k81_, k78_⟩
end Go.Proofs.YtgmfaleamhpfjaaDoor.P
namespace Go.Proofs.YtgmfaleamhpfjaaDoor.P
open Go.RowKit Go.Proofs.YtgmfaleamhpfjaaDoorW.PrintWords Go.Proofs.YtgmfaleamhpfjaaDoorW.PrintLast Go.Proofs.YtgmfaleamhpfjaaDoorW.PrintMore
attribute [local go_sem] max2_int min2_int max_two min_two max_three min_three max_four min_four
set_option linter.unusedVariables false
set_option linter.unusedSimpArgs false
def spec_pzPattern.l0 : Nat → ByteArray → Int → Option (Bool)
 | 0, _, _ => none
 | k + 1, x0, x3 => if x3 < (x0.size : Int) then (if 0 ≤ x3 then (if (bt x0 x3) = 111 then (spec_pzPattern.l0 k x0 (wrap64 (x3 + 1))) else (if (bt x0 x3) = 120 then (spec_pzPattern.l0 k x0 (wrap64 (x3 + 1))) else (if (bt x0 x3) = 63 then (spec_pzPattern.l0 k x0 (wrap64 (x3 + 1))) else (some false)))) else (none)) else (some true)
def spec_pzPattern.f (k : Nat) (a0 : ByteArray) : Option (Bool) := (spec_l1In.f (a0.size : Int) 1 48).bind fun t101 => (if t101 = true then (spec_pzPattern.l0 k a0 0) else (some false))
set_option maxHeartbeats 8000000 in
set_option maxRecDepth 100000 in
theorem spec_pzPattern.calls (k : Nat) (a0 : ByteArray) (r : Bool) (w : World) (h : spec_pzPattern.f k a0 = some r) :
  Calls Tryd.prog 45 #[.string a0] w fun e w' => e = .returned (.bool r) ∧ Drawn0 w w' := by
 have H : ((spec_l1In.f (a0.size : Int) 1 48).bind fun t101 => (if t101 = true then (spec_pzPattern.l0 k a0 0) else (some false))) = some r := h
 clear h
 obtain ⟨t101, A2, H⟩ := obnd_ H
 (try dsimp only at H)
 by_cases c3 : t101 = true
 ·subst c3
  rw [if_pos rfl] at H
  have H' := Aside0.mk H
  clear H
  go_enter Tryd.func45, Tryd.ntmps45
  go_wp2_with (first | ((with_reducible refine gate_callee (f := 32) rfl ?_); refine goesL_ (some 6) rfl rfl Tryd.func32 (by kernel_rfl) rfl #[.int .i64 (a0.size : Int), .int .i64 1, .int .i64 48] rfl k70_ ?_; (with_reducible refine (spec_l1In.calls (a0.size : Int) 1 48 true _ A2.out).mono ?_); rintro e w' ⟨rfl, ⟨nd, rfl⟩⟩; refine ⟨_, rfl, ?_⟩))
  go_loopg [3] k (fun kq v3 w' => ∃ (x3_1 : Int), v3 = .int .i64 x3_1 ∧ Aside0 (spec_pzPattern.l0 kq a0 x3_1 = some r) ∧ Aside0 (kq ≤ k) ∧ Drawn0 w w')
  case atStart => exact ⟨(0), k98_, H', ⟨Nat.le_refl _⟩, k96_⟩
  case round =>
   clear H'
   (try clear c3)
   obtain ⟨x3_1, rfl, HA, HK1, ⟨m1, rfl⟩⟩ := hrel
   cases gk with
   | zero => exact absurd HA.out (by simp [spec_pzPattern.l0])
   | succ k1 =>
    have H := HA.out
    clear HA
    simp only [spec_pzPattern.l0] at H
    by_cases c4 : x3_1 < (a0.size : Int)
    ·rw [if_pos c4] at H
     have c4b0 : decide (x3_1 < (a0.size : Int)) = true := decide_eq_true c4
     clear c4
     by_cases c5 : 0 ≤ x3_1
     ·rw [if_pos c5] at H
      have c5b0 : decide (0 ≤ x3_1) = true := decide_eq_true c5
      clear c5
      by_cases c7 : (bt a0 x3_1) = 111
      ·rw [if_pos c7] at H
       have c7b0 : ((bt a0 x3_1) == 111) = true := beq_iff_eq.mpr c7
       have c7b1 : ((bt a0 x3_1) != 111) = false := bne_eq_false_iff_eq.mpr c7
       clear c7
       have H' := Aside0.mk H
       clear H
       have p6 : 0 ≤ (x3_1 : Int) := of_decide_eq_true k97_
       have q6 : x3_1 < (a0.size : Int) := of_decide_eq_true k97_
       have hx6 := bt_at a0 x3_1
       replace p6 := eq_true p6
       replace q6 := eq_true q6
       go_wp2
       go_roundg k1
       case measure => have := HK1.out; omega
       case rel => exact ⟨(wrap64 (x3_1 + 1)), k98_, H', ⟨k101_⟩, k96_⟩
      ·rw [if_neg c7] at H
       have c7b0 : ((bt a0 x3_1) == 111) = false := beq_eq_false_iff_ne.mpr c7
       have c7b1 : ((bt a0 x3_1) != 111) = true := bne_iff_ne.mpr c7
       by_cases c9 : (bt a0 x3_1) = 120
       ·rw [if_pos c9] at H
        have c9b0 : ((bt a0 x3_1) == 120) = true := beq_iff_eq.mpr c9
        have c9b1 : ((bt a0 x3_1) != 120) = false := bne_eq_false_iff_eq.mpr c9
        clear c9
        have H' := Aside0.mk H
        clear H
        have p6 : 0 ≤ (x3_1 : Int) := of_decide_eq_true k97_
        have q6 : x3_1 < (a0.size : Int) := of_decide_eq_true k97_
        have hx6 := bt_at a0 x3_1
        replace p6 := eq_true p6
        replace q6 := eq_true q6
        have p8 : 0 ≤ (x3_1 : Int) := of_decide_eq_true k97_
        have q8 : x3_1 < (a0.size : Int) := of_decide_eq_true k97_
        have hx8 := bt_at a0 x3_1
        replace p8 := eq_true p8
        replace q8 := eq_true q8
        go_wp2
        go_roundg k1
        case measure => have := HK1.out; omega
        case rel => exact ⟨(wrap64 (x3_1 + 1)), k98_, H', ⟨k101_⟩, k96_⟩
       ·rw [if_neg c9] at H
        have c9b0 : ((bt a0 x3_1) == 120) = false := beq_eq_false_iff_ne.mpr c9
        have c9b1 : ((bt a0 x3_1) != 120) = true := bne_iff_ne.mpr c9
        by_cases c11 : (bt a0 x3_1) = 63
        ·rw [if_pos c11] at H
         have c11b0 : ((bt a0 x3_1) == 63) = true := beq_iff_eq.mpr c11
         have c11b1 : ((bt a0 x3_1) != 63) = false := bne_eq_false_iff_eq.mpr c11
         clear c11
         have H' := Aside0.mk H
         clear H
         have p6 : 0 ≤ (x3_1 : Int) := of_decide_eq_true k97_
         have q6 : x3_1 < (a0.size : Int) := of_decide_eq_true k97_
         have hx6 := bt_at a0 x3_1
         replace p6 := eq_true p6
         replace q6 := eq_true q6
         have p8 : 0 ≤ (x3_1 : Int) := of_decide_eq_true k97_
         have q8 : x3_1 < (a0.size : Int) := of_decide_eq_true k97_
         have hx8 := bt_at a0 x3_1
         replace p8 := eq_true p8
         replace q8 := eq_true q8
         have p10 : 0 ≤ (x3_1 : Int) := of_decide_eq_true k97_
         have q10 : x3_1 < (a0.size : Int) := of_decide_eq_true k97_
         have hx10 := bt_at a0 x3_1
         replace p10 := eq_true p10
         replace q10 := eq_true q10
         go_wp2
         go_roundg k1
         case measure => have := HK1.out; omega
         case rel => exact ⟨(wrap64 (x3_1 + 1)), k98_, H', ⟨k101_⟩, k96_⟩
        ·rw [if_neg c11] at H
         have c11b0 : ((bt a0 x3_1) == 63) = false := beq_eq_false_iff_ne.mpr c11
         have c11b1 : ((bt a0 x3_1) != 63) = true := bne_iff_ne.mpr c11
         obtain rfl := Option.some.inj H
         have p6 : 0 ≤ (x3_1 : Int) := of_decide_eq_true k97_
         have q6 : x3_1 < (a0.size : Int) := of_decide_eq_true k97_
         have hx6 := bt_at a0 x3_1
         replace p6 := eq_true p6
         replace q6 := eq_true q6
         have p8 : 0 ≤ (x3_1 : Int) := of_decide_eq_true k97_
         have q8 : x3_1 < (a0.size : Int) := of_decide_eq_true k97_
         have hx8 := bt_at a0 x3_1
         replace p8 := eq_true p8
         replace q8 := eq_true q8
         have p10 : 0 ≤ (x3_1 : Int) := of_decide_eq_true k97_
         have q10 : x3_1 < (a0.size : Int) := of_decide_eq_true k97_
         have hx10 := bt_at a0 x3_1
         replace p10 := eq_true p10
         replace q10 := eq_true q10
         go_wp2
         go_ret
         exact ⟨k98_, k96_⟩
     ·rw [if_neg c5] at H
      exact absurd H (by simp)
    ·rw [if_neg c4] at H
     have c4b0 : decide (x3_1 < (a0.size : Int)) = false := decide_eq_false c4
     clear c4
     obtain rfl := Option.some.inj H
     go_wp2
     go_ret
     exact ⟨k98_, k96_⟩
 ·replace c3 := Bool.eq_false_iff.mpr c3
  subst c3
  rw [if_neg (show ¬ (false = true) by decide)] at H
  obtain rfl := Option.some.inj H
  go_enter Tryd.func45, Tryd.ntmps45
  go_wp2_with (first | ((with_reducible refine gate_callee (f := 32) rfl ?_); refine goesL_ (some 6) rfl rfl Tryd.func32 (by kernel_rfl) rfl #[.int .i64 (a0.size : Int), .int .i64 1, .int .i64 48] rfl k70_ ?_; (with_reducible refine (spec_l1In.calls (a0.size : Int) 1 48 false _ A2.out).mono ?_); rintro e w' ⟨rfl, ⟨nd, rfl⟩⟩; refine ⟨_, rfl, ?_⟩))
  go_ret
  exact ⟨k98_, k96_⟩
end Go.Proofs.YtgmfaleamhpfjaaDoor.P
namespace Go.Proofs.YtgmfaleamhpfjaaDoor.P
open Go.RowKit Go.Proofs.YtgmfaleamhpfjaaDoorW.PrintWords Go.Proofs.YtgmfaleamhpfjaaDoorW.PrintLast Go.Proofs.YtgmfaleamhpfjaaDoorW.PrintMore
attribute [local go_sem] max2_int min2_int max_two min_two max_three min_three max_four min_four
set_option linter.unusedVariables false
set_option linter.unusedSimpArgs false
def spec_pzGood.f (k : Nat) (a0_0 : ByteArray) (a0_1 : Int) : Option (Bool) := (spec_pzPattern.f k a0_0).bind fun t102 => (if t102 = true then ((spec_l1In.f a0_1 0 3).bind fun t103 => (some t103)) else (some false))
set_option maxHeartbeats 8000000 in
set_option maxRecDepth 100000 in
theorem spec_pzGood.calls (k : Nat) (a0_0 : ByteArray) (a0_1 : Int) (r : Bool) (w : World) (h : spec_pzGood.f k a0_0 a0_1 = some r) :
  Calls Tryd.prog 42 #[.agg #[.string a0_0, .int .i64 a0_1]] w fun e w' => e = .returned (.bool r) ∧ Below w.heap.size w w' := by
 have hu27 := Tryd.underlying27
 have HB := Aside0.mk (Below.refl w.heap.size w)
 have H : ((spec_pzPattern.f k a0_0).bind fun t102 => (if t102 = true then ((spec_l1In.f a0_1 0 3).bind fun t103 => (some t103)) else (some false))) = some r := h
 clear h
 obtain ⟨t102, A2, H⟩ := obnd_ H
 (try dsimp only at H)
 by_cases c3 : t102 = true
 ·subst c3
  rw [if_pos rfl] at H
  obtain ⟨t103, A4, H⟩ := obnd_ H
  (try dsimp only at H)
  obtain rfl := Option.some.inj H
  go_enter Tryd.func42, Tryd.ntmps42
  go_wp2_with (first | ((with_reducible refine gate_dst (N := 1) rfl ?_); refine box_event ?hg (N := 1) ?hd (cs := #[.string a0_0, .int .i64 a0_1]) (t := 27) ?hr ?_; (case hd => rfl); (case hg => rfl); (case hr => exact k99_); intro gb101 hg w5 hbox hb; have BK101 := Aside0.mk (hbox); have GW101 := Aside0.mk (HB.ge hg); have GE101 := Aside0.mk (HB.ge hg); replace HB := HB.mw hb; clear hb hbox hg; have hcz6_0 : w5.cell? ⟨gb101, 0, none⟩ = some (.string a0_0) := (blk_cell BK101.out 0).trans rfl; have hcz6_1 : w5.cell? ⟨gb101, 1, none⟩ = some (.int .i64 a0_1) := (blk_cell BK101.out 1).trans rfl; have hfz6_0 := blk_frozen BK101.out 0; have hfz6_1 := blk_frozen BK101.out 1) | ((with_reducible refine gate_callee (f := 45) rfl ?_); refine goesL_ (some 5) rfl rfl Tryd.func45 (by kernel_rfl) rfl #[.string a0_0] rfl k70_ ?_; (with_reducible refine (spec_pzPattern.calls k a0_0 true _ A2.out).mono ?_); rintro e w' ⟨rfl, ⟨nd, rfl⟩⟩; refine ⟨_, rfl, ?_⟩) | (go_at_call 32; (with_reducible refine (spec_l1In.calls a0_1 0 3 t103 _ A4.out).mono ?_); rintro e w' ⟨rfl, ⟨nd, rfl⟩⟩))
  go_ret
  exact ⟨k81_, k82_⟩
 ·replace c3 := Bool.eq_false_iff.mpr c3
  subst c3
  rw [if_neg (show ¬ (false = true) by decide)] at H
  obtain rfl := Option.some.inj H
  go_enter Tryd.func42, Tryd.ntmps42
  go_wp2_with (first | ((with_reducible refine gate_dst (N := 1) rfl ?_); refine box_event ?hg (N := 1) ?hd (cs := #[.string a0_0, .int .i64 a0_1]) (t := 27) ?hr ?_; (case hd => rfl); (case hg => rfl); (case hr => exact k99_); intro gb101 hg w7 hbox hb; have BK101 := Aside0.mk (hbox); have GW101 := Aside0.mk (HB.ge hg); have GE101 := Aside0.mk (HB.ge hg); replace HB := HB.mw hb; clear hb hbox hg; have hcz8_0 : w7.cell? ⟨gb101, 0, none⟩ = some (.string a0_0) := (blk_cell BK101.out 0).trans rfl; have hcz8_1 : w7.cell? ⟨gb101, 1, none⟩ = some (.int .i64 a0_1) := (blk_cell BK101.out 1).trans rfl; have hfz8_0 := blk_frozen BK101.out 0; have hfz8_1 := blk_frozen BK101.out 1) | ((with_reducible refine gate_callee (f := 45) rfl ?_); refine goesL_ (some 5) rfl rfl Tryd.func45 (by kernel_rfl) rfl #[.string a0_0] rfl k70_ ?_; (with_reducible refine (spec_pzPattern.calls k a0_0 false _ A2.out).mono ?_); rintro e w' ⟨rfl, ⟨nd, rfl⟩⟩; refine ⟨_, rfl, ?_⟩))
  go_ret
  exact ⟨k81_, k82_⟩
end Go.Proofs.YtgmfaleamhpfjaaDoor.P
namespace Go.Proofs.YtgmfaleamhpfjaaDoor.P
open Go.RowKit Go.Proofs.YtgmfaleamhpfjaaDoorW.PrintWords Go.Proofs.YtgmfaleamhpfjaaDoorW.PrintLast Go.Proofs.YtgmfaleamhpfjaaDoorW.PrintMore
attribute [local go_sem] max2_int min2_int max_two min_two max_three min_three max_four min_four
set_option linter.unusedVariables false
set_option linter.unusedSimpArgs false
def spec_HideNumber.f (k : Nat) (a0_0 : ByteArray) (a0_1 : Int) (a1 : Int) : Option (ByteArray × Int × Bool) := (spec_pzGood.f k a0_0 a0_1).bind fun t103 => (if t103 = true then ((spec_l1In.f a1 1 (a0_0.size : Int)).bind fun t104 => (if t104 = true then (if 0 ≤ (wrap64 (a1 - 1)) then (if (wrap64 (a1 - 1)) < (a0_0.size : Int) then (if (bt a0_0 (wrap64 (a1 - 1))) = 63 then (some ((⟨#[]⟩ : ByteArray), 0, false)) else ((spec_pzPut.f a0_0 a0_1 a1 (⟨#[63]⟩ : ByteArray)).bind fun bt105 => (some (bt105.1, bt105.2, true)))) else (none)) else (none)) else (some ((⟨#[]⟩ : ByteArray), 0, false)))) else (some ((⟨#[]⟩ : ByteArray), 0, false)))
set_option maxHeartbeats 8000000 in
set_option maxRecDepth 100000 in
theorem spec_HideNumber.calls (k : Nat) (a0_0 : ByteArray) (a0_1 : Int) (a1 : Int) (r1 : ByteArray) (r2 : Int) (r3 : Bool) (w : World) (h : spec_HideNumber.f k a0_0 a0_1 a1 = some (r1, r2, r3)) :
  Calls Tryd.prog 21 #[.agg #[.string a0_0, .int .i64 a0_1], .int .i64 a1] w fun e w' => e = .returned (.tuple #[.agg #[.string r1, .int .i64 r2], .bool r3]) ∧ Below w.heap.size w w' := by
 have hu27 := Tryd.underlying27
 have HB := Aside0.mk (Below.refl w.heap.size w)
 have H : ((spec_pzGood.f k a0_0 a0_1).bind fun t103 => (if t103 = true then ((spec_l1In.f a1 1 (a0_0.size : Int)).bind fun t104 => (if t104 = true then (if 0 ≤ (wrap64 (a1 - 1)) then (if (wrap64 (a1 - 1)) < (a0_0.size : Int) then (if (bt a0_0 (wrap64 (a1 - 1))) = 63 then (some ((⟨#[]⟩ : ByteArray), 0, false)) else ((spec_pzPut.f a0_0 a0_1 a1 (⟨#[63]⟩ : ByteArray)).bind fun bt105 => (some (bt105.1, bt105.2, true)))) else (none)) else (none)) else (some ((⟨#[]⟩ : ByteArray), 0, false)))) else (some ((⟨#[]⟩ : ByteArray), 0, false)))) = some (r1, r2, r3) := h
 clear h
 obtain ⟨t103, A3, H⟩ := obnd_ H
 (try dsimp only at H)
 by_cases c4 : t103 = true
 ·subst c4
  rw [if_pos rfl] at H
  obtain ⟨t104, A5, H⟩ := obnd_ H
  (try dsimp only at H)
  by_cases c6 : t104 = true
  ·subst c6
   rw [if_pos rfl] at H
   obtain ⟨ji7, hji7⟩ : ∃ j_ : Int, (wrap64 (a1 - 1)) = j_ := ⟨_, rfl⟩
   replace H : (if 0 ≤ (ji7) then (if (ji7) < (a0_0.size : Int) then (if (bt a0_0 (ji7)) = 63 then (some ((⟨#[]⟩ : ByteArray), 0, false)) else ((spec_pzPut.f a0_0 a0_1 a1 (⟨#[63]⟩ : ByteArray)).bind fun bt105 => (some (bt105.1, bt105.2, true)))) else (none)) else (none)) = some (r1, r2, r3) := by first | (rw [hji7] at H; exact H) | (simp only [hji7] at H ⊢; exact H)
   (try rw [hji7] at A3)
   (try rw [hji7] at A5)
   have hji7w : (IntKind.i64.wrap (a1 - 1)) = ji7 := (i64_w _).trans hji7
   by_cases c8 : 0 ≤ (ji7)
   ·rw [if_pos c8] at H
    have c8b0 : decide (0 ≤ (ji7)) = true := decide_eq_true c8
    clear c8
    by_cases c9 : (ji7) < (a0_0.size : Int)
    ·rw [if_pos c9] at H
     have c9b0 : decide ((ji7) < (a0_0.size : Int)) = true := decide_eq_true c9
     clear c9
     by_cases c11 : (bt a0_0 (ji7)) = 63
     ·rw [if_pos c11] at H
      have c11b0 : ((bt a0_0 (ji7)) == 63) = true := beq_iff_eq.mpr c11
      have c11b1 : ((bt a0_0 (ji7)) != 63) = false := bne_eq_false_iff_eq.mpr c11
      clear c11
      simp only [Option.some.injEq, Prod.mk.injEq] at H
      obtain ⟨rfl, rfl, rfl⟩ := H
      go_enter Tryd.func21, Tryd.ntmps21
      go_wp2_with (first | ((with_reducible refine gate_dst (N := 2) rfl ?_); (try (refine gate_guard (by rfl) ?_; dsimp only)); refine box_event ?hg (N := 2) ?hd (cs := #[.string a0_0, .int .i64 a0_1]) (t := 27) ?hr ?_; (case hd => rfl); (case hg => rfl); (case hr => exact k99_); intro gb101 hg w12 hbox hb; have BK101 := Aside0.mk (hbox); have GW101 := Aside0.mk (HB.ge hg); have GE101 := Aside0.mk (HB.ge hg); replace HB := HB.mw hb; clear hb hbox hg) | ((with_reducible refine gate_dst (N := 4) rfl ?_); (try (refine gate_guard (by rfl) ?_; dsimp only)); refine box_event ?hg (N := 4) ?hd (cs := #[.string (⟨#[]⟩ : ByteArray), .int .i64 0]) (t := 27) ?hr ?_; (case hd => rfl); (case hg => rfl); (case hr => exact k99_); intro gb102 hg w13 hbox hb; have BK102 := Aside0.mk (hbox); have GW102 := Aside0.mk ((by rw [hg]; exact (below_size k82_) : w.heap.size ≤ gb102)); have GE102 := Aside0.mk ((by rw [hg]; exact (below_size k82_) : w.heap.size ≤ gb102)); replace HB := Aside0.mk (below_step k82_ hb); have NB101_102 := Aside0.mk (BK101.ne hg); have NB102_101 := Aside0.mk (BK101.ne hg).symm; replace BK101 := BK101.mw hb; clear hb hbox hg; have hnb14 := NB101_102.out; have hnc14 := NB102_101.out; have hcz15_0 : w13.cell? ⟨gb101, 0, none⟩ = some (.string a0_0) := (blk_cell BK101.out 0).trans rfl; have hcz15_1 : w13.cell? ⟨gb101, 1, none⟩ = some (.int .i64 a0_1) := (blk_cell BK101.out 1).trans rfl; have hfz15_0 := blk_frozen BK101.out 0; have hfz15_1 := blk_frozen BK101.out 1) | ((with_reducible refine gate_callee (f := 42) rfl ?_); refine goesL_ (some 7) rfl rfl Tryd.func42 (by kernel_rfl) rfl #[.agg #[.string a0_0, .int .i64 a0_1]] rfl k70_ ?_; (with_reducible refine (spec_pzGood.calls k a0_0 a0_1 true _ A3.out).mono ?_); rintro e w16 ⟨rfl, hb⟩; refine ⟨_, rfl, ?_⟩; replace BK101 := BK101.mw hb; replace BK102 := Aside0.mk (blk_below k91_ hb); replace HB := Aside0.mk (below_step k78_ hb); (try clear hb); have hcz17_0 : w16.cell? ⟨gb101, 0, none⟩ = some (.string a0_0) := (blk_cell BK101.out 0).trans rfl; have hcz17_1 : w16.cell? ⟨gb101, 1, none⟩ = some (.int .i64 a0_1) := (blk_cell BK101.out 1).trans rfl; have hfz17_0 := blk_frozen BK101.out 0; have hfz17_1 := blk_frozen BK101.out 1) | (go_at_call 32; (with_reducible refine (spec_l1In.calls a1 1 (a0_0.size : Int) true _ A5.out).mono ?_); rintro e w' ⟨rfl, ⟨nd, rfl⟩⟩; (try (rw [drewN_self w16]; generalize hq_ : World.drewN w16 _ = w16; have n0_ : Aside0 (w16.heap[gb101]? = some (.cells #[.string a0_0, .int .i64 a0_1] 27 (0, 0))) := ⟨by rw [← hq_]; exact k90_⟩; have n1_ : Aside0 (w16.heap[gb102]? = some (.cells #[.string (⟨#[]⟩ : ByteArray), .int .i64 0] 27 (0, 0))) := ⟨by rw [← hq_]; exact k91_⟩; have n2_ : Aside0 (Below w.heap.size w w16) := ⟨by rw [← hq_]; exact k78_⟩; clear BK101 BK102 HB hq_; have BK101 := n0_; have BK102 := n1_; have HB := n2_; clear n0_ n1_ n2_)); (try have hcy_w16_0 : w16.cell? ⟨gb101, 0, none⟩ = some (.string a0_0) := (blk_cell BK101.out 0).trans rfl); (try have hcy_w16_1 : w16.cell? ⟨gb101, 1, none⟩ = some (.int .i64 a0_1) := (blk_cell BK101.out 1).trans rfl); have p10 : 0 ≤ ((ji7) : Int) := of_decide_eq_true k97_; have q10 : (ji7) < (a0_0.size : Int) := of_decide_eq_true k97_; have hx10 := bt_at a0_0 (ji7); replace p10 := eq_true p10; replace q10 := eq_true q10; have hcz18_0 : w16.cell? ⟨gb102, 0, none⟩ = some (.string (⟨#[]⟩ : ByteArray)) := (blk_cell BK102.out 0).trans rfl; have hcz18_1 : w16.cell? ⟨gb102, 1, none⟩ = some (.int .i64 0) := (blk_cell BK102.out 1).trans rfl; have hfz18_0 := blk_frozen BK102.out 0; have hfz18_1 := blk_frozen BK102.out 1))
      refine bodyPost_ret (results_ct rfl _ _ gb102 27 #[.string (⟨#[]⟩ : ByteArray), .int .i64 0] (0, 0) _ rfl k4_ Tryd.underlying27 rfl (by kernel_rfl)) rfl ?_
      exact ⟨by first | rfl | (simp [errW_none, errW_some] <;> rfl) | (simp only [← hji7]; first | rfl | (simp [errW_none, errW_some] <;> rfl)) | (simp [*, errW_none, errW_some] <;> rfl), k78_⟩
     ·rw [if_neg c11] at H
      have c11b0 : ((bt a0_0 (ji7)) == 63) = false := beq_eq_false_iff_ne.mpr c11
      have c11b1 : ((bt a0_0 (ji7)) != 63) = true := bne_iff_ne.mpr c11
      obtain ⟨⟨t105, t106⟩, A19, H⟩ := obnd_ H
      (try dsimp only at H)
      simp only [Option.some.injEq, Prod.mk.injEq] at H
      obtain ⟨rfl, rfl, rfl⟩ := H
      go_enter Tryd.func21, Tryd.ntmps21
      go_wp2_with (first | ((with_reducible refine gate_dst (N := 2) rfl ?_); (try (refine gate_guard (by rfl) ?_; dsimp only)); refine box_event ?hg (N := 2) ?hd (cs := #[.string a0_0, .int .i64 a0_1]) (t := 27) ?hr ?_; (case hd => rfl); (case hg => rfl); (case hr => exact k99_); intro gb101 hg w20 hbox hb; have BK101 := Aside0.mk (hbox); have GW101 := Aside0.mk (HB.ge hg); have GE101 := Aside0.mk (HB.ge hg); replace HB := HB.mw hb; clear hb hbox hg) | ((with_reducible refine gate_dst (N := 4) rfl ?_); (try (refine gate_guard (by rfl) ?_; dsimp only)); refine box_event ?hg (N := 4) ?hd (cs := #[.string (⟨#[]⟩ : ByteArray), .int .i64 0]) (t := 27) ?hr ?_; (case hd => rfl); (case hg => rfl); (case hr => exact k99_); intro gb102 hg w21 hbox hb; have BK102 := Aside0.mk (hbox); have GW102 := Aside0.mk ((by rw [hg]; exact (below_size k82_) : w.heap.size ≤ gb102)); have GE102 := Aside0.mk ((by rw [hg]; exact (below_size k82_) : w.heap.size ≤ gb102)); replace HB := Aside0.mk (below_step k82_ hb); have NB101_102 := Aside0.mk (BK101.ne hg); have NB102_101 := Aside0.mk (BK101.ne hg).symm; replace BK101 := BK101.mw hb; clear hb hbox hg; have hnb22 := NB101_102.out; have hnc22 := NB102_101.out; have hcz23_0 : w21.cell? ⟨gb101, 0, none⟩ = some (.string a0_0) := (blk_cell BK101.out 0).trans rfl; have hcz23_1 : w21.cell? ⟨gb101, 1, none⟩ = some (.int .i64 a0_1) := (blk_cell BK101.out 1).trans rfl; have hfz23_0 := blk_frozen BK101.out 0; have hfz23_1 := blk_frozen BK101.out 1) | ((with_reducible refine gate_callee (f := 42) rfl ?_); refine goesL_ (some 7) rfl rfl Tryd.func42 (by kernel_rfl) rfl #[.agg #[.string a0_0, .int .i64 a0_1]] rfl k70_ ?_; (with_reducible refine (spec_pzGood.calls k a0_0 a0_1 true _ A3.out).mono ?_); rintro e w24 ⟨rfl, hb⟩; refine ⟨_, rfl, ?_⟩; replace BK101 := BK101.mw hb; replace BK102 := Aside0.mk (blk_below k91_ hb); replace HB := Aside0.mk (below_step k78_ hb); (try clear hb); have hcz25_0 : w24.cell? ⟨gb101, 0, none⟩ = some (.string a0_0) := (blk_cell BK101.out 0).trans rfl; have hcz25_1 : w24.cell? ⟨gb101, 1, none⟩ = some (.int .i64 a0_1) := (blk_cell BK101.out 1).trans rfl; have hfz25_0 := blk_frozen BK101.out 0; have hfz25_1 := blk_frozen BK101.out 1) | (go_at_call 32; (with_reducible refine (spec_l1In.calls a1 1 (a0_0.size : Int) true _ A5.out).mono ?_); rintro e w' ⟨rfl, ⟨nd, rfl⟩⟩; (try (rw [drewN_self w24]; generalize hq_ : World.drewN w24 _ = w24; have n0_ : Aside0 (w24.heap[gb101]? = some (.cells #[.string a0_0, .int .i64 a0_1] 27 (0, 0))) := ⟨by rw [← hq_]; exact k90_⟩; have n1_ : Aside0 (w24.heap[gb102]? = some (.cells #[.string (⟨#[]⟩ : ByteArray), .int .i64 0] 27 (0, 0))) := ⟨by rw [← hq_]; exact k91_⟩; have n2_ : Aside0 (Below w.heap.size w w24) := ⟨by rw [← hq_]; exact k78_⟩; clear BK101 BK102 HB hq_; have BK101 := n0_; have BK102 := n1_; have HB := n2_; clear n0_ n1_ n2_)); (try have hcy_w24_0 : w24.cell? ⟨gb101, 0, none⟩ = some (.string a0_0) := (blk_cell BK101.out 0).trans rfl); (try have hcy_w24_1 : w24.cell? ⟨gb101, 1, none⟩ = some (.int .i64 a0_1) := (blk_cell BK101.out 1).trans rfl); have p10 : 0 ≤ ((ji7) : Int) := of_decide_eq_true k97_; have q10 : (ji7) < (a0_0.size : Int) := of_decide_eq_true k97_; have hx10 := bt_at a0_0 (ji7); replace p10 := eq_true p10; replace q10 := eq_true q10) | ((with_reducible refine gate_callee (f := 43) rfl ?_); refine goesL_ (some 28) rfl rfl Tryd.func43 (by kernel_rfl) rfl #[.agg #[.string a0_0, .int .i64 a0_1], .int .i64 a1, .string (⟨#[63]⟩ : ByteArray)] rfl k70_ ?_; (with_reducible refine (spec_pzPut.calls a0_0 a0_1 a1 (⟨#[63]⟩ : ByteArray) t105 t106 _ A19.out).mono ?_); rintro e w26 ⟨rfl, hb⟩; refine ⟨_, rfl, ?_⟩; replace BK101 := BK101.mw hb; replace BK102 := Aside0.mk (blk_below k91_ hb); replace HB := Aside0.mk (below_step k78_ hb); (try clear hb); have hcz27_0 : w26.cell? ⟨gb102, 0, none⟩ = some (.string (⟨#[]⟩ : ByteArray)) := (blk_cell BK102.out 0).trans rfl; have hcz27_1 : w26.cell? ⟨gb102, 1, none⟩ = some (.int .i64 0) := (blk_cell BK102.out 1).trans rfl; have hfz27_0 := blk_frozen BK102.out 0; have hfz27_1 := blk_frozen BK102.out 1))
      refine bodyPost_ret (results_ct rfl _ _ gb102 27 #[.string t105, .int .i64 t106] (0, 0) _ rfl k10_ Tryd.underlying27 rfl (by kernel_rfl)) rfl ?_
      exact ⟨by first | rfl | (simp [errW_none, errW_some] <;> rfl) | (simp only [← hji7]; first | rfl | (simp [errW_none, errW_some] <;> rfl)) | (simp [*, errW_none, errW_some] <;> rfl), k78_⟩
    ·rw [if_neg c9] at H
     exact absurd H (by simp)
   ·rw [if_neg c8] at H
    exact absurd H (by simp)
  ·replace c6 := Bool.eq_false_iff.mpr c6
   subst c6
   rw [if_neg (show ¬ (false = true) by decide)] at H
   simp only [Option.some.injEq, Prod.mk.injEq] at H
   obtain ⟨rfl, rfl, rfl⟩ := H
   go_enter Tryd.func21, Tryd.ntmps21
   go_wp2_with (first | ((with_reducible refine gate_dst (N := 2) rfl ?_); (try (refine gate_guard (by rfl) ?_; dsimp only)); refine box_event ?hg (N := 2) ?hd (cs := #[.string a0_0, .int .i64 a0_1]) (t := 27) ?hr ?_; (case hd => rfl); (case hg => rfl); (case hr => exact k99_); intro gb101 hg w28 hbox hb; have BK101 := Aside0.mk (hbox); have GW101 := Aside0.mk (HB.ge hg); have GE101 := Aside0.mk (HB.ge hg); replace HB := HB.mw hb; clear hb hbox hg) | ((with_reducible refine gate_dst (N := 4) rfl ?_); (try (refine gate_guard (by rfl) ?_; dsimp only)); refine box_event ?hg (N := 4) ?hd (cs := #[.string (⟨#[]⟩ : ByteArray), .int .i64 0]) (t := 27) ?hr ?_; (case hd => rfl); (case hg => rfl); (case hr => exact k99_); intro gb102 hg w29 hbox hb; have BK102 := Aside0.mk (hbox); have GW102 := Aside0.mk ((by rw [hg]; exact (below_size k82_) : w.heap.size ≤ gb102)); have GE102 := Aside0.mk ((by rw [hg]; exact (below_size k82_) : w.heap.size ≤ gb102)); replace HB := Aside0.mk (below_step k82_ hb); have NB101_102 := Aside0.mk (BK101.ne hg); have NB102_101 := Aside0.mk (BK101.ne hg).symm; replace BK101 := BK101.mw hb; clear hb hbox hg; have hnb30 := NB101_102.out; have hnc30 := NB102_101.out; have hcz31_0 : w29.cell? ⟨gb101, 0, none⟩ = some (.string a0_0) := (blk_cell BK101.out 0).trans rfl; have hcz31_1 : w29.cell? ⟨gb101, 1, none⟩ = some (.int .i64 a0_1) := (blk_cell BK101.out 1).trans rfl; have hfz31_0 := blk_frozen BK101.out 0; have hfz31_1 := blk_frozen BK101.out 1) | ((with_reducible refine gate_callee (f := 42) rfl ?_); refine goesL_ (some 7) rfl rfl Tryd.func42 (by kernel_rfl) rfl #[.agg #[.string a0_0, .int .i64 a0_1]] rfl k70_ ?_; (with_reducible refine (spec_pzGood.calls k a0_0 a0_1 true _ A3.out).mono ?_); rintro e w32 ⟨rfl, hb⟩; refine ⟨_, rfl, ?_⟩; replace BK101 := BK101.mw hb; replace BK102 := Aside0.mk (blk_below k91_ hb); replace HB := Aside0.mk (below_step k78_ hb); (try clear hb); have hcz33_0 : w32.cell? ⟨gb101, 0, none⟩ = some (.string a0_0) := (blk_cell BK101.out 0).trans rfl; have hcz33_1 : w32.cell? ⟨gb101, 1, none⟩ = some (.int .i64 a0_1) := (blk_cell BK101.out 1).trans rfl; have hfz33_0 := blk_frozen BK101.out 0; have hfz33_1 := blk_frozen BK101.out 1) | (go_at_call 32; (with_reducible refine (spec_l1In.calls a1 1 (a0_0.size : Int) false _ A5.out).mono ?_); rintro e w' ⟨rfl, ⟨nd, rfl⟩⟩; (try (rw [drewN_self w32]; generalize hq_ : World.drewN w32 _ = w32; have n0_ : Aside0 (w32.heap[gb101]? = some (.cells #[.string a0_0, .int .i64 a0_1] 27 (0, 0))) := ⟨by rw [← hq_]; exact k90_⟩; have n1_ : Aside0 (w32.heap[gb102]? = some (.cells #[.string (⟨#[]⟩ : ByteArray), .int .i64 0] 27 (0, 0))) := ⟨by rw [← hq_]; exact k91_⟩; have n2_ : Aside0 (Below w.heap.size w w32) := ⟨by rw [← hq_]; exact k78_⟩; clear BK101 BK102 HB hq_; have BK101 := n0_; have BK102 := n1_; have HB := n2_; clear n0_ n1_ n2_)); (try have hcy_w32_0 : w32.cell? ⟨gb101, 0, none⟩ = some (.string a0_0) := (blk_cell BK101.out 0).trans rfl); (try have hcy_w32_1 : w32.cell? ⟨gb101, 1, none⟩ = some (.int .i64 a0_1) := (blk_cell BK101.out 1).trans rfl); have hcz34_0 : w32.cell? ⟨gb102, 0, none⟩ = some (.string (⟨#[]⟩ : ByteArray)) := (blk_cell BK102.out 0).trans rfl; have hcz34_1 : w32.cell? ⟨gb102, 1, none⟩ = some (.int .i64 0) := (blk_cell BK102.out 1).trans rfl; have hfz34_0 := blk_frozen BK102.out 0; have hfz34_1 := blk_frozen BK102.out 1))
   refine bodyPost_ret (results_ct rfl _ _ gb102 27 #[.string (⟨#[]⟩ : ByteArray), .int .i64 0] (0, 0) _ rfl k4_ Tryd.underlying27 rfl (by kernel_rfl)) rfl ?_
   exact ⟨k81_, k78_⟩
 ·replace c4 := Bool.eq_false_iff.mpr c4
  subst c4
  rw [if_neg (show ¬ (false = true) by decide)] at H
  simp only [Option.some.injEq, Prod.mk.injEq] at H
  obtain ⟨rfl, rfl, rfl⟩ := H
  go_enter Tryd.func21, Tryd.ntmps21
  go_wp2_with (first | ((with_reducible refine gate_dst (N := 2) rfl ?_); (try (refine gate_guard (by rfl) ?_; dsimp only)); refine box_event ?hg (N := 2) ?hd (cs := #[.string a0_0, .int .i64 a0_1]) (t := 27) ?hr ?_; (case hd => rfl); (case hg => rfl); (case hr => exact k99_); intro gb101 hg w35 hbox hb; have BK101 := Aside0.mk (hbox); have GW101 := Aside0.mk (HB.ge hg); have GE101 := Aside0.mk (HB.ge hg); replace HB := HB.mw hb; clear hb hbox hg) | ((with_reducible refine gate_dst (N := 4) rfl ?_); (try (refine gate_guard (by rfl) ?_; dsimp only)); refine box_event ?hg (N := 4) ?hd (cs := #[.string (⟨#[]⟩ : ByteArray), .int .i64 0]) (t := 27) ?hr ?_; (case hd => rfl); (case hg => rfl); (case hr => exact k99_); intro gb102 hg w36 hbox hb; have BK102 := Aside0.mk (hbox); have GW102 := Aside0.mk ((by rw [hg]; exact (below_size k82_) : w.heap.size ≤ gb102)); have GE102 := Aside0.mk ((by rw [hg]; exact (below_size k82_) : w.heap.size ≤ gb102)); replace HB := Aside0.mk (below_step k82_ hb); have NB101_102 := Aside0.mk (BK101.ne hg); have NB102_101 := Aside0.mk (BK101.ne hg).symm; replace BK101 := BK101.mw hb; clear hb hbox hg; have hnb37 := NB101_102.out; have hnc37 := NB102_101.out; have hcz38_0 : w36.cell? ⟨gb101, 0, none⟩ = some (.string a0_0) := (blk_cell BK101.out 0).trans rfl; have hcz38_1 : w36.cell? ⟨gb101, 1, none⟩ = some (.int .i64 a0_1) := (blk_cell BK101.out 1).trans rfl; have hfz38_0 := blk_frozen BK101.out 0; have hfz38_1 := blk_frozen BK101.out 1) | ((with_reducible refine gate_callee (f := 42) rfl ?_); refine goesL_ (some 7) rfl rfl Tryd.func42 (by kernel_rfl) rfl #[.agg #[.string a0_0, .int .i64 a0_1]] rfl k70_ ?_; (with_reducible refine (spec_pzGood.calls k a0_0 a0_1 false _ A3.out).mono ?_); rintro e w39 ⟨rfl, hb⟩; refine ⟨_, rfl, ?_⟩; replace BK101 := BK101.mw hb; replace BK102 := Aside0.mk (blk_below k91_ hb); replace HB := Aside0.mk (below_step k78_ hb); (try clear hb); have hcz40_0 : w39.cell? ⟨gb102, 0, none⟩ = some (.string (⟨#[]⟩ : ByteArray)) := (blk_cell BK102.out 0).trans rfl; have hcz40_1 : w39.cell? ⟨gb102, 1, none⟩ = some (.int .i64 0) := (blk_cell BK102.out 1).trans rfl; have hfz40_0 := blk_frozen BK102.out 0; have hfz40_1 := blk_frozen BK102.out 1))
  refine bodyPost_ret (results_ct rfl _ _ gb102 27 #[.string (⟨#[]⟩ : ByteArray), .int .i64 0] (0, 0) _ rfl k4_ Tryd.underlying27 rfl (by kernel_rfl)) rfl ?_
  exact ⟨k81_, k78_⟩
end Go.Proofs.YtgmfaleamhpfjaaDoor.P
namespace Go.Proofs.YtgmfaleamhpfjaaDoor.P
open Go.RowKit Go.Proofs.YtgmfaleamhpfjaaDoorW.PrintWords Go.Proofs.YtgmfaleamhpfjaaDoorW.PrintLast Go.Proofs.YtgmfaleamhpfjaaDoorW.PrintMore
attribute [local go_sem] max2_int min2_int max_two min_two max_three min_three max_four min_four
set_option linter.unusedVariables false
set_option linter.unusedSimpArgs false
def spec_pzFits.l0 : Nat → ByteArray → Int → Int → Nat → Option Bool
  | 0, _, _, _, _ => none
  | k + 1, s, e, t, pos => if pos < s.size then (if bt s pos < 128 then (if bt s pos = 111 then ((spec_siRest.f (wrap64 ((pos : Int) + 1)) e).bind fun q => (if q = t then some false else spec_pzFits.l0 k s e t (pos + 1))) else spec_pzFits.l0 k s e t (pos + 1)) else none) else some true
def spec_pzFits.f (k : Nat) (a0 : ByteArray) (a1_0 : Int) (a1_1 : Int) : Option (Bool) := spec_pzFits.l0 k a0 a1_0 a1_1 0
theorem bt_get (s : ByteArray) (pos : Nat) (h : pos < s.size) : ((s[pos]'h).toNat : Int) = bt s pos := by
  exact bt_at s (pos : Int) h
set_option maxHeartbeats 8000000 in
set_option maxRecDepth 100000 in
theorem spec_pzFits.calls (k : Nat) (a0 : ByteArray) (a1_0 : Int) (a1_1 : Int) (r : Bool) (w : World) (h : spec_pzFits.f k a0 a1_0 a1_1 = some r) :
    Calls Tryd.prog 62 #[.string a0, .agg #[.int .i64 a1_0, .int .i64 a1_1]] w fun e w' => e = .returned (.bool r) ∧ Below w.heap.size w w' := by
  have hu := Tryd.underlying61
  have H : spec_pzFits.l0 k a0 a1_0 a1_1 0 = some r := h
  clear h
  have H' := Aside0.mk H
  clear H
  go_enter Tryd.func62, Tryd.ntmps62
  go_wp2
  go_loopg [] k (fun kq wx => ∃ pos : Nat, wx.heap[w.heap.size + 1]? = some (.stringIter a0 pos) ∧ Aside0 (Below w.heap.size w wx) ∧ wx.cell? ⟨w.heap.size, 0, none⟩ = some (.int .i64 a1_0) ∧ wx.cell? ⟨w.heap.size, 1, none⟩ = some (.int .i64 a1_1) ∧ Aside0 (spec_pzFits.l0 kq a0 a1_0 a1_1 pos = some r) ∧ Aside0 (kq ≤ k))
  case atStart =>
    have hb_ : Below (w.heap.size + 1) (w.alloc (Obj.cells #[Value.int IntKind.i64 a1_0, Value.int IntKind.i64 a1_1] 61)) ((w.alloc (Obj.cells #[Value.int IntKind.i64 a1_0, Value.int IntKind.i64 a1_1] 61)).iter a0 0) := (Below.refl _ _).alloc (by simp) _
    exact ⟨0, by have h_ := World.iter_heap (w.alloc (Obj.cells #[Value.int IntKind.i64 a1_0, Value.int IntKind.i64 a1_1] 61)) a0 0; simpa using h_, ⟨((Below.refl _ w).alloc (Nat.le_refl _) _).alloc (by simp) _⟩, (hb_.cell (p := ⟨w.heap.size, 0, none⟩) (by simp)).trans (by simp), (hb_.cell (p := ⟨w.heap.size, 1, none⟩) (by simp)).trans (by simp), H', ⟨Nat.le_refl _⟩⟩
  case round =>
    clear H'
    obtain ⟨pos, hit, HB, hc0, hc1, HA, HK⟩ := hrel
    cases gk with
    | zero => exact absurd HA.out (by simp [spec_pzFits.l0])
    | succ k1 =>
      have H := HA.out
      clear HA
      simp only [spec_pzFits.l0] at H
      by_cases hps : pos < a0.size
      · rw [if_pos hps] at H
        by_cases ha : bt a0 pos < 128
        · rw [if_pos ha] at H
          have hnx : ∀ ty, (Instr.next (.pointer (some ⟨w.heap.size + 1, 0, none⟩)) true ty).run Tryd.prog wr = _ := fun ty => Lib.run_next_ascii_at wr (w.heap.size + 1) a0 pos ty hit hps (by have := bt_get a0 pos hps; omega)
          have hit2 := Lib.iterAt_heap wr (w.heap.size + 1) a0 pos (pos + 1) hit
          have hbw2 := Lib.below_iterAt HB.out (k := w.heap.size + 1) (by omega) a0 (pos + 1)
          have hb3 := Lib.below_iterAt (Below.refl (w.heap.size + 1) wr) (k := w.heap.size + 1) (by omega) a0 (pos + 1)
          have hd0 := (hb3.cell (p := ⟨w.heap.size, 0, none⟩) (by simp)).trans hc0
          have hd1 := (hb3.cell (p := ⟨w.heap.size, 1, none⟩) (by simp)).trans hc1
          obtain ⟨W, hWd⟩ : ∃ W, wr.iterAt (w.heap.size + 1) a0 (pos + 1) = W := ⟨_, rfl⟩
          rw [hWd] at hnx hit2 hbw2 hd0 hd1
          clear hb3 hc0 hc1 hit hWd HB ha
          have HB := Aside0.mk hbw2
          have HI := Aside0.mk hit2
          clear hbw2 hit2
          have hx6 := bt_get a0 pos
          have p6 := eq_true (show 0 ≤ ((pos : Nat) : Int) by omega)
          have q6 := eq_true (show ((pos : Nat) : Int) < (a0.size : Int) by omega)
          try clear c4
          by_cases c11 : (bt a0 pos) = 111
          · rw [if_pos c11] at H
            have c11b0 : ((bt a0 pos) == 111) = true := beq_iff_eq.mpr c11
            have c11b1 : ((bt a0 pos) != 111) = false := bne_eq_false_iff_eq.mpr c11
            clear c11
            replace H := Option.bind_eq_some_iff.mp H
            obtain ⟨q, A20, H⟩ := H
            have HM := Aside0.mk (fun W => spec_siRest.calls (wrap64 ((pos : Int) + 1)) a1_0 q W A20)
            clear A20
            by_cases c12 : q = a1_1
            · rw [if_pos c12] at H
              have c12b0 : (q == a1_1) = true := beq_iff_eq.mpr c12
              obtain rfl := Option.some.inj H
              clear H c12
              go_wp2
              go_quiet ((go_at_call 77; exact Calls.quiet_of ((HM.out _).mono (fun e w' h => ⟨h.1, h.2.out⟩))))
              go_wp2
              go_ret
              exact ⟨rfl, pw_below_drewN HB.out _⟩
            · rw [if_neg c12] at H
              have c12b0 : (q == a1_1) = false := beq_eq_false_iff_ne.mpr c12
              have H' := Aside0.mk H
              clear H c12
              go_wp2
              go_quiet ((go_at_call 77; exact Calls.quiet_of ((HM.out _).mono (fun e w' h => ⟨h.1, h.2.out⟩))))
              go_wp2
              go_roundg k1
              case measure => have := HK.out; omega
              case rel => exact ⟨pos + 1, by simpa using HI.out, ⟨pw_below_drewN HB.out _⟩, by simpa using hd0, by simpa using hd1, H', ⟨by have := HK.out; omega⟩⟩
          · rw [if_neg c11] at H
            have c11b0 : ((bt a0 pos) == 111) = false := beq_eq_false_iff_ne.mpr c11
            have c11b1 : ((bt a0 pos) != 111) = true := bne_iff_ne.mpr c11
            have H' := Aside0.mk H
            clear H
            go_wp2
            go_quiet (fail)
            go_wp2
            go_roundg k1
            case measure => have := HK.out; omega
            case rel => exact ⟨pos + 1, by simpa using HI.out, ⟨pw_below_drewN HB.out _⟩, by simpa using hd0, by simpa using hd1, H', ⟨by have := HK.out; omega⟩⟩
        · rw [if_neg ha] at H
          exact absurd H (by simp)
      · rw [if_neg hps] at H
        have hnx : ∀ ty, (Instr.next (.pointer (some ⟨w.heap.size + 1, 0, none⟩)) true ty).run Tryd.prog wr = _ := fun ty => Lib.run_next_end_at wr (w.heap.size + 1) a0 pos ty hit hps
        obtain rfl := Option.some.inj H
        go_wp2
        go_ret
        exact ⟨rfl, HB.out⟩
end Go.Proofs.YtgmfaleamhpfjaaDoor.P
namespace Go.Proofs.YtgmfaleamhpfjaaDoor.P
open Go.RowKit Go.Proofs.YtgmfaleamhpfjaaDoorW.PrintWords Go.Proofs.YtgmfaleamhpfjaaDoorW.PrintLast Go.Proofs.YtgmfaleamhpfjaaDoorW.PrintMore
attribute [local go_sem] max2_int min2_int max_two min_two max_three min_three max_four min_four
set_option linter.unusedVariables false
set_option linter.unusedSimpArgs false
def spec_pzCovers.l0 : Nat → ByteArray → List SRule → Nat → Option Bool
  | 0, _, _, _ => none
  | k + 1, s, l, pos => if pos < s.size then (if bt s pos < 128 then (if bt s pos = 120 then ((spec_siLeft.f k l (wrap64 ((pos : Int) + 1))).bind fun q => (if q = true then some false else spec_pzCovers.l0 k s l (pos + 1))) else spec_pzCovers.l0 k s l (pos + 1)) else none) else some true
def spec_pzCovers.f (k : Nat) (a0 : ByteArray) (l1 : List (SRule)) : Option (Bool) := spec_pzCovers.l0 k a0 l1 0
set_option maxHeartbeats 8000000 in
set_option maxRecDepth 100000 in
theorem spec_pzCovers.calls (k : Nat) (a0 : ByteArray) (A1 : Option Addr) (c1 : Nat) (l1 : List (SRule)) (r : Bool) (w : World) (hr1 : Kd.C kRule w A1 l1.length l1) (hc1 : l1.length ≤ c1) (h : spec_pzCovers.f k a0 l1 = some r) :
    Calls Tryd.prog 61 #[.string a0, .slice A1 l1.length c1] w fun e w' => e = .returned (.bool r) ∧ Below w.heap.size w w' := by
  have HR := Aside0.mk hr1
  have HC := Aside0.mk hc1
  clear hr1 hc1
  have H : spec_pzCovers.l0 k a0 l1 0 = some r := h
  clear h
  have H' := Aside0.mk H
  clear H
  go_enter Tryd.func61, Tryd.ntmps61
  go_wp2
  go_loopg [] k (fun kq wx => ∃ pos : Nat, wx.heap[w.heap.size]? = some (.stringIter a0 pos) ∧ Aside0 (Below w.heap.size w wx) ∧ Aside0 (spec_pzCovers.l0 kq a0 l1 pos = some r) ∧ Aside0 (kq ≤ k))
  case atStart => exact ⟨0, World.iter_heap w a0 0, ⟨(Below.refl _ w).alloc (Nat.le_refl _) _⟩, H', ⟨Nat.le_refl _⟩⟩
  case round =>
    clear H'
    obtain ⟨pos, hit, HB, HA, HK⟩ := hrel
    cases gk with
    | zero => exact absurd HA.out (by simp [spec_pzCovers.l0])
    | succ k1 =>
      have H := HA.out
      clear HA
      simp only [spec_pzCovers.l0] at H
      by_cases hps : pos < a0.size
      · rw [if_pos hps] at H
        by_cases ha : bt a0 pos < 128
        · rw [if_pos ha] at H
          have hnx : ∀ ty, (Instr.next (.pointer (some ⟨w.heap.size, 0, none⟩)) true ty).run Tryd.prog wr = _ := fun ty => Lib.run_next_ascii_at wr w.heap.size a0 pos ty hit hps (by have := bt_get a0 pos hps; omega)
          have hit2 := Lib.iterAt_heap wr w.heap.size a0 pos (pos + 1) hit
          have hbw2 := Lib.below_iterAt HB.out (k := w.heap.size) (Nat.le_refl _) a0 (pos + 1)
          obtain ⟨W, hWd⟩ : ∃ W, wr.iterAt w.heap.size a0 (pos + 1) = W := ⟨_, rfl⟩
          rw [hWd] at hnx hit2 hbw2
          have hltW : w.heap.size < W.heap.size := (Array.getElem?_eq_some_iff.1 hit2).1
          clear hit hWd HB ha
          have HB := Aside0.mk hbw2
          have HI := Aside0.mk hit2
          clear hbw2 hit2
          have hx6 := bt_get a0 pos
          have p6 := eq_true (show 0 ≤ ((pos : Nat) : Int) by omega)
          have q6 := eq_true (show ((pos : Nat) : Int) < (a0.size : Int) by omega)
          by_cases c11 : (bt a0 pos) = 120
          · rw [if_pos c11] at H
            have c11b0 : ((bt a0 pos) == 120) = true := beq_iff_eq.mpr c11
            have c11b1 : ((bt a0 pos) != 120) = false := bne_eq_false_iff_eq.mpr c11
            clear c11
            replace H := Option.bind_eq_some_iff.mp H
            obtain ⟨q, A20, H⟩ := H
            have HM := Aside0.mk (spec_siLeft.calls k1 A1 c1 l1 (wrap64 ((pos : Int) + 1)) q W (Kd.C_below HR.out HB.out) HC.out A20)
            clear A20
            cases q with
            | true =>
              rw [if_pos rfl] at H
              obtain rfl := Option.some.inj H
              clear H
              go_wp2_with (go_at_call 51; refine HM.out.mono ?_; rintro e W' ⟨rfl, hbc⟩)
              go_ret
              exact ⟨rfl, HB.out.trans (hbc.mono HB.out.size)⟩
            | false =>
              rw [if_neg (by decide)] at H
              have H' := Aside0.mk H
              clear H
              go_wp2_with (go_at_call 51; refine HM.out.mono ?_; rintro e W' ⟨rfl, hbc⟩)
              go_roundg k1
              case measure => have := HK.out; omega
              case rel => exact ⟨pos + 1, (hbc.block _ hltW).trans HI.out, ⟨HB.out.trans (hbc.mono HB.out.size)⟩, H', ⟨by have := HK.out; omega⟩⟩
          · rw [if_neg c11] at H
            have c11b0 : ((bt a0 pos) == 120) = false := beq_eq_false_iff_ne.mpr c11
            have c11b1 : ((bt a0 pos) != 120) = true := bne_iff_ne.mpr c11
            have H' := Aside0.mk H
            clear H
            go_wp2
            go_roundg k1
            case measure => have := HK.out; omega
            case rel => exact ⟨pos + 1, HI.out, HB, H', ⟨by have := HK.out; omega⟩⟩
        · rw [if_neg ha] at H
          exact absurd H (by simp)
      · rw [if_neg hps] at H
        have hnx : ∀ ty, (Instr.next (.pointer (some ⟨w.heap.size, 0, none⟩)) true ty).run Tryd.prog wr = _ := fun ty => Lib.run_next_end_at wr w.heap.size a0 pos ty hit hps
        obtain rfl := Option.some.inj H
        go_wp2
        go_ret
        exact ⟨rfl, HB.out⟩
end Go.Proofs.YtgmfaleamhpfjaaDoor.P
namespace Go.Proofs.YtgmfaleamhpfjaaDoor.P
open Go.RowKit Go.Proofs.YtgmfaleamhpfjaaDoorW.PrintWords Go.Proofs.YtgmfaleamhpfjaaDoorW.PrintLast Go.Proofs.YtgmfaleamhpfjaaDoorW.PrintMore
attribute [local go_sem] max2_int min2_int max_two min_two max_three min_three max_four min_four
set_option linter.unusedVariables false
set_option linter.unusedSimpArgs false
mutual
def spec_pzAll.f : Nat → ByteArray → List SRule → List SRule → Int → List (List SRule) → Option (List (List SRule))
  | 0, _, _, _, _, _ => none
  | k + 1, p, fit, rules, left, out => if left = 0 then ((spec_pzCovers.f k p rules).bind fun t => if t = true then (if out.length < 5864062014805 then (if rules.length < 8796093022207 then some (out ++ [rules]) else none) else none) else some out) else spec_pzAll.l0 k p fit rules left out 0
def spec_pzAll.l0 : Nat → ByteArray → List SRule → List SRule → Int → List (List SRule) → Nat → Option (List (List SRule))
  | 0, _, _, _, _, _, _ => none
  | k + 1, p, fit, rules, left, out, i => if i < fit.length then (if 300 < out.length then some out else (if rules.length < 8796093022207 then ((spec_pzAll.f k p (fit.drop (i + 1)) (rules ++ [rd_Rule fit i]) (wrap64 (left - 1)) out).bind fun o => spec_pzAll.l0 k p fit rules left o (i + 1)) else none)) else some out
end
theorem infoS_Rule : (Tryd.prog.info? 47).map (fun i => (i.zero, i.size, i.bytes)) = some (some (.slice none 0 0), 1, 24) := by kernel_rfl
set_option maxHeartbeats 8000000 in
set_option maxRecDepth 100000 in
theorem spec_pzAll.own (k : Nat) : ∀ (p : ByteArray) (fit rules : List SRule) (left : Int) (out r : List (List SRule)) (A1 : Option Addr) (c1 : Nat) (A2 : Option Addr) (c2 : Nat) (vo : Value) (w0 w : World)
    (_ : ∀ W', w.grownBy W' vo.ownBlock → Kd.C kRule W' A1 fit.length fit) (_ : fit.length ≤ c1) (_ : ∀ W', w.grownBy W' vo.ownBlock → Kd.C kRule W' A2 rules.length rules) (_ : rules.length ≤ c2)
    (_ : Kd.S (Kd.slice 61 kRule) 47 w w0.heap.size (fun _ => True) vo out) (_ : Below w0.heap.size w0 w) (_ : spec_pzAll.f k p fit rules left out = some r),
    Calls Tryd.prog 46 #[.string p, .slice A1 fit.length c1, .slice A2 rules.length c2, .int .i64 left, vo] w fun e w' => ∃ v1, e = .returned v1 ∧ PzPost w0 w vo v1 r w' := by
  induction k using Nat.strongRecOn with
  | ind k ih =>
  intro p fit rules left out r A1 c1 A2 c2 vo w0 w h1 hc1 h2 hc2 hS hB h
  have IH := Aside0.mk ih
  have H1 := Aside0.mk h1
  have HC1 := Aside0.mk hc1
  have H2 := Aside0.mk h2
  have HC2 := Aside0.mk hc2
  have HP := Aside0.mk (PzPost.refl hS hB)
  have HB := Aside0.mk hB
  have HS0 := Aside0.mk (Kd.S_mono (Kd.S_bound hS) (fun _ hk => hk.2.2.1))
  have HVO := Aside0.mk (Kd.S_lt hS)
  obtain ⟨Ao, co, eo⟩ := Kd.S_slice hS
  subst eo
  clear ih h1 hc1 h2 hc2 hS hB
  cases k with
  | zero => exact absurd h (by simp [spec_pzAll.f])
  | succ k =>
    simp only [spec_pzAll.f] at h
    by_cases c1_ : left = 0
    · rw [if_pos c1_] at h
      have c1b : (left == 0) = true := beq_iff_eq.mpr c1_
      clear c1_
      replace h := Option.bind_eq_some_iff.mp h
      obtain ⟨t, A0_, h⟩ := h
      have A_ := Aside0.mk A0_
      clear A0_
      cases t with
      | true =>
        rw [if_pos rfl] at h
        by_cases c2_ : out.length < 5864062014805
        · rw [if_pos c2_] at h
          have HLO := Aside0.mk c2_
          clear c2_
          by_cases c3_ : rules.length < 8796093022207
          · rw [if_pos c3_] at h
            have HLB := Aside0.mk c3_
            clear c3_
            have HR := Aside0.mk (Option.some.inj h)
            clear h
            go_enter Tryd.func46, Tryd.ntmps46
            go_wp2_with (first | ((with_reducible refine gate_callee (f := 61) rfl ?_); refine goesL_ (some 17) rfl rfl Tryd.func61 (by kernel_rfl) rfl #[.string p, .slice A2 rules.length c2] rfl k84_ ?_; (with_reducible refine (spec_pzCovers.calls k p _ _ rules true _ ?side1 ?side2 A_.out).mono ?_); (case side1 => exact H2.out _ (grown_of_below (Below.refl _ _) _)); (case side2 => exact HC2.out); rintro e w1 ⟨rfl, hb⟩; refine ⟨_, rfl, ?_⟩; have HB1 := Aside0.mk hb; have HS1 := Aside0.mk (H2.out _ (grown_of_below hb _)); clear hb) | ((with_reducible refine gate_dst (N := 19) rfl ?_); refine Kd.R_lit kRule _ 61 ?hg (N := 19) ?hd (xs := ([] : List SRule)) (inner := []) (ok := fun _ => True) (okp := fun _ => True) ?hr ?hp (fun _ hk => hk) trivial (Below.refl _ _) (Nat.le_refl _) (by simp) ?_; (case hd => rfl); (case hg => rfl); (case hr => exact k99_); (case hp => exact Reps.none _ _); intro v19 w2 ho hb hg_ hnew_; clear hg_ hnew_; have HL0 := Aside0.mk ho; have HB2 := Aside0.mk hb; clear ho hb) | ((with_reducible refine gate_builtin (b := .append) (xs := #[.tmp 19, .tmp 20]) rfl ?_); at_builtin; refine Kd.R_append_rows kRule (w0 := w1) w1.heap.size rfl (.tmp 19) (.tmp 20) 47 61 (.agg #[(.int .i64 0), (.int .i64 0)]) 16 rfl Tryd.underlying47 infoE_Rule rfl (by decide) (by omega) v19 ([] : List SRule) rules _ _ _ (fun _ => True) (fun _ => False) rfl rfl ?aO ?aR (fun _ _ h => h) (fun _ h => h.elim) (fun _ _ => trivial) ?aB ?aS ?aL ?_; (case aO => exact HL0.out); (case aR => exact Kd.C_below HS1.out HB2.out); (case aB => exact HB2.out); (case aS => exact below_size HB2.out); (case aL => have h_ := HLB.out; simp only [List.length_nil]; omega); intro v21 w3 ho hb hg_ hat_; clear hg_ hat_; simp only [List.nil_append] at ho; have HL := Aside0.mk ho; have HB3 := Aside0.mk hb; clear HL0 HB2 ho hb; obtain ⟨A21, c21, e21⟩ := Kd.R_slice HL.out; subst e21) | ((with_reducible refine gate_builtin (b := .append) (xs := #[.tmp 18, .tmp 22]) rfl ?_); at_builtin; refine Kd.S_append (Kd.slice 61 kRule) (w0 := w0) w0.heap.size rfl (.tmp 18) (.tmp 22) 35 47 (.slice none 0 0) 24 rfl Tryd.underlying35 infoS_Rule rfl (by decide) (by omega) (.slice Ao out.length co) out rules [.slice A21 rules.length c21] (fun _ => True) (fun k_ => some k_ = (.slice A21 rules.length c21 : Value).ownBlock) rfl rfl ?aP ?aK (fun _ _ => trivial) ?aO ?aB ?aS ?aL ?_; (case aP => exact Kd.M_row (Kd.R_tight rfl (Kd.R_lower HL.out (Nat.le_trans HB.out.size HB1.out.size)))); (case aK => exact (fun k_ hk => ⟨trivial, fun e_ => by have h1_ := Kd.R_base HL.out k_ hk.symm; have h2_ := HVO.out k_ e_.symm; have h3_ := HB1.out.size; omega⟩)); (case aO => exact Kd.S_mono (Kd.S_below HS0.out (below_step HB1.out HB3.out)) (fun k_ hk => ⟨trivial, fun e_ => by have h1_ := Kd.R_base HL.out k_ e_.symm; have h3_ := HB1.out.size; omega⟩)); (case aB => exact below_step (below_step HB.out HB1.out) HB3.out); (case aS => exact below_size (below_step (below_step HB.out HB1.out) HB3.out)); (case aL => have h_ := HLO.out; omega); intro v1 w4 ho hb hg hat; have HFIN := Aside0.mk (show PzPost w0 w (.slice Ao out.length co) v1 (out ++ [rules]) w4 from ⟨ho, hb, below_grown_ (below_step HB1.out HB3.out) hg, hat.imp id (fun ⟨b_, e_, hb_⟩ => ⟨b_, e_, Nat.le_trans (below_step HB1.out HB3.out).size hb_⟩)⟩); clear ho hb hg hat))
            go_ret
            exact ⟨_, rfl, by rw [← HR.out]; exact HFIN.out⟩
          · rw [if_neg c3_] at h
            exact absurd h (by simp)
        · rw [if_neg c2_] at h
          exact absurd h (by simp)
      | false =>
        rw [if_neg (by decide)] at h
        have HR := Aside0.mk (Option.some.inj h)
        clear h
        go_enter Tryd.func46, Tryd.ntmps46
        go_wp2_with (((with_reducible refine gate_callee (f := 61) rfl ?_); refine goesL_ (some 17) rfl rfl Tryd.func61 (by kernel_rfl) rfl #[.string p, .slice A2 rules.length c2] rfl k84_ ?_; (with_reducible refine (spec_pzCovers.calls k p _ _ rules false _ ?side1 ?side2 A_.out).mono ?_); (case side1 => exact H2.out _ (grown_of_below (Below.refl _ _) _)); (case side2 => exact HC2.out); rintro e w1 ⟨rfl, hb⟩; refine ⟨_, rfl, ?_⟩; have HP1 := Aside0.mk (PzPost.below HP.out hb); clear HP hb))
        go_ret
        exact ⟨_, rfl, by rw [← HR.out]; exact HP1.out⟩
    · rw [if_neg c1_] at h
      have c1b : (left == 0) = false := beq_eq_false_iff_ne.mpr c1_
      clear c1_
      have H' := Aside0.mk h
      clear h
      go_enter Tryd.func46, Tryd.ntmps46
      go_wp2
      go_loopg [4, 27] k (fun kq v4 v27 wx => ∃ (o : List (List SRule)) (i : Nat), v27 = .int .i64 i ∧ Aside0 (spec_pzAll.l0 kq p fit rules left o i = some r) ∧ Aside0 (kq ≤ k) ∧ Aside0 (PzPost w0 w (.slice Ao out.length co) v4 o wx))
      case atStart => exact ⟨out, 0, rfl, H', ⟨Nat.le_refl _⟩, HP⟩
      case round =>
        clear H' HP
        obtain ⟨o, i, rfl, HA_, HK, HPS⟩ := hrel
        cases gk with
        | zero => exact absurd HA_.out (by simp [spec_pzAll.l0])
        | succ k1 =>
          have H := HA_.out
          clear HA_
          simp only [spec_pzAll.l0] at H
          by_cases c1_ : i < fit.length
          · rw [if_pos c1_] at H
            have c1b : decide ((i : Int) < (fit.length : Int)) = true := decide_eq_true (by omega)
            have c1c : decide (i < fit.length) = true := decide_eq_true c1_
            obtain ⟨ad, e_, hx0, hx1⟩ := at_Rule (H1.out _ HPS.out.2.2.1) (i : Int) (by omega) (by omega)
            cases e_
            simp only [Int.toNat_natCast] at hx0 hx1
            have c1z : (i : Int) < (fit.length : Int) := by omega
            by_cases c2_ : 300 < o.length
            · rw [if_pos c2_] at H
              have c2b : decide ((300 : Int) < (o.length : Int)) = true := decide_eq_true (by omega)
              have c2c : decide (300 < o.length) = true := decide_eq_true c2_
              clear c2_
              have HR := Aside0.mk (Option.some.inj H)
              clear H
              obtain ⟨Aq, cq, eq_⟩ := Kd.S_slice HPS.out.1
              subst eq_
              go_wp2_with ((with_reducible refine gate_dst (N := 12) rfl ?_); refine box_event ?hg (N := 12) ?hd (cs := #[.int .i64 0, .int .i64 0]) (t := 61) ?hr ?_; (case hd => rfl); (case hg => rfl); (case hr => exact k99_); intro g12 hg w20 hbox hb; have BK := Aside0.mk hbox; have HBx0 := Aside0.mk hb; have HG := Aside0.mk (Nat.le_of_eq hg.symm); have hcz0 : w20.cell? ⟨g12, 0, none⟩ = some (.int .i64 0) := (blk_cell hbox 0).trans rfl; have hcz1 : w20.cell? ⟨g12, 1, none⟩ = some (.int .i64 0) := (blk_cell hbox 1).trans rfl; have hfz0 := blk_frozen hbox 0; have hfz1 := blk_frozen hbox 1; clear hbox hb hg)
              go_ret
              exact ⟨_, rfl, by rw [← HR.out]; exact PzPost.below HPS.out (below_set (below_set HBx0.out HG.out) HG.out)⟩
            · rw [if_neg c2_] at H
              have c2b : decide ((300 : Int) < (o.length : Int)) = false := decide_eq_false (by omega)
              have c2c : decide (300 < o.length) = false := decide_eq_false c2_
              clear c2_
              by_cases c3_ : rules.length < 8796093022207
              · rw [if_pos c3_] at H
                have HLB := Aside0.mk c3_
                clear c3_
                replace H := Option.bind_eq_some_iff.mp H
                obtain ⟨o2, A0_, H⟩ := H
                obtain ⟨fd, hfd⟩ : ∃ l_, l_ = fit.drop (i + 1) := ⟨_, rfl⟩
                rw [← hfd] at A0_
                have A_ := Aside0.mk A0_
                have H' := Aside0.mk H
                clear A0_ H
                have HV := Aside0.mk (Kd.S_lt HPS.out.1)
                obtain ⟨Aq, cq, eq_⟩ := Kd.S_slice HPS.out.1
                subst eq_
                have hfl : fit.length ≤ 9223372036854775807 := Kd.C_max (H1.out _ HPS.out.2.2.1)
                have hil : (i : Int) < (fit.length : Int) := of_decide_eq_true c1b
                have hw_ : (wrap64 ((i : Int) + 1)).toNat = i + 1 := by unfold wrap64; omega
                have hw0_ : 0 ≤ wrap64 ((i : Int) + 1) := by unfold wrap64; omega
                have hw1_ : wrap64 ((i : Int) + 1) ≤ (fit.length : Int) := by unfold wrap64; omega
                obtain ⟨A39, hA39⟩ : ∃ a_, a_ = (if c1 = i + 1 then some ad else (some ad : Option Addr).map (·.add ((i + 1) * 2))) := ⟨_, rfl⟩
                obtain ⟨c39, hc39⟩ : ∃ a_, a_ = c1 - (i + 1) := ⟨_, rfl⟩
                obtain ⟨i0_, hi0_, _, hsz_, _⟩ := info_parts infoE_Rule
                have hcut : ∀ W : World, (Instr.slice 47 (.slice (some ad) fit.length c1) (some (.int .i64 (wrap64 ((i : Int) + 1)))) none none).run Tryd.prog W = .ok (.slice A39 fd.length c39) W := by
                  intro W
                  have h := cut_from (P := Tryd.prog) 47 61 .i64 Tryd.underlying47 hi0_ 2 hsz_ (some ad) fit.length c1 (wrap64 ((i : Int) + 1)) hw0_ hw1_ W
                  rw [hw_] at h
                  rw [h, hA39, hc39, hfd, List.length_drop]
                have HF2 := Aside0.mk (show ∀ W' : World, Kd.C kRule W' (some ad) fit.length fit → Kd.C kRule W' A39 fd.length fd from fun W' h_ => by rw [hA39, hfd]; exact Kd.C_drop h_ (by omega) HC1.out)
                have HC39 := Aside0.mk (show fd.length ≤ c39 by rw [hc39, hfd, List.length_drop]; have := HC1.out; omega)
                clear hw_ hw0_ hw1_ hA39 hc39 hi0_ hsz_ hfd
                go_wp2_with ((with_reducible refine gate_dst (N := 12) rfl ?_); refine box_event ?hg (N := 12) ?hd (cs := #[.int .i64 0, .int .i64 0]) (t := 61) ?hr ?_; (case hd => rfl); (case hg => rfl); (case hr => exact k99_); intro g12 hg w20 hbox hb; have BK := Aside0.mk hbox; have HBx0 := Aside0.mk hb; have HG := Aside0.mk (Nat.le_of_eq hg.symm); have hcz0 : w20.cell? ⟨g12, 0, none⟩ = some (.int .i64 0) := (blk_cell hbox 0).trans rfl; have hcz1 : w20.cell? ⟨g12, 1, none⟩ = some (.int .i64 0) := (blk_cell hbox 1).trans rfl; have hfz0 := blk_frozen hbox 0; have hfz1 := blk_frozen hbox 1; clear hbox hb hg)
                have hk7_ := blk_put (blk_put BK.out 0 (.int .i64 (rd_Rule fit i).f0) rfl) 1 (.int .i64 (rd_Rule fit i).f1) rfl
                have HX0 := Aside0.mk (show (((w20.setCell ⟨g12, 0, none⟩ (.int .i64 (rd_Rule fit i).f0)).setCell ⟨g12, 1, none⟩ (.int .i64 (rd_Rule fit i).f1)).drew).cell? ⟨g12, 0, none⟩ = some (.int .i64 (rd_Rule fit i).f0) from (blk_cell (blk_drew hk7_) 0).trans rfl)
                have HX1 := Aside0.mk (show (((w20.setCell ⟨g12, 0, none⟩ (.int .i64 (rd_Rule fit i).f0)).setCell ⟨g12, 1, none⟩ (.int .i64 (rd_Rule fit i).f1)).drew).cell? ⟨g12, 1, none⟩ = some (.int .i64 (rd_Rule fit i).f1) from (blk_cell (blk_drew hk7_) 1).trans rfl)
                have HBx := Aside0.mk (show Below wr.heap.size wr ((w20.setCell ⟨g12, 0, none⟩ (.int .i64 (rd_Rule fit i).f0)).setCell ⟨g12, 1, none⟩ (.int .i64 (rd_Rule fit i).f1)).drew from below_drew1 (below_set (below_set HBx0.out HG.out) HG.out))
                clear hk7_ hcz0 hcz1 hfz0 hfz1 BK HBx0 HG
                refine start_ (n := 16) (S := fun w' => w'.cell? ⟨g12, 0, none⟩ = some (.int .i64 (rd_Rule fit i).f0) ∧ w'.cell? ⟨g12, 1, none⟩ = some (.int .i64 (rd_Rule fit i).f1)) (ds := [14]) #[false, false, false, false, false, false, false, false, false, false, false, false, false, false, false, false] (by kernel_rfl) rfl rfl ⟨HX0.out, HX1.out⟩ (fun hHeld => ?_)
                generalize ((w20.setCell ⟨g12, 0, none⟩ (.int .i64 (rd_Rule fit i).f0)).setCell ⟨g12, 1, none⟩ (.int .i64 (rd_Rule fit i).f1)).drew = wS at HX0 HX1 HBx hHeld ⊢
                have HBc := Aside0.mk (Below.refl wS.heap.size wS)
                refine pure_ (i := 0) (N := some 35) (v := ?_) (a' := ?_) #[true, false, false, false, false, false, false, false, false, false, false, false, false, false, false, false] rfl rfl (by kernel_rfl) (fun _ _ _ h => h) (Or.inl ⟨by rfl, ?_⟩) ?_ ?_
                rotate_left
                · intro w'
                  go_simp
                  with_reducible rfl
                rotate_left
                · simp only [Act.put, List.setIfInBounds_toArray, List.set_cons_zero, List.set_cons_succ, i64_w, i32_w]
                  rfl
                refine pure_ (i := 1) (N := some 36) (v := ?_) (a' := ?_) #[true, true, false, false, false, false, false, false, false, false, false, false, false, false, false, false] rfl rfl (by kernel_rfl) (fun _ _ _ h => h) (Or.inl ⟨by rfl, ?_⟩) ?_ ?_
                rotate_left
                · intro w'
                  go_simp
                  with_reducible rfl
                rotate_left
                · simp only [Act.put, List.setIfInBounds_toArray, List.set_cons_zero, List.set_cons_succ, i64_w, i32_w]
                  rfl
                refine pure_ (i := 2) (N := some 37) (v := ?_) (a' := ?_) #[true, true, true, false, false, false, false, false, false, false, false, false, false, false, false, false] rfl rfl (by kernel_rfl) (fun _ _ _ h => h) (Or.inl ⟨by rfl, ?_⟩) ?_ ?_
                rotate_left
                · intro w'
                  go_simp
                  with_reducible rfl
                rotate_left
                · simp only [Act.put, List.setIfInBounds_toArray, List.set_cons_zero, List.set_cons_succ, i64_w, i32_w]
                  rfl
                refine pure_ (i := 3) (N := some 38) (v := ?_) (a' := ?_) #[true, true, true, true, false, false, false, false, false, false, false, false, false, false, false, false] rfl rfl (by kernel_rfl) (fun _ _ _ h => h) (Or.inl ⟨by rfl, ?_⟩) ?_ ?_
                rotate_left
                · intro w'
                  go_simp
                  with_reducible rfl
                rotate_left
                · simp only [Act.put, List.setIfInBounds_toArray, List.set_cons_zero, List.set_cons_succ, i64_w, i32_w]
                  rfl
                refine pure_ (i := 4) (N := some 39) (v := ?_) (a' := ?_) #[true, true, true, true, true, false, false, false, false, false, false, false, false, false, false, false] rfl rfl (by kernel_rfl) (fun _ _ _ h => h) (Or.inl ⟨by rfl, ?_⟩) ?_ ?_
                rotate_left
                · intro w'
                  go_simp
                  with_reducible rfl
                rotate_left
                · simp only [Act.put, List.setIfInBounds_toArray, List.set_cons_zero, List.set_cons_succ, i64_w, i32_w]
                  rfl
                refine pure_ (i := 6) (N := some 41) (v := ?_) (a' := ?_) #[true, true, true, true, true, false, true, false, false, false, false, false, false, false, false, false] rfl rfl (by kernel_rfl) (fun _ _ _ h => h) (Or.inl ⟨by rfl, ?_⟩) ?_ ?_
                rotate_left
                · intro w'
                  go_simp
                  with_reducible rfl
                rotate_left
                · simp only [Act.put, List.setIfInBounds_toArray, List.set_cons_zero, List.set_cons_succ, i64_w, i32_w]
                  rfl
                refine pure_ (i := 11) (N := some 46) (v := ?_) (a' := ?_) #[true, true, true, true, true, false, true, false, false, false, false, true, false, false, false, false] rfl rfl (by kernel_rfl) (fun _ _ _ h => h) (Or.inl ⟨by rfl, ?_⟩) ?_ ?_
                rotate_left
                · intro w'
                  go_simp
                  with_reducible rfl
                rotate_left
                · simp only [Act.put, List.setIfInBounds_toArray, List.set_cons_zero, List.set_cons_succ, i64_w, i32_w]
                  rfl
                refine pure_ (i := 12) (N := some 47) (v := ?_) (a' := ?_) #[true, true, true, true, true, false, true, false, false, false, false, true, true, false, false, false] rfl rfl (by kernel_rfl) (fun _ _ _ h => h) (Or.inl ⟨by rfl, ?_⟩) ?_ ?_
                rotate_left
                · intro w'
                  go_simp
                  with_reducible rfl
                rotate_left
                · simp only [Act.put, List.setIfInBounds_toArray, List.set_cons_zero, List.set_cons_succ, i64_w, i32_w]
                  rfl
                refine pure_ (i := 13) (N := some 48) (v := ?_) (a' := ?_) #[true, true, true, true, true, false, true, false, false, false, false, true, true, true, false, false] rfl rfl (by kernel_rfl) (fun _ _ _ h => h) (Or.inl ⟨by rfl, ?_⟩) ?_ ?_
                rotate_left
                · intro w'
                  go_simp
                  with_reducible rfl
                rotate_left
                · simp only [Act.put, List.setIfInBounds_toArray, List.set_cons_zero, List.set_cons_succ, i64_w, i32_w]
                  rfl
                refine take_ (i := 8) (N := some 43) (v := ?_) (a' := ?_) #[true, true, true, true, true, false, true, false, true, false, false, true, true, true, false, false] rfl rfl (by kernel_rfl) (fun _ _ _ h => h) (Or.inl ⟨by rfl, ?_⟩) hHeld ?_ ?_
                rotate_left
                · rintro w' ⟨s0, s1⟩
                  go_simp
                  with_reducible rfl
                rotate_left
                · simp only [Act.put, List.setIfInBounds_toArray, List.set_cons_zero, List.set_cons_succ, i64_w, i32_w]
                  rfl
                refine join_ (σ := Value × Value × Value) 3 #[true, true, true, true, true, true, true, true, true, true, false, true, true, true, false, false] (fun s_ => [(40, s_.1), (42, s_.2.1), (44, s_.2.2)]) (fun s_ w' => Kd.R kRule 61 w' wS.heap.size (fun _ => True) s_.2.1 rules ∧ Kd.R kRule 61 w' wS.heap.size (fun _ => True) s_.2.2 [rd_Rule fit i] ∧ Below wS.heap.size wS w') ?_ ?_
                rotate_left
                · intro hCont
                  refine two_ (i := 5) (j := 9) (Ni := some 40) (Nj := some 44) #[true, true, true, true, true, true, true, false, true, false, false, true, true, true, false, false] #[true, true, true, true, true, false, true, false, true, true, false, true, true, true, false, false] rfl rfl rfl rfl (by kernel_rfl) (by decide) (by decide) (fun K hK => ?_) (fun K hK => ?_)
                  · skip
                    refine Kd.R_lit_step kRule _ 61 ?hg (N := 40) ?hd (xs := ([] : List SRule)) (inner := []) (ok := fun _ => True) (okp := fun _ => True) ?hr ?hp (fun _ hk => hk) trivial (Below.refl _ _) (Nat.le_refl _) (by simp) ?_
                    (case hd => rfl)
                    (case hg => rfl)
                    (case hr => exact k99_)
                    (case hp => exact Reps.none _ _)
                    intro v40 w5_0 ho hb hg_ hnew_
                    clear hg_ hnew_
                    have HL0 := Aside0.mk (Kd.R_lower ho (below_size HBc.out))
                    clear ho
                    have n9_ := Aside0.mk (below_step HBc.out hb)
                    clear HBc hb
                    have HBc := n9_
                    clear n9_
                    refine hK.out _ _ ⟨(pw_cell_below HBc.out HX0.out), (pw_cell_below HBc.out HX1.out)⟩ (fun hHeld => ?_)
                    clear hK K
                    refine norm_ (a' := ?_) ?_ ?_
                    rotate_left
                    · show Act.put _ (some 40) _ = _
                      simp only [Act.put, List.setIfInBounds_toArray, List.set_cons_zero, List.set_cons_succ, i64_w, i32_w]
                      rfl
                    refine two_ (i := 7) (j := 9) (Ni := some 42) (Nj := some 44) #[true, true, true, true, true, true, true, true, true, false, false, true, true, true, false, false] #[true, true, true, true, true, true, true, false, true, true, false, true, true, true, false, false] rfl rfl rfl rfl (by kernel_rfl) (by decide) (by decide) (fun K hK => ?_) (fun K hK => ?_)
                    · skip
                      refine Kd.R_append_rows_step kRule (w0 := wS) wS.heap.size (by rfl) (.tmp 40) (.tmp 41) 47 61 (.agg #[(.int .i64 0), (.int .i64 0)]) 16 rfl Tryd.underlying47 infoE_Rule rfl (by decide) (by omega) v40 ([] : List SRule) rules _ _ _ (fun _ => True) (fun _ => False) rfl rfl HL0.out ?aR (fun _ _ h => h) (fun _ h => h.elim) (fun _ _ => trivial) HBc.out (below_size HBc.out) ?aL ?_
                      (case aR => exact H2.out _ (PzPost.below (PzPost.below HPS.out HBx.out) HBc.out).2.2.1)
                      (case aL => have h_ := HLB.out; simp only [List.length_nil]; omega)
                      intro v42 w7_1 ho hb hg hat_
                      simp only [List.nil_append] at ho
                      clear hg hat_ HL0 HBc
                      have HA := Aside0.mk ho
                      have HBc := Aside0.mk hb
                      clear ho hb
                      refine hK.out _ _ ⟨(pw_cell_below HBc.out HX0.out), (pw_cell_below HBc.out HX1.out)⟩ (fun hHeld => ?_)
                      clear hK K
                      refine norm_ (a' := ?_) ?_ ?_
                      rotate_left
                      · show Act.put _ (some 42) _ = _
                        simp only [Act.put, List.setIfInBounds_toArray, List.set_cons_zero, List.set_cons_succ, i64_w, i32_w]
                        rfl
                      refine one_ (i := 9) (N := some 44) #[true, true, true, true, true, true, true, true, true, true, false, true, true, true, false, false] rfl rfl (by kernel_rfl) (by decide) (fun K hK => ?_)
                      refine Kd.R_lit_step kRule _ 61 ?hg (N := 44) ?hd (xs := ([rd_Rule fit i] : List SRule)) (inner := [.int .i64 (rd_Rule fit i).f0, .int .i64 (rd_Rule fit i).f1]) (ok := fun _ => True) (okp := fun _ => True) ?hr ?hp (fun _ hk => hk) trivial (Below.refl _ _) (Nat.le_refl _) (by simp) ?_
                      (case hd => rfl)
                      (case hg => rfl)
                      (case hr => exact k99_)
                      (case hp => exact Reps.front (kRule_mkM _ _ _ (rd_Rule fit i)) rfl (Reps.none _ _) rfl)
                      intro v44 w9_2 ho hb hg_ hnew_
                      clear hg_ hnew_
                      have n1_ := Aside0.mk (Kd.R_below HA.out hb)
                      clear HA
                      have HA := n1_
                      clear n1_
                      have HL1 := Aside0.mk (Kd.R_lower ho (below_size HBc.out))
                      clear ho
                      have n9_ := Aside0.mk (below_step HBc.out hb)
                      clear HBc hb
                      have HBc := n9_
                      clear n9_
                      refine hK.out _ _ ⟨(pw_cell_below HBc.out HX0.out), (pw_cell_below HBc.out HX1.out)⟩ (fun hHeld => ?_)
                      clear hK K
                      refine norm_ (a' := ?_) ?_ ?_
                      rotate_left
                      · show Act.put _ (some 44) _ = _
                        simp only [Act.put, List.setIfInBounds_toArray, List.set_cons_zero, List.set_cons_succ, i64_w, i32_w]
                        rfl
                      exact norm_ k80_ (hCont (v40, v42, v44) _ ⟨HA.out, Kd.R_mono HL1.out (fun _ _ => trivial), HBc.out⟩)
                    · skip
                      refine Kd.R_lit_step kRule _ 61 ?hg (N := 44) ?hd (xs := ([rd_Rule fit i] : List SRule)) (inner := [.int .i64 (rd_Rule fit i).f0, .int .i64 (rd_Rule fit i).f1]) (ok := fun _ => True) (okp := fun _ => True) ?hr ?hp (fun _ hk => hk) trivial (Below.refl _ _) (Nat.le_refl _) (by simp) ?_
                      (case hd => rfl)
                      (case hg => rfl)
                      (case hr => exact k99_)
                      (case hp => exact Reps.front (kRule_mkM _ _ _ (rd_Rule fit i)) rfl (Reps.none _ _) rfl)
                      intro v44 w9_1 ho hb hg_ hnew_
                      clear hg_ hnew_
                      have HL1 := Aside0.mk (Kd.R_mono (Kd.R_lower (Kd.R_new' ho (Kd.R_lt HL0.out)) (below_size HBc.out)) (fun _ hk => hk.2))
                      have n1_ := Aside0.mk (Kd.R_below HL0.out hb)
                      clear HL0 ho
                      have HL0 := n1_
                      clear n1_
                      have n9_ := Aside0.mk (below_step HBc.out hb)
                      clear HBc hb
                      have HBc := n9_
                      clear n9_
                      refine hK.out _ _ ⟨(pw_cell_below HBc.out HX0.out), (pw_cell_below HBc.out HX1.out)⟩ (fun hHeld => ?_)
                      clear hK K
                      refine norm_ (a' := ?_) ?_ ?_
                      rotate_left
                      · show Act.put _ (some 44) _ = _
                        simp only [Act.put, List.setIfInBounds_toArray, List.set_cons_zero, List.set_cons_succ, i64_w, i32_w]
                        rfl
                      refine one_ (i := 7) (N := some 42) #[true, true, true, true, true, true, true, true, true, true, false, true, true, true, false, false] rfl rfl (by kernel_rfl) (by decide) (fun K hK => ?_)
                      refine Kd.R_append_rows_step kRule (w0 := wS) wS.heap.size (by rfl) (.tmp 40) (.tmp 41) 47 61 (.agg #[(.int .i64 0), (.int .i64 0)]) 16 rfl Tryd.underlying47 infoE_Rule rfl (by decide) (by omega) v40 ([] : List SRule) rules _ _ _ (fun _ => True) (fun _ => False) rfl rfl HL0.out ?aR (fun _ _ h => h) (fun _ h => h.elim) (fun _ _ => trivial) HBc.out (below_size HBc.out) ?aL ?_
                      (case aR => exact H2.out _ (PzPost.below (PzPost.below HPS.out HBx.out) HBc.out).2.2.1)
                      (case aL => have h_ := HLB.out; simp only [List.length_nil]; omega)
                      intro v42 w7_2 ho hb hg hat_
                      simp only [List.nil_append] at ho
                      have n1_ := Aside0.mk (Kd.R_grown HL1.out hg (fun _ hk => hk))
                      clear HL1
                      have HL1 := n1_
                      clear n1_
                      clear hg hat_ HL0 HBc
                      have HA := Aside0.mk ho
                      have HBc := Aside0.mk hb
                      clear ho hb
                      refine hK.out _ _ ⟨(pw_cell_below HBc.out HX0.out), (pw_cell_below HBc.out HX1.out)⟩ (fun hHeld => ?_)
                      clear hK K
                      refine norm_ (a' := ?_) ?_ ?_
                      rotate_left
                      · show Act.put _ (some 42) _ = _
                        simp only [Act.put, List.setIfInBounds_toArray, List.set_cons_zero, List.set_cons_succ, i64_w, i32_w]
                        rfl
                      exact norm_ k80_ (hCont (v40, v42, v44) _ ⟨HA.out, Kd.R_mono HL1.out (fun _ _ => trivial), HBc.out⟩)
                  · skip
                    refine Kd.R_lit_step kRule _ 61 ?hg (N := 44) ?hd (xs := ([rd_Rule fit i] : List SRule)) (inner := [.int .i64 (rd_Rule fit i).f0, .int .i64 (rd_Rule fit i).f1]) (ok := fun _ => True) (okp := fun _ => True) ?hr ?hp (fun _ hk => hk) trivial (Below.refl _ _) (Nat.le_refl _) (by simp) ?_
                    (case hd => rfl)
                    (case hg => rfl)
                    (case hr => exact k99_)
                    (case hp => exact Reps.front (kRule_mkM _ _ _ (rd_Rule fit i)) rfl (Reps.none _ _) rfl)
                    intro v44 w9_0 ho hb hg_ hnew_
                    clear hg_ hnew_
                    have HL1 := Aside0.mk (Kd.R_lower ho (below_size HBc.out))
                    clear ho
                    have n9_ := Aside0.mk (below_step HBc.out hb)
                    clear HBc hb
                    have HBc := n9_
                    clear n9_
                    refine hK.out _ _ ⟨(pw_cell_below HBc.out HX0.out), (pw_cell_below HBc.out HX1.out)⟩ (fun hHeld => ?_)
                    clear hK K
                    refine norm_ (a' := ?_) ?_ ?_
                    rotate_left
                    · show Act.put _ (some 44) _ = _
                      simp only [Act.put, List.setIfInBounds_toArray, List.set_cons_zero, List.set_cons_succ, i64_w, i32_w]
                      rfl
                    refine one_ (i := 5) (N := some 40) #[true, true, true, true, true, true, true, false, true, true, false, true, true, true, false, false] rfl rfl (by kernel_rfl) (by decide) (fun K hK => ?_)
                    refine Kd.R_lit_step kRule _ 61 ?hg (N := 40) ?hd (xs := ([] : List SRule)) (inner := []) (ok := fun _ => True) (okp := fun _ => True) ?hr ?hp (fun _ hk => hk) trivial (Below.refl _ _) (Nat.le_refl _) (by simp) ?_
                    (case hd => rfl)
                    (case hg => rfl)
                    (case hr => exact k99_)
                    (case hp => exact Reps.none _ _)
                    intro v40 w5_1 ho hb hg_ hnew_
                    clear hg_ hnew_
                    have n1_ := Aside0.mk (Kd.R_mono (Kd.R_elder' HL1.out (Kd.R_base ho) hb) (fun _ hk => hk.2))
                    clear HL1
                    have HL1 := n1_
                    clear n1_
                    have HL0 := Aside0.mk (Kd.R_lower ho (below_size HBc.out))
                    clear ho
                    have n9_ := Aside0.mk (below_step HBc.out hb)
                    clear HBc hb
                    have HBc := n9_
                    clear n9_
                    refine hK.out _ _ ⟨(pw_cell_below HBc.out HX0.out), (pw_cell_below HBc.out HX1.out)⟩ (fun hHeld => ?_)
                    clear hK K
                    refine norm_ (a' := ?_) ?_ ?_
                    rotate_left
                    · show Act.put _ (some 40) _ = _
                      simp only [Act.put, List.setIfInBounds_toArray, List.set_cons_zero, List.set_cons_succ, i64_w, i32_w]
                      rfl
                    refine one_ (i := 7) (N := some 42) #[true, true, true, true, true, true, true, true, true, true, false, true, true, true, false, false] rfl rfl (by kernel_rfl) (by decide) (fun K hK => ?_)
                    refine Kd.R_append_rows_step kRule (w0 := wS) wS.heap.size (by rfl) (.tmp 40) (.tmp 41) 47 61 (.agg #[(.int .i64 0), (.int .i64 0)]) 16 rfl Tryd.underlying47 infoE_Rule rfl (by decide) (by omega) v40 ([] : List SRule) rules _ _ _ (fun _ => True) (fun _ => False) rfl rfl HL0.out ?aR (fun _ _ h => h) (fun _ h => h.elim) (fun _ _ => trivial) HBc.out (below_size HBc.out) ?aL ?_
                    (case aR => exact H2.out _ (PzPost.below (PzPost.below HPS.out HBx.out) HBc.out).2.2.1)
                    (case aL => have h_ := HLB.out; simp only [List.length_nil]; omega)
                    intro v42 w7_2 ho hb hg hat_
                    simp only [List.nil_append] at ho
                    have n1_ := Aside0.mk (Kd.R_grown HL1.out hg (fun _ hk => hk))
                    clear HL1
                    have HL1 := n1_
                    clear n1_
                    clear hg hat_ HL0 HBc
                    have HA := Aside0.mk ho
                    have HBc := Aside0.mk hb
                    clear ho hb
                    refine hK.out _ _ ⟨(pw_cell_below HBc.out HX0.out), (pw_cell_below HBc.out HX1.out)⟩ (fun hHeld => ?_)
                    clear hK K
                    refine norm_ (a' := ?_) ?_ ?_
                    rotate_left
                    · show Act.put _ (some 42) _ = _
                      simp only [Act.put, List.setIfInBounds_toArray, List.set_cons_zero, List.set_cons_succ, i64_w, i32_w]
                      rfl
                    exact norm_ k80_ (hCont (v40, v42, v44) _ ⟨HA.out, Kd.R_mono HL1.out (fun _ _ => trivial), HBc.out⟩)
                rintro ⟨v40, v42, v44⟩ wJ ⟨ha_, hl_, hb_⟩
                clear HBc
                have HA := Aside0.mk ha_
                have HL1 := Aside0.mk hl_
                have HBc := Aside0.mk hb_
                clear ha_ hl_ hb_
                obtain ⟨A44, c44, e44⟩ := Kd.R_slice HL1.out
                dsimp only at e44
                subst e44
                refine norm_ (a' := ?_) ?_ ?_
                rotate_left
                · simp only [putAll, Act.put, List.setIfInBounds_toArray, List.set_cons_zero, List.set_cons_succ]
                  rfl
                refine one_ (i := 10) (N := some 45) #[true, true, true, true, true, true, true, true, true, true, true, true, true, true, false, false] rfl rfl (by kernel_rfl) (by decide) (fun K hK => ?_)
                refine Kd.R_append_rows_step kRule (w0 := wS) wS.heap.size (by rfl) (.tmp 42) (.tmp 44) 47 61 (.agg #[(.int .i64 0), (.int .i64 0)]) 16 rfl Tryd.underlying47 infoE_Rule rfl (by decide) (by omega) v42 rules [rd_Rule fit i] _ _ _ (fun _ => True) (fun _ => False) rfl rfl HA.out ?aR (fun _ _ h => h) (fun _ h => h.elim) (fun _ _ => trivial) HBc.out (below_size HBc.out) ?aL ?_
                (case aR => exact (Kd.R_reads' HL1.out).2.2)
                (case aL => have h_ := HLB.out; simp only [List.length_singleton]; omega)
                intro v45 wB ho hb hg hat_
                clear hg hat_ HA HL1 HBc
                have HA := Aside0.mk ho
                have HBc := Aside0.mk hb
                clear ho hb
                obtain ⟨A45, c45, e45⟩ := Kd.R_slice HA.out
                subst e45
                refine hK.out _ _ ⟨(pw_cell_below HBc.out HX0.out), (pw_cell_below HBc.out HX1.out)⟩ (fun hHeld => ?_)
                clear hK K
                refine norm_ (a' := ?_) ?_ ?_
                rotate_left
                · show Act.put _ (some 45) _ = _
                  simp only [Act.put, List.setIfInBounds_toArray, List.set_cons_zero, List.set_cons_succ, i64_w, i32_w]
                  rfl
                refine last_ (i := 14) (N := some 49) #[true, true, true, true, true, true, true, true, true, true, true, true, true, true, true, false] rfl rfl (by kernel_rfl) (by decide) (fun K hK => ?_)
                refine goes_ Tryd.func46 (by kernel_rfl) rfl #[.string p, .slice A39 fd.length c39, .slice A45 (rules ++ [rd_Rule fit i]).length c45, .int .i64 (wrap64 (left - 1)), .slice Aq o.length cq] (by rfl) rfl rfl k84_ ?_
                have HPB := Aside0.mk (PzPost.below (PzPost.below HPS.out HBx.out) HBc.out)
                refine (IH.out k1 (by have := HK.out; omega) p fd (rules ++ [rd_Rule fit i]) (wrap64 (left - 1)) o o2 A39 c39 _ _ (.slice Aq o.length cq) w0 _ ?s1 ?s2 ?s3 ?s4 ?s5 ?s6 A_.out).mono ?_
                (case s1 => exact (fun W' hg' => HF2.out W' (H1.out _ (grown_trans HPB.out.2.2.1 hg' HPB.out.2.2.2))))
                (case s2 => exact HC39.out)
                (case s3 => exact (fun W' hg' => (Kd.R_reads' (Kd.R_grown (Kd.R_bound HA.out) hg' (fun k_ hk e_ => by have h1_ := HV.out k_ e_.symm; have h2_ := hk.2.1; have h3_ := HBx.out.size; omega))).2.2))
                (case s4 => exact (Kd.R_reads' HA.out).2.1)
                (case s5 => exact HPB.out.1)
                (case s6 => exact HPB.out.2.1)
                rintro e wC ⟨v49, rfl, hp⟩
                refine ⟨_, rfl, ?_⟩
                have HPN := Aside0.mk (PzPost.trans HPB.out hp)
                clear hp HPB
                refine hK.out _ _ ?_
                clear hK K
                refine norm_ (a' := ?_) ?_ ?_
                rotate_left
                · show Act.put _ (some 49) _ = _
                  simp only [Act.put, List.setIfInBounds_toArray, List.set_cons_zero, List.set_cons_succ, i64_w, i32_w]
                  rfl
                refine pure_ (i := 15) (N := some 4) (v := ?_) (a' := ?_) #[true, true, true, true, true, true, true, true, true, true, true, true, true, true, true, true] rfl rfl (by kernel_rfl) (fun _ _ _ h => h) (Or.inl ⟨by rfl, ?_⟩) ?_ ?_
                rotate_left
                · intro w'
                  go_simp
                  with_reducible rfl
                rotate_left
                · simp only [Act.put, List.setIfInBounds_toArray, List.set_cons_zero, List.set_cons_succ, i64_w, i32_w]
                  rfl
                refine done_ (by kernel_rfl) ?_
                go_wp2
                go_roundg k1
                case measure => have := HK.out; omega
                case rel => exact ⟨o2, i + 1, by go_num, H', ⟨by have := HK.out; omega⟩, HPN⟩
              · rw [if_neg c3_] at H
                exact absurd H (by simp)
          · rw [if_neg c1_] at H
            have c1b : decide ((i : Int) < (fit.length : Int)) = false := decide_eq_false (by omega)
            have c1c : decide (i < fit.length) = false := decide_eq_false c1_
            clear c1_
            have HR := Aside0.mk (Option.some.inj H)
            clear H
            go_wp2
            go_ret
            exact ⟨_, rfl, by rw [← HR.out]; exact HPS.out⟩
theorem spec_pzAll.calls (k : Nat) (a0 : ByteArray) (A1 : Option Addr) (c1 : Nat) (l1 : List SRule) (A2 : Option Addr) (c2 : Nat) (l2 : List SRule) (a3 : Int) (A4 : Option Addr) (c4 : Nat) (l4 : List (List SRule)) (r : List (List SRule)) (w : World)
    (hr1 : Kd.C kRule w A1 l1.length l1) (hc1 : l1.length ≤ c1) (hr2 : Kd.C kRule w A2 l2.length l2) (hc2 : l2.length ≤ c2) (hr4 : Kd.C (Kd.slice 61 kRule) w A4 l4.length l4) (hc4 : l4.length ≤ c4) (h : spec_pzAll.f k a0 l1 l2 a3 l4 = some r) (hnil : A4 = none ∧ c4 = 0 := by exact ⟨rfl, rfl⟩) :
    Calls Tryd.prog 46 #[.string a0, .slice A1 l1.length c1, .slice A2 l2.length c2, .int .i64 a3, .slice A4 l4.length c4] w fun e w' => ∃ v0_ : Value, e = .returned (v0_) ∧ Kd.S (Kd.slice 61 kRule) 47 w' w.heap.size (fun _ => True) v0_ r ∧ Below w.heap.size w w' := by
  obtain ⟨rfl, rfl⟩ := hnil
  obtain rfl : l4 = [] := List.eq_nil_of_length_eq_zero (by omega)
  have hb : ∀ W', w.grownBy W' (Value.slice none ([] : List (List SRule)).length 0).ownBlock → Below w.heap.size w W' := fun W' hg => ⟨hg.os, hg.tape, hg.output, hg.size, fun k hk => hg.block k hk (by simp [Value.ownBlock])⟩
  exact (spec_pzAll.own k a0 l1 l2 a3 [] r A1 c1 A2 c2 (.slice none 0 0) w w (fun W' hg => Kd.C_below hr1 (hb W' hg)) hc1 (fun W' hg => Kd.C_below hr2 (hb W' hg)) hc2 (Kd.S_nil _ _ _ _ _) (Below.refl _ _) h).mono fun e w' ⟨v1, he, hp⟩ => ⟨v1, he, hp.1, hp.2.1⟩
end Go.Proofs.YtgmfaleamhpfjaaDoor.P
namespace Go.Proofs.YtgmfaleamhpfjaaDoor.P
open Go.RowKit Go.Proofs.YtgmfaleamhpfjaaDoorW.PrintWords Go.Proofs.YtgmfaleamhpfjaaDoorW.PrintLast Go.Proofs.YtgmfaleamhpfjaaDoorW.PrintMore
attribute [local go_sem] max2_int min2_int max_two min_two max_three min_three max_four min_four
set_option linter.unusedVariables false
set_option linter.unusedSimpArgs false
mutual
def spec_pzFit.l0 : Nat → ByteArray → List (SRule) → Int → Option ((List (SRule)))
 | 0, _, _, _ => none
 | k + 1, x0, x3, x4 => if x4 ≤ 10 then (spec_pzFit.l1 k x0 x3 x4 0) else (some x3)
def spec_pzFit.l1 : Nat → ByteArray → List (SRule) → Int → Int → Option ((List (SRule)))
 | 0, _, _, _, _ => none
 | k + 1, x0, x3, x4, x5 => if x5 < x4 then ((spec_pzFits.f k x0 x4 x5).bind fun t102 => (if t102 = true then (if x3.length < 8796093022208 then (spec_pzFit.l1 k x0 (x3 ++ [(⟨x4, x5⟩ : SRule)]) x4 (wrap64 (x5 + 1))) else (none)) else (spec_pzFit.l1 k x0 x3 x4 (wrap64 (x5 + 1))))) else (spec_pzFit.l0 k x0 x3 (wrap64 (x4 + 1)))
end
def spec_pzFit.f (k : Nat) (a0 : ByteArray) : Option ((List (SRule))) := spec_pzFit.l0 k a0 ([] : List (SRule)) 2
set_option maxHeartbeats 8000000 in
set_option maxRecDepth 100000 in
theorem spec_pzFit.calls (k : Nat) (a0 : ByteArray) (r : List (SRule)) (w : World) (h : spec_pzFit.f k a0 = some r) :
  Calls Tryd.prog 47 #[.string a0] w fun e w' => ∃ v0_ : Value, e = .returned (v0_) ∧ Kd.R kRule 61 w' w.heap.size (fun _ => True) v0_ r ∧ Below w.heap.size w w' := by
 have hu61 := Tryd.underlying61
 have HB := Aside0.mk (Below.refl w.heap.size w)
 have H : (spec_pzFit.l0 k a0 ([] : List (SRule)) 2) = some r := h
 clear h
 have H' := Aside0.mk H
 clear H
 go_enter Tryd.func47, Tryd.ntmps47
 go_wp2
 go_loopg [3, 4] k (fun kq v3 v4 w' => ∃ (x3_1 : List (SRule)) (x4_1 : Int), v4 = .int .i64 x4_1 ∧ Aside0 (spec_pzFit.l0 kq a0 x3_1 x4_1 = some r) ∧ Aside0 (kq ≤ k) ∧ Aside0 (Kd.R kRule 61 w' w.heap.size (fun _ => True) v3 x3_1) ∧ Aside0 (Below w.heap.size w w'))
 case atStart => exact ⟨(([] : List (SRule))), (2), k98_, H', ⟨Nat.le_refl _⟩, ⟨k68_⟩, ⟨k85_⟩⟩
 case round =>
  clear H'
  obtain ⟨x3_1, x4_1, rfl, HA, HK1, HO_3, HB⟩ := hrel
  cases gk with
  | zero => exact absurd HA.out (by simp [spec_pzFit.l0])
  | succ k1 =>
   have H := HA.out
   clear HA
   simp only [spec_pzFit.l0] at H
   by_cases c2 : x4_1 ≤ 10
   ·rw [if_pos c2] at H
    have c2b0 : decide (x4_1 ≤ 10) = true := decide_eq_true c2
    clear c2
    have H' := Aside0.mk H
    clear H
    go_wp2
    go_loopg [3, 5] k1 (fun kq v3 v5 w' => ∃ (x3_2 : List (SRule)) (x5_2 : Int), v5 = .int .i64 x5_2 ∧ Aside0 (spec_pzFit.l1 kq a0 x3_2 x4_1 x5_2 = some r) ∧ Aside0 (kq ≤ k1) ∧ Aside0 (Kd.R kRule 61 w' w.heap.size (fun _ => True) v3 x3_2) ∧ Aside0 (Below w.heap.size w w'))
    case atStart => exact ⟨(x3_1), (0), k98_, H', ⟨Nat.le_refl _⟩, ⟨k87_⟩, ⟨k85_⟩⟩
    case round =>
     clear H'
     (try clear c2); (try clear c2b0)
     obtain ⟨x3_2, x5_2, rfl, HA, HK2, HO_3, HB⟩ := hrel
     cases gk with
     | zero => exact absurd HA.out (by simp [spec_pzFit.l1])
     | succ k2 =>
      have H := HA.out
      clear HA
      simp only [spec_pzFit.l1] at H
      by_cases c3 : x5_2 < x4_1
      ·rw [if_pos c3] at H
       have c3b0 : decide (x5_2 < x4_1) = true := decide_eq_true c3
       clear c3
       obtain ⟨t102, A4, H⟩ := obnd_ H
       (try dsimp only at H)
       by_cases c5 : t102 = true
       ·subst c5
        rw [if_pos rfl] at H
        by_cases c6 : x3_2.length < 8796093022208
        ·rw [if_pos c6] at H
         have LMc6 := Aside0.mk c6
         clear c6
         obtain ⟨y103, hy_⟩ : ∃ y_ : List (SRule), y_ = (x3_2 ++ [(⟨x4_1, x5_2⟩ : SRule)]) := ⟨_, rfl⟩
         replace H : (spec_pzFit.l1 k2 a0 y103 x4_1 (wrap64 (x5_2 + 1))) = some r := k38_
         have Ny103 := Aside0.mk hy_
         clear hy_
         have H' := Aside0.mk H
         clear H
         go_wp2_with (first | ((with_reducible refine gate_dst (N := 6) rfl ?_); refine box_event ?hg (N := 6) ?hd (cs := #[.int .i64 0, .int .i64 0]) (t := 61) ?hr ?_; (case hd => rfl); (case hg => rfl); (case hr => exact k99_); intro gb101 hg w7 hbox hb; replace HO_3 := Aside0.mk (Kd.R_below (Kd.R_elderB k87_ gb101 (Nat.le_of_eq hg.symm)) hb); have BK101 := Aside0.mk (hbox); have GW101 := Aside0.mk (HB.ge hg); have GE101 := Aside0.mk (HB.ge hg); replace HB := HB.mw hb; clear hb hbox hg; have hcz8_0 : w7.cell? ⟨gb101, 0, none⟩ = some (.int .i64 0) := (blk_cell BK101.out 0).trans rfl; have hcz8_1 : w7.cell? ⟨gb101, 1, none⟩ = some (.int .i64 0) := (blk_cell BK101.out 1).trans rfl; have hfz8_0 := blk_frozen BK101.out 0; have hfz8_1 := blk_frozen BK101.out 1) | ((with_reducible refine gate_callee (f := 62) rfl ?_); refine goesL_ (some 21) rfl rfl Tryd.func62 (by kernel_rfl) rfl #[.string a0, .agg #[.int .i64 x4_1, .int .i64 x5_2]] rfl k70_ ?_; (with_reducible refine (spec_pzFits.calls k2 a0 x4_1 x5_2 true _ A4.out).mono ?_); rintro e w9 ⟨rfl, hb⟩; refine ⟨_, rfl, ?_⟩; replace HO_3 := Aside0.mk (Kd.R_below k36_ hb); replace BK101 := Aside0.mk (blk_below (g := gb101) (o := .cells #[.int .i64 x4_1, .int .i64 x5_2] 61 (0, 0)) k18_ hb); replace HB := Aside0.mk (below_step k82_ hb); (try clear hb); have hcz10_0 : w9.cell? ⟨gb101, 0, none⟩ = some (.int .i64 x4_1) := (blk_cell BK101.out 0).trans rfl; have hcz10_1 : w9.cell? ⟨gb101, 1, none⟩ = some (.int .i64 x5_2) := (blk_cell BK101.out 1).trans rfl; have hfz10_0 := blk_frozen BK101.out 0; have hfz10_1 := blk_frozen BK101.out 1) | ((with_reducible refine gate_builtin (b := .append) (xs := #[.tmp 22, .tmp 24]) rfl ?_); at_builtin; refine Kd.R_append kRule (w0 := w) w.heap.size rfl (.tmp 22) (.tmp 24) 47 61 (.agg #[(.int .i64 0), (.int .i64 0)]) 16 rfl Tryd.underlying47 info61 rfl (by decide) (by omega) u3 x3_2 (⟨x4_1, x5_2⟩ : SRule) [.int .i64 x4_1, .int .i64 x5_2] (fun k_ => k_ ≠ gb101) (fun _ => False) rfl rfl ?aP (fun _ hk => hk.elim) ?aF ?aO ?aB ?aS ?aL ?_; (case aP => exact kRule_mkM _ _ _ (⟨x4_1, x5_2⟩ : SRule)); (case aB => exact k82_); (case aF => exact (fun k_ hk => Kd.freshB (g := gb101) (o := .cells #[.int .i64 x4_1, .int .i64 x5_2] 61 (0, 0)) k90_ k_ hk)); (case aO => exact (by (with_reducible repeat (first | apply Kd.R_alloc | apply Kd.R_drewN | apply Kd.R_drew)); exact Kd.R_mono HO_3.out (fun _ hk => hk.2))); (case aS => exact (below_size k82_)); (case aL => have := LMc6.out; omega); intro v104 w11 ho hb hg hat; rw [← Ny103.out] at ho; replace BK101 := Aside0.mk (blk_grown (g := gb101) (o := .cells #[.int .i64 x4_1, .int .i64 x5_2] 61 (0, 0)) k90_ hg (Kd.R_away HO_3.out (fun _ hk => hk.2))); replace HB := Aside0.mk (hb); have HO105 := Aside0.mk (ho); clear HO_3; clear ho hb hg hat))
         go_roundg k2
         case measure => have := HK1.out; have := HK2.out; omega
         case rel => exact ⟨(y103), (wrap64 (x5_2 + 1)), k98_, H', ⟨by have := HK1.out; have := HK2.out; omega⟩, ⟨by (with_reducible repeat (first | apply Kd.R_alloc | apply Kd.R_drewN | apply Kd.R_drew)); exact Kd.R_mono HO105.out (fun _ hk => trivial)⟩, ⟨k82_⟩⟩
        ·rw [if_neg c6] at H
         exact absurd H (by simp)
       ·replace c5 := Bool.eq_false_iff.mpr c5
        subst c5
        rw [if_neg (show ¬ (false = true) by decide)] at H
        have H' := Aside0.mk H
        clear H
        go_wp2_with (first | ((with_reducible refine gate_dst (N := 6) rfl ?_); refine box_event ?hg (N := 6) ?hd (cs := #[.int .i64 0, .int .i64 0]) (t := 61) ?hr ?_; (case hd => rfl); (case hg => rfl); (case hr => exact k99_); intro gb101 hg w12 hbox hb; replace HO_3 := Aside0.mk (Kd.R_below (Kd.R_elderB k87_ gb101 (Nat.le_of_eq hg.symm)) hb); have BK101 := Aside0.mk (hbox); have GW101 := Aside0.mk (HB.ge hg); have GE101 := Aside0.mk (HB.ge hg); replace HB := HB.mw hb; clear hb hbox hg; have hcz13_0 : w12.cell? ⟨gb101, 0, none⟩ = some (.int .i64 0) := (blk_cell BK101.out 0).trans rfl; have hcz13_1 : w12.cell? ⟨gb101, 1, none⟩ = some (.int .i64 0) := (blk_cell BK101.out 1).trans rfl; have hfz13_0 := blk_frozen BK101.out 0; have hfz13_1 := blk_frozen BK101.out 1) | ((with_reducible refine gate_callee (f := 62) rfl ?_); refine goesL_ (some 21) rfl rfl Tryd.func62 (by kernel_rfl) rfl #[.string a0, .agg #[.int .i64 x4_1, .int .i64 x5_2]] rfl k70_ ?_; (with_reducible refine (spec_pzFits.calls k2 a0 x4_1 x5_2 false _ A4.out).mono ?_); rintro e w14 ⟨rfl, hb⟩; refine ⟨_, rfl, ?_⟩; replace HO_3 := Aside0.mk (Kd.R_below k36_ hb); replace BK101 := Aside0.mk (blk_below (g := gb101) (o := .cells #[.int .i64 x4_1, .int .i64 x5_2] 61 (0, 0)) k18_ hb); replace HB := Aside0.mk (below_step k82_ hb); (try clear hb)))
        go_roundg k2
        case measure => have := HK1.out; have := HK2.out; omega
        case rel => exact ⟨(x3_2), (wrap64 (x5_2 + 1)), k98_, H', ⟨by have := HK1.out; have := HK2.out; omega⟩, ⟨by (with_reducible repeat (first | apply Kd.R_alloc | apply Kd.R_drewN | apply Kd.R_drew)); exact Kd.R_mono HO_3.out (fun _ hk => trivial)⟩, ⟨k82_⟩⟩
      ·rw [if_neg c3] at H
       have c3b0 : decide (x5_2 < x4_1) = false := decide_eq_false c3
       clear c3
       have H' := Aside0.mk H
       clear H
       go_wp2
       go_roundg k2
       case measure => have := HK1.out; have := HK2.out; omega
       case rel => exact ⟨(x3_2), (wrap64 (x4_1 + 1)), k98_, H', ⟨by have := HK1.out; have := HK2.out; omega⟩, ⟨k87_⟩, ⟨k85_⟩⟩
   ·rw [if_neg c2] at H
    have c2b0 : decide (x4_1 ≤ 10) = false := decide_eq_false c2
    clear c2
    obtain rfl := Option.some.inj H
    go_wp2
    go_ret
    exact ⟨_, k81_, k76_, k85_⟩
end Go.Proofs.YtgmfaleamhpfjaaDoor.P
