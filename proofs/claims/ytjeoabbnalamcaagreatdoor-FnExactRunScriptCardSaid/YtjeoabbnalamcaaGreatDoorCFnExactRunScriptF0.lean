/- What functions of the program answer. Proved in this text: its theorems. Conditions: as each theorem states them. -/
import Derived.Test.YtjeoabbnalamcaaGreatDoorCFnExactRunScriptP
namespace Go.Proofs.YtjeoabbnalamcaaGreatDoor.P
open Go.RowKit Go.Proofs.YtjeoabbnalamcaaGreatDoorW.qaY Go.Proofs.YtjeoabbnalamcaaGreatDoorW.PrintLast Go.Proofs.YtjeoabbnalamcaaGreatDoorW.PrintMore
set_option linter.unusedVariables false
set_option linter.unusedSimpArgs false
set_option maxHeartbeats 8000000
set_option maxRecDepth 100000
section
attribute [local go_sem] qgV qgX qif qig qge qgf qgW qgY
def PredR (g : Nat) (lb : Array Value) (p : qac → Bool) (l : List qac) (w : World) : Prop :=
  ∀ (W : World) (x : qac), x ∈ l → Below w.heap.size w W → Calls Tryz.prog g (#[.agg #[.int .i64 x.f0, .int .i64 x.f1]] ++ lb) W fun e w' => e = .returned (.bool (p x)) ∧ Below w.heap.size w w'
def qd3 (p : qac → Bool) : List qac → Int → Int
  | [], _ => -1
  | x :: l, i => if p x = true then i else qd3 p l (i + 1)
theorem qj3 (l : List qac) (k : Nat) (h : k < l.length) : l.drop k = qae l k :: l.drop (k + 1) := by
  rw [List.drop_eq_getElem_cons h]
  simp [qae, List.getD, h]
theorem qnt (l : List qac) (k : Nat) (h : k < l.length) : qae l k ∈ l := by
  simp [qae, List.getD, h]
theorem qoj {p : qac → Bool} {l : List qac} {k : Nat} (h : k < l.length) (hp : p (qae l k) = true) : qd3 p (l.drop k) k = k := by
  rw [qj3 l k h, qd3, if_pos hp]
theorem qmY {p : qac → Bool} {l : List qac} {k : Nat} (h : k < l.length) (hp : p (qae l k) = false) : qd3 p (l.drop k) k = qd3 p (l.drop (k + 1)) ((k + 1 : Nat) : Int) := by
  rw [qj3 l k h, qd3, if_neg (by simp [hp])]; rfl
theorem qoi {p : qac → Bool} {l : List qac} {k : Nat} (h : l.length ≤ k) : qd3 p (l.drop k) k = -1 := by
  rw [List.drop_eq_nil_of_le h]; rfl
set_option maxHeartbeats 2000000 in
theorem qng (p : qac → Bool) (g : Nat) (lb : Array Value) (eg : ∀ args w, (callFunc g args).run Tryz.prog w = .ok (.enter g args) w)
    (A0 : Option Addr) (c0 : Nat) (l0 : List qac) (w : World) (hp : PredR g lb p l0 w) (hr0 : Kd.C qaN w A0 l0.length l0) :
    Calls Tryz.prog 145 #[.slice A0 l0.length c0, .func (.func g) #[] lb] w fun e w' => e = .returned (.int .i64 (qd3 p l0 0)) ∧ Below w.heap.size w w' := by
  have hu := Tryz.underlying85; have hm : l0.length ≤ 9223372036854775807 := Kd.C_max hr0; have HR0 := ak_ hr0; have HP := ak_ hp; clear hr0 hp; have HB := ak_ (Below.refl w.heap.size w); have H0 := ak_ (show qd3 p l0 0 = qd3 p (l0.drop 0) ((0 : Nat) : Int) from rfl); go_enter Tryz.func145, Tryz.ntmps145; go_wp2
  go_loopg [5, 8] l0.length (fun gg _ s8 wr => ∃ kk : Nat, kk ≤ l0.length ∧ l0.length - kk ≤ gg ∧ s8 = .int .i64 kk ∧ qag (Below w.heap.size w wr) ∧ qag (qd3 p l0 0 = qd3 p (l0.drop kk) kk))
  case atStart => exact ⟨0, Nat.zero_le _, by omega, rfl, HB, H0⟩
  case round =>
    clear HB H0; obtain ⟨kk, hkk, hg, rfl, HB, HI⟩ := hrel; by_cases hlt : kk < l0.length; rotate_left
    ·have hltz : ¬ (kk : Int) < (l0.length : Int) := by omega
     have HQ := ak_ (qoi (p := p) (l := l0) (k := kk) (by omega)); go_wp2
     go_ret
     exact ⟨by rw [HI.out, HQ.out]; rfl, HB.out⟩
    have hltz : (kk : Int) < (l0.length : Int) := by omega
    obtain ⟨ad, e, hx0, hx1⟩ := qdV HR0.out (kk : Int) (by omega) hltz
    cases e
    replace hx0 := (HB.out.cell (World.block_lt_of_cell? w _ hx0)).trans hx0; replace hx1 := (HB.out.cell (World.block_lt_of_cell? w _ hx1)).trans hx1; simp only [Int.toNat_natCast] at hx0 hx1; have hcall := HP.out wr (qae l0 (kk : Int)) (qnt l0 kk hlt) HB.out
    cases hq : p (qae l0 (kk : Int)) with
    | true =>
      rw [hq] at hcall; have HQ := ak_ (qoj hlt hq); clear hq
      go_wp2_with (go_at_fn g; refine hcall.mono ?_; rintro e w' ⟨rfl, hb'⟩)
      go_ret
      exact ⟨by rw [HI.out, HQ.out]; rfl, hb'⟩
    | false =>
      rw [hq] at hcall; have HQ := ak_ (qmY hlt hq); clear hq
      go_wp2_with (go_at_fn g; refine hcall.mono ?_; rintro e w' ⟨rfl, hb'⟩)
      go_roundg (l0.length - (kk + 1))
      case measure => omega
      case rel => exact ⟨kk + 1, by omega, by omega, by go_num, ⟨hb'⟩, ⟨by rw [HI.out, HQ.out]⟩⟩
theorem qcW : (Tryz.prog.info? 85).map (fun i => (i.zero, i.size, i.bytes)) = some (some (.agg #[(.int .i64 0), (.int .i64 0)]), 2, 16) := by kernel_rfl
def qeF (w0 w : World) (vo v : Value) (o : List (List qac)) (W : World) : Prop :=
  Kd.S (Kd.slice 85 qaN) 26 W w0.heap.size (fun _ => True) v o ∧ Below w0.heap.size w0 W ∧ w.grownBy W vo.ownBlock ∧ (v.ownBlock = vo.ownBlock ∨ ∃ b, v.ownBlock = some b ∧ w.heap.size ≤ b)
theorem qgR {w w1 w2 : World} {r r' : Option Nat} (h : w.grownBy w1 r) (h2 : w1.grownBy w2 r') (hr : r' = r ∨ ∃ b, r' = some b ∧ w.heap.size ≤ b) : w.grownBy w2 r :=
  ⟨h2.os.trans h.os, h2.tape.trans h.tape, h2.output.trans h.output, Nat.le_trans h.size h2.size, fun k hk hne => (h2.block k (Nat.lt_of_lt_of_le hk h.size) (fun e => by
    rcases hr with hr | ⟨b, hr, hb⟩
    ·exact hne (e.trans hr)
    rw [hr] at e; injection e with e; omega)).trans (h.block k hk hne)⟩
theorem qmG {w w1 w2 : World} {r : Option Nat} (h : Below w.heap.size w w1) (h2 : w1.grownBy w2 r) : w.grownBy w2 r := qgR (qd4 h r) h2 (.inl rfl)
theorem qeF.refl {w0 w : World} {v : Value} {o : List (List qac)} (hS : Kd.S (Kd.slice 85 qaN) 26 w w0.heap.size (fun _ => True) v o) (hB : Below w0.heap.size w0 w) : qeF w0 w v v o w :=
  ⟨hS, hB, qd4 (Below.refl _ _) _, .inl rfl⟩
theorem qeF.below {w0 w : World} {vo v : Value} {o : List (List qac)} {W W1 : World} (h : qeF w0 w vo v o W) (hb : Below W.heap.size W W1) : qeF w0 w vo v o W1 :=
  ⟨Kd.qgK h.1 hb, qaa h.2.1 hb, qgR h.2.2.1 (qd4 hb vo.ownBlock) (.inl rfl), h.2.2.2⟩
theorem qeF.trans {w0 w : World} {vo v v1 : Value} {o o1 : List (List qac)} {W W1 : World} (h : qeF w0 w vo v o W) (h2 : qeF w0 W v v1 o1 W1) : qeF w0 w vo v1 o1 W1 := by
  refine ⟨h2.1, h2.2.1, qgR h.2.2.1 h2.2.2.1 h.2.2.2, ?_⟩
  rcases h2.2.2.2 with e | ⟨b, e, hb⟩
  ·rw [e]; exact h.2.2.2
  exact .inr ⟨b, e, Nat.le_trans h.2.2.1.size hb⟩
theorem qoc {P : Program} {n : Nat} (w : World) (t e ty : TypeId) (z : Value) (ht : P.underlying t = some (.slice e)) (hv : ∀ w, (zeroValue e).run P w = .ok z w) (hz : ∀ u ∈ (Builtin.zeroCells z.cells n).toList, u.oneCell' = true) (b o c : Nat) (hn : 0 < n) (hne : 0 < z.cells.size)
    (hc : ∀ j, j < n * z.cells.size → (w.cell? ⟨b, o + j, none⟩).isSome = true) (hf : ∀ j, j < n * z.cells.size → w.frozen? ⟨b, o + j, none⟩ = false) :
    (Builtin.clear_ #[t] ty #[.slice (some ⟨b, o, none⟩) n c]).run P w = .ok (.tuple #[]) (w.setCells b o (Builtin.zeroCells z.cells n).toList) := by
  have hl : (Builtin.zeroCells z.cells n).toList.length = n * z.cells.size := by simp [Builtin.zeroCells]
  have hst := run_storeCells_cells (P := P) b o (Builtin.zeroCells z.cells n).toList 0 w (by rw [hl]; simpa using hc) (by rw [hl]; simpa using hf) hz; simp only [Nat.add_zero] at hst
  obtain ⟨m, rfl⟩ : ∃ m, n = m + 1 := ⟨n - 1, by omega⟩
  simp [Builtin.clear_, run_underlying ht, hv, hst]
theorem qiD (b : Nat) : ∀ (vs : List Value) (o : Nat) (w : World) (cur : Array Value) (e : TypeId) (fr : Nat × Nat), w.heap[b]? = some (.cells cur e fr) → ∃ cur', (w.setCells b o vs).heap[b]? = some (.cells cur' e fr) ∧ cur'.size = cur.size ∧ ∀ j, j < o → cur'[j]? = cur[j]?
  | [], _, _, cur, _, _, h => ⟨cur, h, rfl, fun _ _ => rfl⟩
  | v :: r, o, w, cur, e, fr, h => by
    have h1 : (w.setCell ⟨b, o, none⟩ v).heap[b]? = some (.cells (cur.setIfInBounds o v) e fr) := by simp [World.setCell, Array.getElem?_modify, h]
    obtain ⟨cur', h2, h3, h4⟩ := qiD b r (o + 1) _ _ _ _ h1; refine ⟨cur', h2, by simpa using h3, fun j hj => ?_⟩; rw [h4 j (by omega), Array.getElem?_setIfInBounds, if_neg (by omega)]
theorem R_clear {α : Type} {d : Kd α} {e base g n c : Nat} {ok : Nat → Prop} {w : World} {xs : List α} (h : d.R e w base ok (.slice (some ⟨g, 0, none⟩) n c) xs) (o : Nat) (vs : List Value) (ho : xs.length * d.sz ≤ o) : d.R e (w.setCells g o vs) base ok (.slice (some ⟨g, 0, none⟩) n c) xs := by
  obtain ⟨h0, inner, hown, hr⟩ := h; refine ⟨h0, inner, ⟨hown.1, ?_⟩, hr.qll (fun p cs hp => d.M_move (fun k hk => qhz vs o k (fun e_ => hk.2 (by rw [e_]; rfl))) hp)⟩
  rcases hown.2 with ⟨hv, _⟩ | ⟨g', cap, cur, hv, hb, hh, hnc, hcm, hcs, ht⟩
  ·cases hv
  injection hv with ha hn hc
  injection ha with ha
  injection ha with hg
  subst hg; subst hc; obtain ⟨cur', h2, h3, h4⟩ := qiD g vs o w cur e (0, 0) hh; refine .inr ⟨g, c, cur', by rw [hn], hb, h2, hnc, hcm, by rw [h3]; exact hcs, ?_⟩; rw [← ht]; apply List.ext_getElem?; intro j; simp only [List.getElem?_take, Array.getElem?_toList]; split
  ·next hj => exact h4 j (by omega)
  rfl
theorem qhT (w : World) (g o : Nat) (vs : List Value) : w.grownBy (w.setCells g o vs) (some g) :=
  ⟨(qfp g vs o w).1, (qfp g vs o w).2.1, (qfp g vs o w).2.2.1, Nat.le_of_eq (qfp g vs o w).2.2.2.symm, fun k _ hk => qhz vs o k (fun e => hk (by rw [e]))⟩
theorem qn3 (g o n : Nat) : (⟨g, o, none⟩ : Addr).add n = ⟨g, o + n, none⟩ := add_at g o n
theorem zero_run {P : Program} {e : TypeId} {z : Value} {size bytes : Nat} (h : (P.info? e).map (fun i => (i.zero, i.size, i.bytes)) = some (some z, size, bytes)) (w : World) : (zeroValue e).run P w = .ok z w := by
  obtain ⟨i, hi, hz⟩ := Option.map_eq_some_iff.1 h; simp only [Prod.mk.injEq] at hz
  simp [zeroValue, typeInfo, hi, hz.1]
def qkm : Go.Shelf.Ren := ⟨fun | 171 => 87 | 243 => 146 | 246 => 203 | 283 => 240 | 284 => 241 | 285 => 242 | 286 => 243 | 129 => 259 | 317 => 258 | 318 => 260 | 319 => 261 | 320 => 262 | 337 => 277 | 338 => 278 | n => n, fun | 3 => 3 | 9 => 9 | 2 => 2 | 4 => 4 | 171 => 200 | 0 => 0 | 53 => 68 | 37 => 35 | 5 => 5 | 173 => 203 | 212 => 219 | 51 => 179 | 20 => 20 | 213 => 220 | 46 => 165 | 232 => 246 | 233 => 247 | n => n, fun | 17 => 3 | 18 => 6 | 19 => 7 | n => n⟩
theorem qsk : Go.Proofs.LaysM.n171 Tryz.prog qkm := {
  mixed := by kernel_rfl
  f129 := Tryz.func259.trans (congrArg some (by kernel_rfl))
  f171 := Tryz.func87.trans (congrArg some (by kernel_rfl))
  f243 := Tryz.func146.trans (congrArg some (by kernel_rfl))
  f246 := Tryz.func203.trans (congrArg some (by kernel_rfl))
  f283 := Tryz.func240.trans (congrArg some (by kernel_rfl))
  f284 := Tryz.func241.trans (congrArg some (by kernel_rfl))
  f285 := Tryz.func242.trans (congrArg some (by kernel_rfl))
  f286 := Tryz.func243.trans (congrArg some (by kernel_rfl))
  f317 := Tryz.func258.trans (congrArg some (by kernel_rfl))
  f318 := Tryz.func260.trans (congrArg some (by kernel_rfl))
  f319 := Tryz.func261.trans (congrArg some (by kernel_rfl))
  f320 := Tryz.func262.trans (congrArg some (by kernel_rfl))
  f337 := Tryz.func277.trans (congrArg some (by kernel_rfl))
  f338 := Tryz.func278.trans (congrArg some (by kernel_rfl))
  t0 := Tryz.underlying0
  a0 := Tryz.isAgg0
  z0 := Tryz.sizeOf0
  v0 := Tryz.zeroValue0
  t2 := Tryz.underlying2
  a2 := Tryz.isAgg2
  z2 := Tryz.sizeOf2
  v2 := Tryz.zeroValue2
  t3 := Tryz.underlying3
  a3 := Tryz.isAgg3
  z3 := Tryz.sizeOf3
  v3 := Tryz.zeroValue3
  t4 := Tryz.underlying4
  a4 := Tryz.isAgg4
  z4 := Tryz.sizeOf4
  v4 := Tryz.zeroValue4
  t5 := Tryz.underlying5
  a5 := Tryz.isAgg5
  z5 := Tryz.sizeOf5
  v5 := Tryz.zeroValue5
  t9 := Tryz.underlying9
  a9 := Tryz.isAgg9
  z9 := Tryz.sizeOf9
  v9 := Tryz.zeroValue9
  t20 := Tryz.underlying20
  a20 := Tryz.isAgg20
  z20 := Tryz.sizeOf20
  v20 := Tryz.zeroValue20
  t37 := Tryz.underlying35
  a37 := Tryz.isAgg35
  z37 := Tryz.sizeOf35
  v37 := Tryz.zeroValue35
  t46 := Tryz.underlying165
  a46 := Tryz.isAgg165
  z46 := Tryz.sizeOf165
  v46 := Tryz.zeroValue165
  t51 := Tryz.underlying179
  a51 := Tryz.isAgg179
  z51 := Tryz.sizeOf179
  v51 := Tryz.zeroValue179
  t53 := Tryz.underlying68
  a53 := Tryz.isAgg68
  z53 := Tryz.sizeOf68
  v53 := Tryz.zeroValue68
  t171 := Tryz.underlying200
  a171 := Tryz.isAgg200
  z171 := Tryz.sizeOf200
  v171 := Tryz.zeroValue200
  t173 := Tryz.underlying203
  a173 := Tryz.isAgg203
  z173 := Tryz.sizeOf203
  v173 := Tryz.zeroValue203
  t212 := Tryz.underlying219
  a212 := Tryz.isAgg219
  z212 := Tryz.sizeOf219
  v212 := Tryz.zeroValue219
  t213 := Tryz.underlying220
  a213 := Tryz.isAgg220
  z213 := Tryz.sizeOf220
  t232 := Tryz.underlying246
  a232 := Tryz.isAgg246
  z232 := Tryz.sizeOf246
  v232 := Tryz.zeroValue246
  t233 := Tryz.underlying247
  a233 := Tryz.isAgg247
  z233 := Tryz.sizeOf247
  v233 := Tryz.zeroValue247
  g17 := by kernel_rfl
  g18 := by kernel_rfl
  g19 := by kernel_rfl
  i0 := by kernel_rfl
  i2 := by kernel_rfl
  i3 := by kernel_rfl
  i4 := by kernel_rfl
  i5 := by kernel_rfl
  i9 := by kernel_rfl
  i20 := by kernel_rfl
  i37 := by kernel_rfl
  i46 := by kernel_rfl
  i51 := by kernel_rfl
  i53 := by kernel_rfl
  i171 := by kernel_rfl
  i173 := by kernel_rfl
  i212 := by kernel_rfl
  i232 := by kernel_rfl
  i233 := by kernel_rfl
  m17 := by kernel_rfl
  m18 := by kernel_rfl
  m19 := by kernel_rfl }
def strconv_Itoa.f (a0 : Int) : Option ByteArray := if 0 ≤ a0 ∧ a0 < 100 then some ⟨(Lib.decDigits a0.toNat).toArray⟩ else none
theorem strconv_Itoa.calls (a0 : Int) (r : ByteArray) (w : World) (h : strconv_Itoa.f a0 = some r) :
    Calls Tryz.prog 87 #[.int .i64 a0] w fun e w' => e = .returned (.string r) ∧ Below w.heap.size w w' := by
  unfold strconv_Itoa.f at h; by_cases hc : 0 ≤ a0 ∧ a0 < 100; rotate_left
  ·rw [if_neg hc] at h; exact absurd h (by simp)
  rw [if_pos hc] at h; obtain rfl := Option.some.inj h
  obtain ⟨n, rfl⟩ : ∃ n : Nat, a0 = (n : Int) := ⟨a0.toNat, by omega⟩
  rw [Int.toNat_natCast]
  exact (Any.strconv_Itoa_small (show Lays.n171 Tryz.prog qkm from { qsk with }) n (by omega) w).mono fun e w' ⟨he, hw⟩ => ⟨he, hw ▸ Below.refl _ _⟩
def qkl : Go.Shelf.Ren := ⟨fun | 156 => 88 | 165 => 147 | 166 => 148 | 169 => 149 | 240 => 204 | 241 => 205 | 276 => 244 | 277 => 245 | n => n, fun | 31 => 43 | 9 => 9 | 3 => 3 | 4 => 4 | 0 => 0 | 20 => 20 | 72 => 154 | 76 => 138 | 70 => 152 | 37 => 35 | 75 => 137 | 127 => 176 | 164 => 205 | 5 => 5 | 80 => 72 | n => n, fun | n => n⟩
theorem lays156 : Go.Proofs.Lays.n156 Tryz.prog qkl := {
  mixed := by kernel_rfl
  f156 := Tryz.func88.trans (congrArg some (by kernel_rfl))
  f165 := Tryz.func147.trans (congrArg some (by kernel_rfl))
  f166 := Tryz.func148.trans (congrArg some (by kernel_rfl))
  f169 := Tryz.func149.trans (congrArg some (by kernel_rfl))
  f240 := Tryz.func204.trans (congrArg some (by kernel_rfl))
  f241 := Tryz.func205.trans (congrArg some (by kernel_rfl))
  f276 := Tryz.func244.trans (congrArg some (by kernel_rfl))
  f277 := Tryz.func245.trans (congrArg some (by kernel_rfl))
  t0 := Tryz.underlying0
  a0 := Tryz.isAgg0
  z0 := Tryz.sizeOf0
  v0 := Tryz.zeroValue0
  t3 := Tryz.underlying3
  a3 := Tryz.isAgg3
  z3 := Tryz.sizeOf3
  v3 := Tryz.zeroValue3
  t4 := Tryz.underlying4
  a4 := Tryz.isAgg4
  z4 := Tryz.sizeOf4
  v4 := Tryz.zeroValue4
  t9 := Tryz.underlying9
  a9 := Tryz.isAgg9
  z9 := Tryz.sizeOf9
  v9 := Tryz.zeroValue9
  t20 := Tryz.underlying20
  a20 := Tryz.isAgg20
  z20 := Tryz.sizeOf20
  v20 := Tryz.zeroValue20
  t31 := Tryz.underlying43
  a31 := Tryz.isAgg43
  z31 := Tryz.sizeOf43
  v31 := Tryz.zeroValue43
  t37 := Tryz.underlying35
  a37 := Tryz.isAgg35
  z37 := Tryz.sizeOf35
  v37 := Tryz.zeroValue35
  t70 := Tryz.underlying152
  a70 := Tryz.isAgg152
  z70 := Tryz.sizeOf152
  v70 := Tryz.zeroValue152
  t72 := Tryz.underlying154
  a72 := Tryz.isAgg154
  z72 := Tryz.sizeOf154
  v72 := Tryz.zeroValue154
  t75 := Tryz.underlying137
  a75 := Tryz.isAgg137
  z75 := Tryz.sizeOf137
  v75 := Tryz.zeroValue137
  t76 := Tryz.underlying138
  a76 := Tryz.isAgg138
  z76 := Tryz.sizeOf138
  v76 := Tryz.zeroValue138
  t127 := Tryz.underlying176
  a127 := Tryz.isAgg176
  z127 := Tryz.sizeOf176
  v127 := Tryz.zeroValue176
  t164 := Tryz.underlying205
  a164 := Tryz.isAgg205
  z164 := Tryz.sizeOf205
  v164 := Tryz.zeroValue205 }
theorem extra156 : Builder.Extra Tryz.prog qkl where
  sizeBuilder := by kernel_rfl
  liesBuilder := by kernel_rfl
  t5 := by kernel_rfl
  a5 := fun _ => by kernel_rfl
  z5 := fun _ => by kernel_rfl
  v5 := fun _ => by kernel_rfl
  infoByte := by kernel_rfl
  cellsByte := by kernel_rfl
  sizeByte := by kernel_rfl
  neB5 := by decide
def strings_Join.f (l0 : List ByteArray) (a1 : ByteArray) : Option ByteArray := if 0 < l0.length ∧ l0.length ≤ 140737488355328 ∧ (Lib.join (l0.map (·.data.toList)) a1.data.toList).length ≤ 281474976710656 then some ⟨(Lib.join (l0.map (·.data.toList)) a1.data.toList).toArray⟩ else none
theorem strings_Join.calls (A0 : Option Addr) (c0 : Nat) (l0 : List ByteArray) (a1 : ByteArray) (r : ByteArray) (w : World) (hr0 : Kd.C Kd.string w A0 l0.length l0) (hc0 : l0.length ≤ c0) (h : strings_Join.f l0 a1 = some r) :
    Calls Tryz.prog 88 #[.slice A0 l0.length c0, .string a1] w fun e w' => e = .returned (.string r) ∧ Below w.heap.size w w' := by
  unfold strings_Join.f at h; by_cases hc : 0 < l0.length ∧ l0.length ≤ 140737488355328 ∧ (Lib.join (l0.map (·.data.toList)) a1.data.toList).length ≤ 281474976710656; rotate_left
  ·rw [if_neg hc] at h; exact absurd h (by simp)
  rw [if_pos hc] at h; obtain rfl := Option.some.inj h; obtain ⟨hp, hn, hl⟩ := hc; obtain ⟨-, -, hA⟩ := hr0; obtain ⟨⟨bk, o, p⟩, rfl, hcc⟩ := hA hp
  have hcell : ∀ (j : Nat) x, l0[j]? = some x → w.cell? (Addr.add ⟨bk, o, p⟩ j) = some (.string x) := by
    intro j x hx; obtain ⟨c, -, hM, hg⟩ := hcc j x hx
    cases (show c = [Value.string x] from hM)
    simpa [Kd.string, Kd.scalar] using hg 0 _ rfl
  have hp0 : p = none := by
    obtain ⟨x, hx⟩ : ∃ x, l0[0]? = some x := ⟨l0[0], by simp [hp]⟩
    have h0 := hcell 0 x hx
    cases p with
    | none => rfl
    | some q => exact absurd h0 (by simp [Addr.add, World.cell?]; split <;> simp)
  subst hp0
  have hbk : bk < w.heap.size := by
    obtain ⟨x, hx⟩ : ∃ x, l0[0]? = some x := ⟨l0[0], by simp [hp]⟩
    exact World.block_lt_of_cell? w _ (hcell 0 x hx)
  exact Any.strings_Join_48 lays156 extra156 bk o c0 l0 a1 w (fun j x hx => by have h_ := hcell j x hx; unfold Addr.add at h_; split at h_ <;> simp_all) hbk hn hc0 hl
def qaE.l0 : Nat → List ByteArray → List (qac) → Int → Int → Option (ByteArray)
 | 0, _, _, _, _ => none
 | k + 1, x3, x7, x8, x9 => if x9 < x8 then (if 0 ≤ x9 then (if x9 < (x7.length : Int) then ((strconv_Itoa.f ((qae x7 x9).f0)).bind fun qfw => (if qfw.size + 1 ≤ 9223372036854775807 then ((strconv_Itoa.f ((qae x7 x9).f1)).bind fun t107 => (if (qfw ++ (⟨#[58]⟩ : ByteArray)).size + t107.size ≤ 9223372036854775807 then (if x3.length < 8796093022208 then (qaE.l0 k (x3 ++ [(qfw ++ (⟨#[58]⟩ : ByteArray)) ++ t107]) x7 x8 (wrap64 (x9 + 1))) else (none)) else (none))) else (none))) else (none)) else (none)) else (if (x3.length : Int) = 0 then (some (⟨#[45]⟩ : ByteArray)) else ((strings_Join.f x3 (⟨#[44]⟩ : ByteArray)).bind fun qlG => (some qlG)))
def qaE.f (k : Nat) (l0 : List (qac)) : Option (ByteArray) := qaE.l0 k (([] : List ByteArray)) l0 (l0.length : Int) 0
def qaE.T5 : Bool × List (List Nat × List Nat) := (true, [([], []), ([], []), ([1], [1]), ([2], [2]), ([3], [3]), ([], []), ([5], [5]), ([6, 3], [6]), ([4, 7], [4, 7]), ([8], [8]), ([0, 9, 7], [0, 9]), ([10, 10, 0, 1, 2, 3, 4, 5, 6, 7, 8, 9, 10], [0, 10])])
def qaE.B5 : List Nat := [0, 0, 2, 6, 14, 0, 32, 110, 254, 510, 1023, 2047]
theorem qaE.tab5 : qhK .any (opsOf Tryz.f54 5) = qaE.T5 := by kernel_rfl
theorem qaE.bits5 : qeR qaE.T5.2 qaE.B5 = true := by kernel_rfl
theorem qaE.calls (k : Nat) (A0 : Option Addr) (c0 : Nat) (l0 : List (qac)) (r : ByteArray) (w : World) (hr0 : Kd.C qaN w A0 l0.length l0) (hc0 : l0.length ≤ c0) (h : qaE.f k l0 = some r) :
  Calls Tryz.prog 54 #[.slice A0 l0.length c0] w fun e w' => e = .returned (.string r) ∧ Below w.heap.size w w' := by
 have qms := Tryz.underlying85; have HR0 := ak_ hr0; have HC0 := ak_ hc0; clear hr0 hc0; have HB := ak_ (Below.refl w.heap.size w); have H : (qaE.l0 k (([] : List ByteArray)) l0 (l0.length : Int) 0) = some r := h; clear h
 obtain ⟨qeS, hy_⟩ : ∃ y_ : List ByteArray, y_ = (([] : List ByteArray)) := ⟨_, rfl⟩
 replace H : (qaE.l0 k qeS l0 (l0.length : Int) 0) = some r := qe6; have qeb := ak_ hy_; clear hy_; have H' := ak_ H; clear H; go_enter Tryz.func54, Tryz.ntmps54
 go_wp2_with (first | ((with_reducible refine qak (N := 6) rfl ?_); refine li_ Kd.string 9 6 rfl (xs := ([] : List ByteArray)) qbb ?_; intro qiq w2 ho3 hb; (first | rw [← qeb.out] at ho3 | (simp only [Int.reduceToNat] at ho3; rw [← qeb.out] at ho3)); have qdi := ak_ (Kd.qau ho3 (qab qam)); replace HB := HB.mw hb; clear hb ho3))
 go_loopg [3, 9] k (fun kq v3 v9 w' => ∃ (qbg : List ByteArray) (qcE : Int), v9 = .int .i64 qcE ∧ qag (qaE.l0 kq qbg l0 (l0.length : Int) qcE = some r) ∧ qag (kq ≤ k) ∧ qag (Kd.R Kd.string 9 w' w.heap.size (fun _ => True) v3 qbg) ∧ qag (Below w.heap.size w w'))
 case atStart => exact ⟨(qeS), (0), qav, H', ⟨Nat.le_refl _⟩, ⟨qpM⟩, ⟨qam⟩⟩
 case round =>
  clear H'; obtain ⟨qbg, qcE, rfl, HA, HK1, qdr, HB⟩ := hrel
  cases gk with
  | zero => exact absurd HA.out (by simp [qaE.l0])
  | succ k1 =>
   have H := HA.out; clear HA; simp only [qaE.l0] at H; by_cases c4 : qcE < (l0.length : Int); rotate_left
   ·rw [if_neg c4] at H; have qfx : decide (qcE < (l0.length : Int)) = false := decide_eq_false c4; clear c4; by_cases c19 : (qbg.length : Int) = 0
    ·rw [if_pos c19] at H; have c19b0 : ((qbg.length : Int) == 0) = true := beq_iff_eq.mpr c19; have c19b1 : ((qbg.length : Int) != 0) = false := bne_eq_false_iff_eq.mpr c19; clear c19; obtain rfl := Option.some.inj H; obtain ⟨Ao20, co20, eo20⟩ := Kd.qaJ qdr.out; subst eo20; go_wp2
     go_ret
     exact ⟨qce, qam⟩
    rw [if_neg c19] at H; have c19b0 : ((qbg.length : Int) == 0) = false := beq_eq_false_iff_ne.mpr c19; have c19b1 : ((qbg.length : Int) != 0) = true := bne_iff_ne.mpr c19
    have c19b2 : ¬ (qbg = []) := fun h_ => c19 (by rw [h_]; rfl)
    obtain ⟨qlG, A21, H⟩ := qaw H; (try dsimp only at H); obtain rfl := Option.some.inj H; obtain ⟨Ao22, co22, eo22⟩ := Kd.qaJ qdr.out; subst eo22
    go_wp2_with (first | (refine gl_ 29 Tryz.func88 #[.slice Ao22 qbg.length co22, .string (⟨#[44]⟩ : ByteArray)] rfl qbK ?_; (with_reducible refine (strings_Join.calls _ _ qbg (⟨#[44]⟩ : ByteArray) qlG _ ?qay ?qaz A21.out).mono ?_); (case qay => exact k41_); (case qaz => exact (Kd.R_reads' qdr.out).2.1); rintro e w23 ⟨rfl, hb⟩; refine ⟨_, rfl, ?_⟩; replace qdr := qdr.mw hb; replace HB := HB.mw hb; (try clear hb)))
    go_ret
    exact ⟨qce, qam⟩
   rw [if_pos c4] at H; have qfx : decide (qcE < (l0.length : Int)) = true := decide_eq_true c4; clear c4; by_cases c5 : 0 ≤ qcE; rotate_left
   ·rw [if_neg c5] at H; exact absurd H (by simp)
   rw [if_pos c5] at H; have qgH : decide (0 ≤ qcE) = true := decide_eq_true c5; clear c5; by_cases c6 : qcE < (l0.length : Int); rotate_left
   ·rw [if_neg c6] at H; exact absurd H (by simp)
   rw [if_pos c6] at H; have qfY : decide (qcE < (l0.length : Int)) = true := decide_eq_true c6; clear c6; obtain ⟨qfw, A7, H⟩ := qaw H; (try dsimp only at H); by_cases c8 : qfw.size + 1 ≤ 9223372036854775807; rotate_left
   ·rw [if_neg c8] at H; exact absurd H (by simp)
   rw [if_pos c8] at H; have qnK := eq_true c8; have c8b1 : decide (qfw.size + 1 ≤ 9223372036854775807) = true := decide_eq_true c8
   try have c8b2 : (9223372036854775807 < qfw.size + 1) = False := eq_false (Nat.not_lt.2 c8)
   obtain ⟨t107, A9, H⟩ := qaw H; (try dsimp only at H); by_cases c10 : (qfw ++ (⟨#[58]⟩ : ByteArray)).size + t107.size ≤ 9223372036854775807; rotate_left
   ·rw [if_neg c10] at H; exact absurd H (by simp)
   rw [if_pos c10] at H; have qgC := eq_true c10; have c10b1 : decide ((qfw ++ (⟨#[58]⟩ : ByteArray)).size + t107.size ≤ 9223372036854775807) = true := decide_eq_true c10
   try have c10b2 : (9223372036854775807 < (qfw ++ (⟨#[58]⟩ : ByteArray)).size + t107.size) = False := eq_false (Nat.not_lt.2 c10)
   have c10b3 := c10b2; simp only [ByteArray.size_append, show (⟨#[44]⟩ : ByteArray).size = 1 from rfl, show (⟨#[47]⟩ : ByteArray).size = 1 from rfl, show (⟨#[58]⟩ : ByteArray).size = 1 from rfl] at c10b3; by_cases c11 : qbg.length < 8796093022208; rotate_left
   ·rw [if_neg c11] at H; exact absurd H (by simp)
   rw [if_pos c11] at H; have qnT := ak_ c11; clear c11
   obtain ⟨qir, hy_⟩ : ∃ y_ : List ByteArray, y_ = (qbg ++ [(qfw ++ (⟨#[58]⟩ : ByteArray)) ++ t107]) := ⟨_, rfl⟩
   replace H : (qaE.l0 k1 qir l0 (l0.length : Int) (wrap64 (qcE + 1))) = some r := qe6; have qnX := ak_ hy_; clear hy_; have H' := ak_ H; clear H; have qhc : 0 ≤ (qcE : Int) := of_decide_eq_true qaU; have qhd : qcE < (l0.length : Int) := of_decide_eq_true qaU; obtain ⟨qhP, qmU, qdW, qia⟩ := qdV HR0.out qcE qhc qhd
   cases qmU
   replace qdW := (HB.out.cell (World.block_lt_of_cell? w _ qdW)).trans qdW; replace qia := (HB.out.cell (World.block_lt_of_cell? w _ qia)).trans qia; replace qhc := eq_true qhc; replace qhd := eq_true qhd
   try go_wp2_with (first | ((with_reducible refine qak (N := 5) rfl ?_); refine bx_ 5 rfl (cs := #[.int .i64 0, .int .i64 0]) (t := 85) qbb ?_; intro qiC hg w12 hbox hb; replace qdr := qdr.mw hb; have qfN := ak_ (hbox); have GW105 := ak_ (HB.ge hg); have GE105 := ak_ (HB.ge hg); replace HB := HB.mw hb; clear hb hbox hg; obtain ⟨ql3, ql4, ql5, ql6⟩ := qbG qfN.out))
   have n0_ : qag (Kd.R Kd.string 9 ((w12.setCell ⟨qiC, 0, none⟩ (.int .i64 ((qae l0 qcE).f0))).setCell ⟨qiC, 1, none⟩ (.int .i64 ((qae l0 qcE).f1))) w.heap.size (fun _ => True) u3 qbg) := ⟨by (with_reducible repeat (first | apply Kd.qaq | apply Kd.qar | apply Kd.qaC)); exact Kd.qa8 (Kd.qc7 (p := ⟨qiC, 1, none⟩) (Kd.qc7 (p := ⟨qiC, 0, none⟩) (Kd.qcH qdr.out qfN.out (by decide)) (fun _ hk => hk.2) (.int .i64 ((qae l0 qcE).f0))) (fun _ hk => hk.2) (.int .i64 ((qae l0 qcE).f1))) (fun _ hk => trivial)⟩
   have n1_ : qag (((w12.setCell ⟨qiC, 0, none⟩ (.int .i64 ((qae l0 qcE).f0))).setCell ⟨qiC, 1, none⟩ (.int .i64 ((qae l0 qcE).f1))).heap[qiC]? = some (.cells #[.int .i64 ((qae l0 qcE).f0), .int .i64 ((qae l0 qcE).f1)] 85 (0, 0))) := ⟨by (with_reducible repeat (first | refine qal ?_ _ | refine qan ?_ | refine qaj ?_ _)); refine qbp (cs := #[.int .i64 ((qae l0 qcE).f0), .int .i64 0]) ?_ 1 _ rfl; (with_reducible repeat (first | refine qal ?_ _ | refine qan ?_ | refine qaj ?_ _)); refine qbp (cs := #[.int .i64 0, .int .i64 0]) ?_ 0 _ rfl; apply_rules only [qfN.out, qal, qan, qaj]⟩
   have n2_ : qag (Below w.heap.size w ((w12.setCell ⟨qiC, 0, none⟩ (.int .i64 ((qae l0 qcE).f0))).setCell ⟨qiC, 1, none⟩ (.int .i64 ((qae l0 qcE).f1)))) := ⟨k75_⟩
   (try clear qdr); (try clear qfN); (try clear HB)
   generalize ((w12.setCell ⟨qiC, 0, none⟩ (.int .i64 ((qae l0 qcE).f0))).setCell ⟨qiC, 1, none⟩ (.int .i64 ((qae l0 qcE).f1))) = w14 at n0_ n1_ n2_ ⊢
   have qdr := n0_; have qfN := n1_; have HB := n2_; clear n0_ n1_ n2_; replace qdr := ak_ (Kd.qaC qdr.out); replace qfN := ak_ (qan qfN.out); replace HB := ak_ (qah HB.out); refine qeQ (n := 12) (S := fun w' => w'.cell? ⟨qiC, 0, none⟩ = some (.int .i64 ((qae l0 qcE).f0)) ∧ w'.cell? ⟨qiC, 1, none⟩ = some (.int .i64 ((qae l0 qcE).f1))) (ds := []) (rA_ [0, 12]) (by kernel_rfl) rfl rfl ⟨qed qfN.out, qbB qfN.out⟩ (fun hHeld => ?_); refine qdp qaE.tab5 qaE.bits5 (fun HT_ HW_ => ?_)
   generalize w14.drew = w15 at qdr qfN HB hHeld ⊢
   refine pu_ 0 13 [1, 11] ?_; refine pu_ 1 14 [2, 10] ?_; refine pu_ 5 18 [2, 3, 1, 6] ?_; refine qip 2 15 [3, 2, 1, 6] ?_; refine qip 6 19 [3, 2, 2, 5] ?_; refine qfA (i := 3) (N := some 16) (rA_ [4, 1, 2, 5]) rfl rfl (qc5 HT_.out (by kernel_rfl)) (by decide) (fun K hK => ?_); refine qfz Tryz.func87 (by kernel_rfl) rfl #[.int .i64 ((qae l0 qcE).f0)] (by rfl) rfl rfl qbK ?_
   with_reducible refine (strconv_Itoa.calls ((qae l0 qcE).f0) qfw _ A7.out).mono ?_
   rintro e w16 ⟨rfl, hb⟩; refine ⟨_, rfl, ?_⟩; replace qdr := qdr.mw hb; replace qfN := qfN.mw hb; replace HB := ak_ (qaa k75_ hb); (try clear hb); (try clear hb2); (try clear hk); (try clear hi); refine hK.out _ _ ⟨qed qfN.out, qbB qfN.out⟩ (fun hHeld => ?_); clear hK K; refine nm_ 16 ?_; refine pu_ 4 17 [7, 5] ?_; refine qfA (i := 7) (N := some 20) (rA_ [8, 4]) rfl rfl (qc5 HT_.out (by kernel_rfl)) (by decide) (fun K hK => ?_); refine qfz Tryz.func87 (by kernel_rfl) rfl #[.int .i64 ((qae l0 qcE).f1)] (by rfl) rfl rfl qbK ?_
   with_reducible refine (strconv_Itoa.calls ((qae l0 qcE).f1) t107 _ A9.out).mono ?_
   rintro e w17 ⟨rfl, hb⟩; refine ⟨_, rfl, ?_⟩; replace qdr := qdr.mw hb; replace qfN := qfN.mw hb; replace HB := ak_ (qaa k75_ hb); (try clear hb); (try clear hb2); (try clear hk); (try clear hi); refine hK.out _ _ ⟨qed qfN.out, qbB qfN.out⟩ (fun hHeld => ?_); clear hK K; refine nm_ 20 ?_; refine pu_ 8 21 [9, 3] ?_; refine qfA (i := 9) (N := some 22) (rA_ [10, 2]) rfl rfl (qc5 HT_.out (by kernel_rfl)) (by decide) (fun K hK => ?_); refine qiK (w1 := ?_) (v := ?_) (by rfl) rfl ?_ ?_; rotate_left 2
   ·go_simp; constructor
    ·rfl
    rfl
   refine hK.out _ _ ⟨(qa7 (qaj qfN.out _) 0).trans rfl, (qa7 (qaj qfN.out _) 1).trans rfl⟩ (fun hHeld => ?_); clear hK K; refine nm_ 22 ?_; refine qfA (i := 10) (N := some 23) (rA_ [11, 1]) rfl rfl (qc5 HT_.out (by kernel_rfl)) (by decide) (fun K hK => ?_); refine Kd.qeT Kd.string (w0 := w) w.heap.size (by rfl) (.tmp 13) (.tmp 22) 43 9 (.string ⟨#[]⟩) 16 rfl Tryz.underlying43 ql7 rfl (by decide) (by omega) u3 qbg ((qfw ++ (⟨#[58]⟩ : ByteArray)) ++ t107) [.string ((qfw ++ (⟨#[58]⟩ : ByteArray)) ++ t107)] (fun _ => True) (fun _ => False) rfl rfl ?aP (fun _ hk => hk.elim) ?aF ?aO ?aB ?aS ?aL ?_
   (case aP => exact rfl)
   (case aB => exact k75_)
   (case aF => exact (fun _ _ => trivial))
   (case aO => exact qhQ)
   (case aS => exact (qab k75_))
   (case aL => have := qnT.out; omega)
   intro v109 w18 ho hb hg hat; rw [← qnX.out] at ho; replace qfN := ak_ (qev (g := qiC) (o := .cells #[.int .i64 ((qae l0 qcE).f0), .int .i64 ((qae l0 qcE).f1)] 85 (0, 0)) (by apply_rules only [qfN.out, qal, qan, qaj]) hg (Kd.R_ne qdr.out qfN.out (by decide))); replace HB := ak_ (hb); have qmA := ak_ (ho); clear qdr; clear ho hb hg hat; refine hK.out _ _ ⟨qed qfN.out, qbB qfN.out⟩ (fun hHeld => ?_); clear hK K; refine nm_ 23 ?_; refine pu_ 11 3 [12] ?_; refine qf4 (qeC HT_.out (by kernel_rfl)) ?_
   try go_wp2
   go_roundg k1
   case measure => have := HK1.out; omega
   case rel => exact ⟨(qir), (wrap64 (qcE + 1)), qav, H', ⟨qc9⟩, ⟨by apply_rules only [qmA.out, Kd.qaq, Kd.qar, Kd.qaC]⟩, ⟨k75_⟩⟩
def qoM : Go.Shelf.Ren := ⟨fun | 160 => 196 | 232 => 229 | 231 => 228 | 227 => 230 | 234 => 232 | 233 => 231 | 236 => 234 | 235 => 233 | 228 => 254 | 271 => 256 | 151 => 255 | 197 => 218 | 120 => 276 | 152 => 275 | 260 => 248 | 137 => 285 | 119 => 286 | 224 => 178 | 225 => 177 | 217 => 176 | 266 => 215 | n => n, fun | 9 => 9 | 4 => 4 | 3 => 3 | 5 => 5 | 117 => 194 | 116 => 193 | 0 => 0 | 124 => 197 | 21 => 21 | 105 => 182 | 46 => 165 | 119 => 221 | 139 => 224 | 138 => 223 | n => n, fun | 3 => 4 | 4 => 5 | n => n⟩
theorem lays160 : Go.Proofs.Lays.n160 Tryz.prog qoM := {
  mixed := by kernel_rfl
  f119 := Tryz.func286.trans (congrArg some (by kernel_rfl))
  f120 := Tryz.func276.trans (congrArg some (by kernel_rfl))
  f137 := Tryz.func285.trans (congrArg some (by kernel_rfl))
  f151 := Tryz.func255.trans (congrArg some (by kernel_rfl))
  f152 := Tryz.func275.trans (congrArg some (by kernel_rfl))
  f160 := Tryz.func196.trans (congrArg some (by kernel_rfl))
  f197 := Tryz.func218.trans (congrArg some (by kernel_rfl))
  f217 := Tryz.func176.trans (congrArg some (by kernel_rfl))
  f224 := Tryz.func178.trans (congrArg some (by kernel_rfl))
  f225 := Tryz.func177.trans (congrArg some (by kernel_rfl))
  f227 := Tryz.func230.trans (congrArg some (by kernel_rfl))
  f228 := Tryz.func254.trans (congrArg some (by kernel_rfl))
  f231 := Tryz.func228.trans (congrArg some (by kernel_rfl))
  f232 := Tryz.func229.trans (congrArg some (by kernel_rfl))
  f233 := Tryz.func231.trans (congrArg some (by kernel_rfl))
  f234 := Tryz.func232.trans (congrArg some (by kernel_rfl))
  f235 := Tryz.func233.trans (congrArg some (by kernel_rfl))
  f236 := Tryz.func234.trans (congrArg some (by kernel_rfl))
  f260 := Tryz.func248.trans (congrArg some (by kernel_rfl))
  f266 := Tryz.func215.trans (congrArg some (by kernel_rfl))
  f271 := Tryz.func256.trans (congrArg some (by kernel_rfl))
  t0 := Tryz.underlying0
  a0 := Tryz.isAgg0
  z0 := Tryz.sizeOf0
  v0 := Tryz.zeroValue0
  t3 := Tryz.underlying3
  a3 := Tryz.isAgg3
  z3 := Tryz.sizeOf3
  v3 := Tryz.zeroValue3
  t4 := Tryz.underlying4
  a4 := Tryz.isAgg4
  z4 := Tryz.sizeOf4
  v4 := Tryz.zeroValue4
  t5 := Tryz.underlying5
  a5 := Tryz.isAgg5
  z5 := Tryz.sizeOf5
  v5 := Tryz.zeroValue5
  t9 := Tryz.underlying9
  a9 := Tryz.isAgg9
  z9 := Tryz.sizeOf9
  v9 := Tryz.zeroValue9
  t21 := Tryz.underlying21
  a21 := Tryz.isAgg21
  z21 := Tryz.sizeOf21
  v21 := Tryz.zeroValue21
  t46 := Tryz.underlying165
  a46 := Tryz.isAgg165
  z46 := Tryz.sizeOf165
  v46 := Tryz.zeroValue165
  t105 := Tryz.underlying182
  a105 := Tryz.isAgg182
  z105 := Tryz.sizeOf182
  v105 := Tryz.zeroValue182
  t116 := Tryz.underlying193
  a116 := Tryz.isAgg193
  z116 := Tryz.sizeOf193
  t117 := Tryz.underlying194
  a117 := Tryz.isAgg194
  z117 := Tryz.sizeOf194
  v117 := Tryz.zeroValue194
  t119 := Tryz.underlying221
  a119 := Tryz.isAgg221
  z119 := Tryz.sizeOf221
  t124 := Tryz.underlying197
  a124 := Tryz.isAgg197
  z124 := Tryz.sizeOf197
  v124 := Tryz.zeroValue197
  t138 := Tryz.underlying223
  a138 := Tryz.isAgg223
  z138 := Tryz.sizeOf223
  v138 := Tryz.zeroValue223
  t139 := Tryz.underlying224
  a139 := Tryz.isAgg224
  z139 := Tryz.sizeOf224
  v139 := Tryz.zeroValue224
  g3 := by kernel_rfl
  g4 := by kernel_rfl }
def qdQ.f (a0 a1 : ByteArray) : Option ByteArray := if a0.size ≤ 9223372036854775807 ∧ a1 = (⟨#[111, 120, 63]⟩ : ByteArray) then some ⟨(Lib.trimS a0.data.toList [111, 120, 63]).toArray⟩ else none
theorem qdQ.calls (a0 : ByteArray) (a1 : ByteArray) (r : ByteArray) (w : World) (h : qdQ.f a0 a1 = some r) :
    Calls Tryz.prog 196 #[.string a0, .string a1] w fun e w' => e = .returned (.string r) ∧ Below w.heap.size w w' := by
  unfold qdQ.f at h; by_cases hc : a0.size ≤ 9223372036854775807 ∧ a1 = (⟨#[111, 120, 63]⟩ : ByteArray)
  ·rw [if_pos hc] at h; obtain rfl := Option.some.inj h; obtain ⟨hs, rfl⟩ := hc; exact Any.strings_Trim_laid lays160 (by kernel_rfl) a0 ⟨#[111, 120, 63]⟩ w hs (by decide) (ascii_of_all (by decide))
  rw [if_neg hc] at h; exact absurd h (by simp)
def qcA.f (qbL : ByteArray) (qcx : Int) : Option (Bool) := if (qbL.size : Int) ≥ 1 then (if (qbL.size : Int) ≤ 48 then ((qdQ.f qbL (⟨#[111, 120, 63]⟩ : ByteArray)).bind fun qaI => (if qaI.toList = ([] : List UInt8) then (if qcx ≥ 0 then (some (decide (qcx ≤ 3))) else (some false)) else (some false))) else (some false)) else (some false)
theorem qcA.calls (qbL : ByteArray) (qcx : Int) (r : Bool) (w : World) (h : qcA.f qbL qcx = some r) :
  Calls Tryz.prog 134 #[.agg #[.string qbL, .int .i64 qcx]] w fun e w' => e = .returned (.bool r) ∧ Below w.heap.size w w' := by
 have hu99 := Tryz.underlying99; have HB := ak_ (Below.refl w.heap.size w); have H : (if (qbL.size : Int) ≥ 1 then (if (qbL.size : Int) ≤ 48 then ((qdQ.f qbL (⟨#[111, 120, 63]⟩ : ByteArray)).bind fun qaI => (if qaI.toList = ([] : List UInt8) then (if qcx ≥ 0 then (some (decide (qcx ≤ 3))) else (some false)) else (some false))) else (some false)) else (some false)) = some r := h; clear h; by_cases c2 : (qbL.size : Int) ≥ 1; rotate_left
 ·rw [if_neg c2] at H; have qfe : decide (1 ≤ (qbL.size : Int)) = false := decide_eq_false c2; have qmJ : decide (1 ≤ qbL.size) = false := decide_eq_false (by omega); clear c2; obtain rfl := Option.some.inj H; go_enter Tryz.func134, Tryz.ntmps134
  go_wp2_with (first | ((with_reducible refine qak (N := 1) rfl ?_); refine bx_ 1 rfl (cs := #[.string qbL, .int .i64 qcx]) (t := 99) qbb ?_; intro qb8 hg w20 hbox hb; have qaF := ak_ (hbox); have qeJ := ak_ (HB.ge hg); have qen := ak_ (HB.ge hg); replace HB := HB.mw hb; clear hb hbox hg; obtain ⟨hcz21_0, hcz21_1, hfz21_0, hfz21_1⟩ := qbG qaF.out))
  go_ret
  exact ⟨qce, qdt⟩
 rw [if_pos c2] at H; have qfe : decide (1 ≤ (qbL.size : Int)) = true := decide_eq_true c2; have qmJ : decide (1 ≤ qbL.size) = true := decide_eq_true (by omega); clear c2; by_cases c3 : (qbL.size : Int) ≤ 48; rotate_left
 ·rw [if_neg c3] at H; have qff : decide ((qbL.size : Int) ≤ 48) = false := decide_eq_false c3; have qlV : decide (qbL.size ≤ 48) = false := decide_eq_false (by omega); clear c3; obtain rfl := Option.some.inj H; go_enter Tryz.func134, Tryz.ntmps134
  go_wp2_with (first | ((with_reducible refine qak (N := 1) rfl ?_); refine bx_ 1 rfl (cs := #[.string qbL, .int .i64 qcx]) (t := 99) qbb ?_; intro qb8 hg w18 hbox hb; have qaF := ak_ (hbox); have qeJ := ak_ (HB.ge hg); have qen := ak_ (HB.ge hg); replace HB := HB.mw hb; clear hb hbox hg; obtain ⟨hcz19_0, hcz19_1, hfz19_0, hfz19_1⟩ := qbG qaF.out))
  go_ret
  exact ⟨qce, qdt⟩
 rw [if_pos c3] at H; have qff : decide ((qbL.size : Int) ≤ 48) = true := decide_eq_true c3; have qlV : decide (qbL.size ≤ 48) = true := decide_eq_true (by omega); clear c3; obtain ⟨qaI, A4, H⟩ := qaw H; (try dsimp only at H); by_cases c5 : qaI.toList = ([] : List UInt8); rotate_left
 ·rw [if_neg c5] at H; have qgH : (qaI.toList == ([] : List UInt8)) = false := beq_eq_false_iff_ne.mpr c5; have c5b1 : (qaI.toList != ([] : List UInt8)) = true := bne_iff_ne.mpr c5; obtain rfl := Option.some.inj H; go_enter Tryz.func134, Tryz.ntmps134
  go_wp2_with (first | ((with_reducible refine qak (N := 1) rfl ?_); refine bx_ 1 rfl (cs := #[.string qbL, .int .i64 qcx]) (t := 99) qbb ?_; intro qb8 hg w15 hbox hb; have qaF := ak_ (hbox); have qeJ := ak_ (HB.ge hg); have qen := ak_ (HB.ge hg); replace HB := HB.mw hb; clear hb hbox hg; obtain ⟨qrI, qrJ, qrQ, qrR⟩ := qbG qaF.out) | (go_at_call 196; (with_reducible refine (qdQ.calls qbL (⟨#[111, 120, 63]⟩ : ByteArray) qaI _ A4.out).mono ?_); rintro e w17 ⟨rfl, hb⟩; replace qaF := qaF.mw hb; replace HB := ak_ (qaa qdt hb); (try clear hb)))
  go_ret
  exact ⟨qce, qdt⟩
 rw [if_pos c5] at H; have qgH : (qaI.toList == ([] : List UInt8)) = true := beq_iff_eq.mpr c5; have c5b1 : (qaI.toList != ([] : List UInt8)) = false := bne_eq_false_iff_eq.mpr c5; clear c5; by_cases c6 : qcx ≥ 0
 ·rw [if_pos c6] at H; have qfY : decide (0 ≤ qcx) = true := decide_eq_true c6; clear c6; obtain rfl := Option.some.inj H; go_enter Tryz.func134, Tryz.ntmps134
  go_wp2_with (first | ((with_reducible refine qak (N := 1) rfl ?_); refine bx_ 1 rfl (cs := #[.string qbL, .int .i64 qcx]) (t := 99) qbb ?_; intro qb8 hg w7 hbox hb; have qaF := ak_ (hbox); have qeJ := ak_ (HB.ge hg); have qen := ak_ (HB.ge hg); replace HB := HB.mw hb; clear hb hbox hg; obtain ⟨qm6, qm7, qna, qnb⟩ := qbG qaF.out) | (go_at_call 196; (with_reducible refine (qdQ.calls qbL (⟨#[111, 120, 63]⟩ : ByteArray) qaI _ A4.out).mono ?_); rintro e w9 ⟨rfl, hb⟩; replace qaF := qaF.mw hb; replace HB := ak_ (qaa qdt hb); (try clear hb); obtain ⟨qom, qon, qos, qot⟩ := qbG qaF.out))
  go_ret
  exact ⟨qce, qdt⟩
 rw [if_neg c6] at H; have qfY : decide (0 ≤ qcx) = false := decide_eq_false c6; clear c6; obtain rfl := Option.some.inj H; go_enter Tryz.func134, Tryz.ntmps134
 go_wp2_with (first | ((with_reducible refine qak (N := 1) rfl ?_); refine bx_ 1 rfl (cs := #[.string qbL, .int .i64 qcx]) (t := 99) qbb ?_; intro qb8 hg w11 hbox hb; have qaF := ak_ (hbox); have qeJ := ak_ (HB.ge hg); have qen := ak_ (HB.ge hg); replace HB := HB.mw hb; clear hb hbox hg; obtain ⟨qoo, qop, qou, qov⟩ := qbG qaF.out) | (go_at_call 196; (with_reducible refine (qdQ.calls qbL (⟨#[111, 120, 63]⟩ : ByteArray) qaI _ A4.out).mono ?_); rintro e w13 ⟨rfl, hb⟩; replace qaF := qaF.mw hb; replace HB := ak_ (qaa qdt hb); (try clear hb); obtain ⟨hcz14_0, hcz14_1, hfz14_0, hfz14_1⟩ := qbG qaF.out))
 go_ret
 exact ⟨qce, qdt⟩
def qbJ.f (qbL : ByteArray) (qcx : Int) : Option (ByteArray) := if qbL.size + 1 ≤ 9223372036854775807 then ((strconv_Itoa.f qcx).bind fun qaI => (if (qbL ++ (⟨#[58]⟩ : ByteArray)).size + qaI.size ≤ 9223372036854775807 then (some ((qbL ++ (⟨#[58]⟩ : ByteArray)) ++ qaI)) else (none))) else (none)
def qbJ.T1 : Bool × List (List Nat × List Nat) := (true, [([], []), ([0], [0]), ([1], [1]), ([], []), ([3], [3]), ([4], [4]), ([2, 5], [2, 5]), ([6, 5, 0, 1, 2, 3, 4, 5, 6], [6])])
def qbJ.B1 : List Nat := [0, 1, 3, 0, 8, 24, 63, 127]
theorem qbJ.tab1 : qhK .any (opsOf Tryz.f135 1) = qbJ.T1 := by kernel_rfl
theorem qbJ.bits1 : qeR qbJ.T1.2 qbJ.B1 = true := by kernel_rfl
theorem qbJ.calls (qbL : ByteArray) (qcx : Int) (r : ByteArray) (w : World) (h : qbJ.f qbL qcx = some r) :
  Calls Tryz.prog 135 #[.agg #[.string qbL, .int .i64 qcx]] w fun e w' => e = .returned (.string r) ∧ Below w.heap.size w w' := by
 have hu99 := Tryz.underlying99; have HB := ak_ (Below.refl w.heap.size w); have H : (if qbL.size + 1 ≤ 9223372036854775807 then ((strconv_Itoa.f qcx).bind fun qaI => (if (qbL ++ (⟨#[58]⟩ : ByteArray)).size + qaI.size ≤ 9223372036854775807 then (some ((qbL ++ (⟨#[58]⟩ : ByteArray)) ++ qaI)) else (none))) else (none)) = some r := h; clear h; by_cases c2 : qbL.size + 1 ≤ 9223372036854775807; rotate_left
 ·rw [if_neg c2] at H; exact absurd H (by simp)
 rw [if_pos c2] at H; have qfe := eq_true c2; have qmJ : decide (qbL.size + 1 ≤ 9223372036854775807) = true := decide_eq_true c2
 try have c2b2 : (9223372036854775807 < qbL.size + 1) = False := eq_false (Nat.not_lt.2 c2)
 obtain ⟨qaI, A3, H⟩ := qaw H; (try dsimp only at H); by_cases c4 : (qbL ++ (⟨#[58]⟩ : ByteArray)).size + qaI.size ≤ 9223372036854775807; rotate_left
 ·rw [if_neg c4] at H; exact absurd H (by simp)
 rw [if_pos c4] at H; have qfx := eq_true c4; have qlW : decide ((qbL ++ (⟨#[58]⟩ : ByteArray)).size + qaI.size ≤ 9223372036854775807) = true := decide_eq_true c4
 try have c4b2 : (9223372036854775807 < (qbL ++ (⟨#[58]⟩ : ByteArray)).size + qaI.size) = False := eq_false (Nat.not_lt.2 c4)
 have c4b3 : (9223372036854775807 < qbL.size + 1 + qaI.size) = False := by have e_ : (qbL ++ (⟨#[58]⟩ : ByteArray)).size = qbL.size + 1 := (ByteArray.size_append).trans rfl; rw [← e_]; exact c4b2
 obtain rfl := Option.some.inj H; go_enter Tryz.func135, Tryz.ntmps135
 try go_wp2_with (first | ((with_reducible refine qak (N := 1) rfl ?_); refine bx_ 1 rfl (cs := #[.string qbL, .int .i64 qcx]) (t := 99) qbb ?_; intro qb8 hg w5 hbox hb; have qaF := ak_ (hbox); have qeJ := ak_ (HB.ge hg); have qen := ak_ (HB.ge hg); replace HB := HB.mw hb; clear hb hbox hg))
 replace qaF := ak_ (qan qaF.out); replace HB := ak_ (qah HB.out); refine qeQ (n := 8) (S := fun w' => w'.cell? ⟨qb8, 0, none⟩ = some (.string qbL) ∧ w'.cell? ⟨qb8, 1, none⟩ = some (.int .i64 qcx)) (ds := []) (rA_ [0, 8]) (by kernel_rfl) rfl rfl ⟨qed qaF.out, qbB qaF.out⟩ (fun hHeld => ?_); refine qdp qbJ.tab1 qbJ.bits1 (fun HT_ HW_ => ?_)
 generalize w5.drew = w6 at qaF HB hHeld ⊢
 refine pu_ 0 3 [1, 7] ?_; refine pu_ 3 6 [1, 2, 1, 4] ?_; refine qip 1 4 [2, 1, 1, 4] ?_; refine pu_ 2 5 [4, 4] ?_; refine qip 4 7 [5, 3] ?_; refine qfA (i := 5) (N := some 8) (rA_ [6, 2]) rfl rfl (qc5 HT_.out (by kernel_rfl)) (by decide) (fun K hK => ?_); refine qfz Tryz.func87 (by kernel_rfl) rfl #[.int .i64 qcx] (by rfl) rfl rfl qbK ?_
 with_reducible refine (strconv_Itoa.calls qcx qaI _ A3.out).mono ?_
 rintro e w7 ⟨rfl, hb⟩; refine ⟨_, rfl, ?_⟩; replace qaF := qaF.mw hb; replace HB := ak_ (qaa qdt hb); (try clear hb); (try clear hb2); (try clear hk); (try clear hi); refine hK.out _ _ ⟨qed qaF.out, qbB qaF.out⟩ (fun hHeld => ?_); clear hK K; refine nm_ 8 ?_; refine pu_ 6 9 [7, 1] ?_; refine pu_ 7 2 [8] ?_; refine qf4 (qeC HT_.out (by kernel_rfl)) ?_
 try go_wp2
 go_ret
 exact ⟨qce, qdt⟩
def qkk : Go.Shelf.Ren := ⟨fun | 145 => 90 | 220 => 150 | 219 => 120 | 217 => 176 | 225 => 177 | 224 => 178 | 267 => 179 | 266 => 215 | 314 => 216 | n => n, fun | 9 => 9 | 4 => 4 | 59 => 113 | 3 => 3 | 5 => 5 | 46 => 165 | 146 => 180 | 51 => 179 | n => n, fun | 1 => 0 | n => n⟩
theorem qsj : Go.Proofs.Lays.n145 Tryz.prog qkk := {
  mixed := by kernel_rfl
  f145 := Tryz.func90.trans (congrArg some (by kernel_rfl))
  f217 := Tryz.func176.trans (congrArg some (by kernel_rfl))
  f219 := Tryz.func120.trans (congrArg some (by kernel_rfl))
  f220 := Tryz.func150.trans (congrArg some (by kernel_rfl))
  f224 := Tryz.func178.trans (congrArg some (by kernel_rfl))
  f225 := Tryz.func177.trans (congrArg some (by kernel_rfl))
  f266 := Tryz.func215.trans (congrArg some (by kernel_rfl))
  f267 := Tryz.func179.trans (congrArg some (by kernel_rfl))
  f314 := Tryz.func216.trans (congrArg some (by kernel_rfl))
  t3 := Tryz.underlying3
  a3 := Tryz.isAgg3
  z3 := Tryz.sizeOf3
  v3 := Tryz.zeroValue3
  t4 := Tryz.underlying4
  a4 := Tryz.isAgg4
  z4 := Tryz.sizeOf4
  v4 := Tryz.zeroValue4
  t5 := Tryz.underlying5
  a5 := Tryz.isAgg5
  z5 := Tryz.sizeOf5
  v5 := Tryz.zeroValue5
  t9 := Tryz.underlying9
  a9 := Tryz.isAgg9
  z9 := Tryz.sizeOf9
  v9 := Tryz.zeroValue9
  t46 := Tryz.underlying165
  a46 := Tryz.isAgg165
  z46 := Tryz.sizeOf165
  v46 := Tryz.zeroValue165
  t51 := Tryz.underlying179
  a51 := Tryz.isAgg179
  z51 := Tryz.sizeOf179
  v51 := Tryz.zeroValue179
  t59 := Tryz.underlying113
  a59 := Tryz.isAgg113
  z59 := Tryz.sizeOf113
  v59 := Tryz.zeroValue113
  t146 := Tryz.underlying180
  a146 := Tryz.isAgg180
  z146 := Tryz.sizeOf180
  v146 := Tryz.zeroValue180
  g1 := by kernel_rfl }
def qie : Go.Shelf.Ren := ⟨fun | 172 => 122 | 244 => 182 | 245 => 183 | 247 => 220 | 279 => 221 | 280 => 222 | 281 => 223 | 282 => 224 | 287 => 249 | 316 => 250 | 171 => 87 | 205 => 251 | 321 => 263 | 322 => 264 | 243 => 146 | 246 => 203 | 283 => 240 | 284 => 241 | 285 => 242 | 286 => 243 | 129 => 259 | 317 => 258 | 318 => 260 | 319 => 261 | 320 => 262 | 337 => 277 | 338 => 278 | n => n, fun | 9 => 9 | 3 => 3 | 75 => 137 | 76 => 138 | 4 => 4 | 5 => 5 | 167 => 184 | 37 => 35 | 0 => 0 | 85 => 185 | 2 => 2 | 168 => 187 | 53 => 68 | 175 => 209 | 46 => 165 | 210 => 212 | 127 => 176 | 145 => 228 | 143 => 226 | 21 => 21 | 171 => 200 | 173 => 203 | 212 => 219 | 51 => 179 | 20 => 20 | 213 => 220 | 232 => 246 | 233 => 247 | 80 => 72 | n => n, fun | 15 => 1 | 16 => 2 | 17 => 3 | 18 => 6 | 19 => 7 | n => n⟩
theorem qoN : Go.Proofs.LaysC.n172 Tryz.prog qie := {
  mixed := by kernel_rfl
  f129 := Tryz.func259.trans (congrArg some (by kernel_rfl))
  f171 := Tryz.func87.trans (congrArg some (by kernel_rfl))
  f172 := Tryz.func122.trans (congrArg some (by kernel_rfl))
  f205 := Tryz.func251.trans (congrArg some (by kernel_rfl))
  f243 := Tryz.func146.trans (congrArg some (by kernel_rfl))
  f244 := Tryz.func182.trans (congrArg some (by kernel_rfl))
  f245 := Tryz.func183.trans (congrArg some (by kernel_rfl))
  f246 := Tryz.func203.trans (congrArg some (by kernel_rfl))
  f247 := Tryz.func220.trans (congrArg some (by kernel_rfl))
  f279 := Tryz.func221.trans (congrArg some (by kernel_rfl))
  f280 := Tryz.func222.trans (congrArg some (by kernel_rfl))
  f281 := Tryz.func223.trans (congrArg some (by kernel_rfl))
  f282 := Tryz.func224.trans (congrArg some (by kernel_rfl))
  f283 := Tryz.func240.trans (congrArg some (by kernel_rfl))
  f284 := Tryz.func241.trans (congrArg some (by kernel_rfl))
  f285 := Tryz.func242.trans (congrArg some (by kernel_rfl))
  f286 := Tryz.func243.trans (congrArg some (by kernel_rfl))
  f287 := Tryz.func249.trans (congrArg some (by kernel_rfl))
  f316 := Tryz.func250.trans (congrArg some (by kernel_rfl))
  f317 := Tryz.func258.trans (congrArg some (by kernel_rfl))
  f318 := Tryz.func260.trans (congrArg some (by kernel_rfl))
  f319 := Tryz.func261.trans (congrArg some (by kernel_rfl))
  f320 := Tryz.func262.trans (congrArg some (by kernel_rfl))
  f321 := Tryz.func263.trans (congrArg some (by kernel_rfl))
  f322 := Tryz.func264.trans (congrArg some (by kernel_rfl))
  f337 := Tryz.func277.trans (congrArg some (by kernel_rfl))
  f338 := Tryz.func278.trans (congrArg some (by kernel_rfl))
  t0 := Tryz.underlying0
  a0 := Tryz.isAgg0
  z0 := Tryz.sizeOf0
  v0 := Tryz.zeroValue0
  t2 := Tryz.underlying2
  a2 := Tryz.isAgg2
  z2 := Tryz.sizeOf2
  v2 := Tryz.zeroValue2
  t3 := Tryz.underlying3
  a3 := Tryz.isAgg3
  z3 := Tryz.sizeOf3
  v3 := Tryz.zeroValue3
  t4 := Tryz.underlying4
  a4 := Tryz.isAgg4
  z4 := Tryz.sizeOf4
  v4 := Tryz.zeroValue4
  t5 := Tryz.underlying5
  a5 := Tryz.isAgg5
  z5 := Tryz.sizeOf5
  v5 := Tryz.zeroValue5
  t9 := Tryz.underlying9
  a9 := Tryz.isAgg9
  z9 := Tryz.sizeOf9
  v9 := Tryz.zeroValue9
  t20 := Tryz.underlying20
  a20 := Tryz.isAgg20
  z20 := Tryz.sizeOf20
  v20 := Tryz.zeroValue20
  t21 := Tryz.underlying21
  a21 := Tryz.isAgg21
  z21 := Tryz.sizeOf21
  v21 := Tryz.zeroValue21
  t37 := Tryz.underlying35
  a37 := Tryz.isAgg35
  z37 := Tryz.sizeOf35
  v37 := Tryz.zeroValue35
  t46 := Tryz.underlying165
  a46 := Tryz.isAgg165
  z46 := Tryz.sizeOf165
  v46 := Tryz.zeroValue165
  t51 := Tryz.underlying179
  a51 := Tryz.isAgg179
  z51 := Tryz.sizeOf179
  v51 := Tryz.zeroValue179
  t53 := Tryz.underlying68
  a53 := Tryz.isAgg68
  z53 := Tryz.sizeOf68
  v53 := Tryz.zeroValue68
  t75 := Tryz.underlying137
  a75 := Tryz.isAgg137
  z75 := Tryz.sizeOf137
  v75 := Tryz.zeroValue137
  t76 := Tryz.underlying138
  a76 := Tryz.isAgg138
  z76 := Tryz.sizeOf138
  v76 := Tryz.zeroValue138
  t85 := Tryz.underlying185
  a85 := Tryz.isAgg185
  z85 := Tryz.sizeOf185
  v85 := Tryz.zeroValue185
  t127 := Tryz.underlying176
  a127 := Tryz.isAgg176
  z127 := Tryz.sizeOf176
  v127 := Tryz.zeroValue176
  t143 := Tryz.underlying226
  a143 := Tryz.isAgg226
  z143 := Tryz.sizeOf226
  v143 := Tryz.zeroValue226
  t145 := Tryz.underlying228
  a145 := Tryz.isAgg228
  z145 := Tryz.sizeOf228
  v145 := Tryz.zeroValue228
  t167 := Tryz.underlying184
  a167 := Tryz.isAgg184
  z167 := Tryz.sizeOf184
  v167 := Tryz.zeroValue184
  t168 := Tryz.underlying187
  a168 := Tryz.isAgg187
  z168 := Tryz.sizeOf187
  v168 := Tryz.zeroValue187
  t171 := Tryz.underlying200
  a171 := Tryz.isAgg200
  z171 := Tryz.sizeOf200
  v171 := Tryz.zeroValue200
  t173 := Tryz.underlying203
  a173 := Tryz.isAgg203
  z173 := Tryz.sizeOf203
  v173 := Tryz.zeroValue203
  t175 := Tryz.underlying209
  a175 := Tryz.isAgg209
  z175 := Tryz.sizeOf209
  v175 := Tryz.zeroValue209
  t210 := Tryz.underlying212
  a210 := Tryz.isAgg212
  z210 := Tryz.sizeOf212
  v210 := Tryz.zeroValue212
  t212 := Tryz.underlying219
  a212 := Tryz.isAgg219
  z212 := Tryz.sizeOf219
  v212 := Tryz.zeroValue219
  t213 := Tryz.underlying220
  a213 := Tryz.isAgg220
  z213 := Tryz.sizeOf220
  t232 := Tryz.underlying246
  a232 := Tryz.isAgg246
  z232 := Tryz.sizeOf246
  v232 := Tryz.zeroValue246
  t233 := Tryz.underlying247
  a233 := Tryz.isAgg247
  z233 := Tryz.sizeOf247
  v233 := Tryz.zeroValue247
  g15 := by kernel_rfl
  g16 := by kernel_rfl
  g17 := by kernel_rfl
  g18 := by kernel_rfl
  g19 := by kernel_rfl
  t80 := Tryz.underlying72
  a80 := Tryz.isAgg72
  z80 := Tryz.sizeOf72
  v80 := Tryz.zeroValue72
  i0 := by kernel_rfl
  i2 := by kernel_rfl
  i3 := by kernel_rfl
  i4 := by kernel_rfl
  i5 := by kernel_rfl
  i9 := by kernel_rfl
  i20 := by kernel_rfl
  i21 := by kernel_rfl
  i37 := by kernel_rfl
  i46 := by kernel_rfl
  i51 := by kernel_rfl
  i53 := by kernel_rfl
  i75 := by kernel_rfl
  i76 := by kernel_rfl
  i80 := by kernel_rfl
  i85 := by kernel_rfl
  i127 := by kernel_rfl
  i143 := by kernel_rfl
  i145 := by kernel_rfl
  i167 := by kernel_rfl
  i168 := by kernel_rfl
  i171 := by kernel_rfl
  i173 := by kernel_rfl
  i175 := by kernel_rfl
  i210 := by kernel_rfl
  i212 := by kernel_rfl
  i232 := by kernel_rfl
  i233 := by kernel_rfl
  m15 := by kernel_rfl
  m16 := by kernel_rfl
  m17 := by kernel_rfl
  m18 := by kernel_rfl
  m19 := by kernel_rfl
  c0 := by kernel_rfl
  c2 := by kernel_rfl
  c3 := by kernel_rfl
  c4 := by kernel_rfl
  c5 := by kernel_rfl
  c9 := by kernel_rfl
  c20 := by kernel_rfl
  c21 := by kernel_rfl
  c37 := by kernel_rfl
  c46 := by kernel_rfl
  c51 := by kernel_rfl
  c53 := by kernel_rfl
  c75 := by kernel_rfl
  c76 := by kernel_rfl
  c80 := by kernel_rfl
  c85 := by kernel_rfl
  c127 := by kernel_rfl
  c143 := by kernel_rfl
  c145 := by kernel_rfl
  c167 := by kernel_rfl
  c168 := by kernel_rfl
  c171 := by kernel_rfl
  c173 := by kernel_rfl
  c175 := by kernel_rfl
  c210 := by kernel_rfl
  c212 := by kernel_rfl
  c213 := by kernel_rfl
  c232 := by kernel_rfl
  c233 := by kernel_rfl }
def qfj (w : World) : Prop := (∃ m : Int, w.cell? ⟨qkk.g 1, 0, none⟩ = some (.int .i64 m)) ∧ (∃ ev : Value, w.cell? ⟨qie.g 15, 0, none⟩ = some ev ∧ (ev = .nilIface ∨ ∃ te pe, ev = .iface te pe)) ∧ (∃ ev : Value, w.cell? ⟨qie.g 16, 0, none⟩ = some ev ∧ (ev = .nilIface ∨ ∃ te pe, ev = .iface te pe))
theorem qfj.below {w w' : World} (h : qfj w) (hb : Below w.heap.size w w') : qfj w' := by
  obtain ⟨⟨m, h1⟩, ⟨e1, h2, h3⟩, ⟨e2, h4, h5⟩⟩ := h; exact ⟨⟨m, (hb.cell (World.block_lt_of_cell? w _ h1)).trans h1⟩, ⟨e1, (hb.cell (World.block_lt_of_cell? w _ h2)).trans h2, h3⟩, ⟨e2, (hb.cell (World.block_lt_of_cell? w _ h4)).trans h4, h5⟩⟩
def qb9.f (a0 : ByteArray) : Option (ByteArray × Int × Bool) := if a0.size ≤ 1048576 then (match Lib.atoiAll (Lib.cut a0.data.toList [58]).2.1 with
  | .ok v => (qcA.f ⟨(Lib.cut a0.data.toList [58]).1.toArray⟩ v).bind fun t => if t = true then ((qbJ.f ⟨(Lib.cut a0.data.toList [58]).1.toArray⟩ v).bind fun txt => if txt.toList = a0.toList then some (⟨(Lib.cut a0.data.toList [58]).1.toArray⟩, v, true) else some ((⟨#[]⟩ : ByteArray), 0, false)) else some ((⟨#[]⟩ : ByteArray), 0, false)
  | _ => some ((⟨#[]⟩ : ByteArray), 0, false)) else none
theorem qod (s : List UInt8) (sep : List UInt8) : (Lib.cut s sep).2.1.length ≤ s.length := by
  unfold Lib.cut; split
  ·simp only [List.length_drop]; omega
  simp
theorem qfX (s : ByteArray) (w : World) (hs : s.size ≤ 281474976710656) (hG : qfj w) :
    Calls Tryz.prog 122 #[.string s] w fun e w' => ∃ (n : Int) (ev : Value), e = .returned (.tuple #[.int .i64 n, ev]) ∧ ((Lib.atoiAll s.data.toList = .ok n ∧ ev = .nilIface) ∨ ((∀ v, Lib.atoiAll s.data.toList ≠ .ok v) ∧ ∃ te pe, ev = .iface te pe)) ∧ Below w.heap.size w w' := by
  obtain ⟨-, ⟨e1, h2, h3⟩, ⟨e2, h4, h5⟩⟩ := hG
  cases h : Lib.atoiAll s.data.toList with
  | ok v =>
    refine (Any.strconv_Atoi_ok qoN s (by omega) v h w).mono ?_; rintro e w' ⟨rfl, hw⟩; refine ⟨v, .nilIface, rfl, .inl ⟨rfl, rfl⟩, ?_⟩
    rcases hw with rfl | ⟨t, rfl⟩
    ·exact Below.refl _ _
    exact Lib.bytesWorld_below _ _ _
  | range =>
    refine (Any.strconv_Atoi_range qoN s hs h e2 w h4 h5).mono ?_; rintro e w' ⟨N, rfl, -, -, hb⟩; exact ⟨_, _, rfl, .inr ⟨fun v hv => (by cases hv), _, _, rfl⟩, hb⟩
  | _ =>
    refine (Any.strconv_Atoi_syntax qoN s hs h e1 w h2 h3).mono ?_; rintro e w' ⟨N, rfl, -, -, hb⟩; exact ⟨_, _, rfl, .inr ⟨fun v hv => (by cases hv), _, _, rfl⟩, hb⟩
theorem ql0 (s : ByteArray) (w : World) (hs : s.size < 4294967281) (hG : qfj w) :
    Calls Tryz.prog 90 #[.string s, .string ⟨#[58]⟩] w fun e w' => e = .returned (.tuple #[.string ⟨(Lib.cut s.data.toList [58]).1.toArray⟩, .string ⟨(Lib.cut s.data.toList [58]).2.1.toArray⟩, .bool (Lib.cut s.data.toList [58]).2.2]) ∧ Below w.heap.size w w' := by
  obtain ⟨⟨m, hm⟩, -⟩ := hG; refine (Any.strings_Cut qsj s ⟨#[58]⟩ m w hs hm).mono ?_; rintro e w' ⟨rfl, n, rfl⟩; exact ⟨rfl, qaf (Below.refl _ _) _⟩
theorem qb9.calls (a0 : ByteArray) (r1 : ByteArray) (r2 : Int) (r3 : Bool) (w : World) (h : qb9.f a0 = some (r1, r2, r3)) (hG : qfj w) :
    Calls Tryz.prog 74 #[.string a0] w fun e w' => e = .returned (.tuple #[.agg #[.string r1, .int .i64 r2], .bool r3]) ∧ Below w.heap.size w w' := by
  have hu := Tryz.underlying99; have HG := ak_ hG; clear hG; unfold qb9.f at h; by_cases hs : a0.size ≤ 1048576; rotate_left
  ·rw [if_neg hs] at h; exact absurd h (by simp)
  rw [if_pos hs] at h; have HS := ak_ hs; have hnl := qod a0.data.toList [58]
  obtain ⟨bf, hbf⟩ : ∃ x : ByteArray, x = ⟨(Lib.cut a0.data.toList [58]).1.toArray⟩ := ⟨_, rfl⟩
  obtain ⟨nb, hnb⟩ : ∃ x : ByteArray, x = ⟨(Lib.cut a0.data.toList [58]).2.1.toArray⟩ := ⟨_, rfl⟩
  have hnd : nb.data.toList = (Lib.cut a0.data.toList [58]).2.1 := by rw [hnb]
  rw [← hnd, ← hbf] at h; have HNL := ak_ (show nb.size ≤ a0.size by rw [← hnd] at hnl; simpa using hnl); have HBF := ak_ hbf; have HNB := ak_ hnb; clear hbf hnb hnl hnd hs; by_cases hv : ∃ v, Lib.atoiAll nb.data.toList = .ok v; rotate_left
  ·have he : ∀ v, Lib.atoiAll nb.data.toList ≠ .ok v := fun v h_ => hv ⟨v, h_⟩
   have h2 : some ((⟨#[]⟩ : ByteArray), (0 : Int), false) = some (r1, r2, r3) := by
     cases hc : Lib.atoiAll nb.data.toList with
     | ok v => exact absurd hc (he v)
     | _ => rw [hc] at h; exact h
   have HE := ak_ he; clear he hv h; obtain ⟨rfl, rfl, rfl⟩ := qfI h2; go_enter Tryz.func74, Tryz.ntmps74
   go_wp2_with (first | ((with_reducible refine qak (N := 2) rfl ?_); refine bx_ 2 rfl (cs := #[.string (⟨#[]⟩ : ByteArray), .int .i64 0]) (t := 99) qbb ?_; intro gQ hg w1 hbox hb; have BQ1 := ak_ hbox; have HB1 := ak_ hb; have GQ := ak_ (show w.heap.size ≤ gQ by rw [hg]; exact Nat.le_refl _); have HG1 := ak_ (qfj.below HG.out hb); clear hbox hb hg) | (refine gl_ 12 Tryz.func90 #[.string a0, .string ⟨#[58]⟩] rfl qb1 ?_; (refine (ql0 a0 _ (by have := HS.out; omega) HG1.out).mono ?_); rintro e w2 ⟨rfl, hb⟩; refine ⟨_, rfl, ?_⟩; have BQ2 := ak_ (qao BQ1.out hb); have HB2 := ak_ (qaa HB1.out hb); have HG2 := ak_ (qfj.below HG1.out hb); clear hb BQ1 HB1 HG1; rw [← HBF.out, ← HNB.out]) | (refine gl_ 18 Tryz.func122 #[.string nb] rfl qb1 ?_; (refine (qfX nb _ (by have := HS.out; have := HNL.out; omega) HG2.out).mono ?_); rintro e w4 ⟨n, ev, rfl, hc_, hb⟩; refine ⟨_, rfl, ?_⟩; have BQ4 := ak_ (qao BQ2.out hb); have HB4 := ak_ (qaa HB2.out hb); obtain ⟨te, pe, rfl⟩ : ∃ te pe, ev = .iface te pe := (by rcases hc_ with ⟨h1_, -⟩ | ⟨-, h2_⟩; exact absurd h1_ (HE.out n); exact h2_); clear hc_; clear hb BQ2 HB2 HG2) | ((with_reducible refine qak (N := 9) rfl ?_); refine bx_ 9 rfl (cs := #[.string (⟨#[]⟩ : ByteArray), .int .i64 0]) (t := 99) qbb ?_; intro g9 hg w9 hbox hb; have B9_ := ak_ (show ((w9.setCell ⟨g9, 0, none⟩ (.string bf)).setCell ⟨g9, 1, none⟩ (.int .i64 n)).heap[g9]? = _ from qbp (cs' := #[.string bf, .int .i64 n]) (qbp (cs' := #[.string bf, .int .i64 0]) hbox 0 (.string bf) rfl) 1 (.int .i64 n) rfl); have HB9 := ak_ (show Below w4.heap.size w4 ((w9.setCell ⟨g9, 0, none⟩ (.string bf)).setCell ⟨g9, 1, none⟩ (.int .i64 n)) from qap (qap hb (Nat.le_of_eq hg.symm)) (Nat.le_of_eq hg.symm)); have BQ9 := ak_ (qao BQ4.out HB9.out); have hz0 : w9.cell? ⟨g9, 0, none⟩ = some (.string (⟨#[]⟩ : ByteArray)) := (qa7 hbox 0).trans rfl; have hz1 : w9.cell? ⟨g9, 1, none⟩ = some (.int .i64 0) := (qa7 hbox 1).trans rfl; have hf0 := qad hbox 0; have hf1 := qad hbox 1; have hne : gQ ≠ g9 := (by rw [hg]; exact Nat.ne_of_lt (qdT BQ4.out)); have hne' : ¬ g9 = gQ := fun e_ => hne e_.symm; have qqk : w9.cell? ⟨gQ, 0, none⟩ = some (.string (⟨#[]⟩ : ByteArray)) := (qa7 (qao BQ4.out hb) 0).trans rfl; have qql : w9.cell? ⟨gQ, 1, none⟩ = some (.int .i64 0) := (qa7 (qao BQ4.out hb) 1).trans rfl; have qqi := qad (qao BQ4.out hb) 0; have qqj := qad (qao BQ4.out hb) 1; clear hbox hb hg))
   refine bodyPost_ret (qb5 (rs := [.cell 2 99, .tmp 3]) rfl (by simp) (.cell gQ 99 #[.string (⟨#[]⟩ : ByteArray), .int .i64 0] (0, 0) _ rfl (qbp (cs' := #[.string (⟨#[]⟩ : ByteArray), .int .i64 0]) (qbp (cs' := #[.string (⟨#[]⟩ : ByteArray), .int .i64 0]) BQ9.out 0 _ rfl) 1 _ rfl) Tryz.underlying99 rfl (by kernel_rfl) (.tmp .nil))) rfl ?_; exact ⟨rfl, qap (qap (qaa HB4.out HB9.out) (by have h_ := GQ.out; omega)) (by have h_ := GQ.out; omega)⟩
  obtain ⟨v, hv⟩ := hv; rw [hv] at h; replace h : ((qcA.f bf v).bind fun t => if t = true then ((qbJ.f bf v).bind fun txt => if txt.toList = a0.toList then some (bf, v, true) else some ((⟨#[]⟩ : ByteArray), 0, false)) else some ((⟨#[]⟩ : ByteArray), 0, false)) = some (r1, r2, r3) := h; have HV := ak_ hv; clear hv; replace h := Option.bind_eq_some_iff.mp h; obtain ⟨t, A0_, h⟩ := h; have A1 := ak_ A0_; clear A0_
  cases t with
  | false =>
    rw [if_neg (by decide)] at h; obtain ⟨rfl, rfl, rfl⟩ := qfI h; go_enter Tryz.func74, Tryz.ntmps74
    go_wp2_with (first | ((with_reducible refine qak (N := 2) rfl ?_); refine bx_ 2 rfl (cs := #[.string (⟨#[]⟩ : ByteArray), .int .i64 0]) (t := 99) qbb ?_; intro gQ hg w1 hbox hb; have BQ1 := ak_ hbox; have HB1 := ak_ hb; have GQ := ak_ (show w.heap.size ≤ gQ by rw [hg]; exact Nat.le_refl _); have HG1 := ak_ (qfj.below HG.out hb); clear hbox hb hg) | (refine gl_ 12 Tryz.func90 #[.string a0, .string ⟨#[58]⟩] rfl qb1 ?_; (refine (ql0 a0 _ (by have := HS.out; omega) HG1.out).mono ?_); rintro e w2 ⟨rfl, hb⟩; refine ⟨_, rfl, ?_⟩; have BQ2 := ak_ (qao BQ1.out hb); have HB2 := ak_ (qaa HB1.out hb); have HG2 := ak_ (qfj.below HG1.out hb); clear hb BQ1 HB1 HG1; rw [← HBF.out, ← HNB.out]) | (refine gl_ 18 Tryz.func122 #[.string nb] rfl qb1 ?_; (refine (qfX nb _ (by have := HS.out; have := HNL.out; omega) HG2.out).mono ?_); rintro e w4 ⟨n, ev, rfl, hc_, hb⟩; refine ⟨_, rfl, ?_⟩; have BQ4 := ak_ (qao BQ2.out hb); have HB4 := ak_ (qaa HB2.out hb); obtain ⟨rfl, rfl⟩ : n = v ∧ ev = .nilIface := (by rcases hc_ with ⟨h1_, h2_⟩ | ⟨h1_, -⟩; exact ⟨by rw [HV.out] at h1_; injection h1_ with h1_; exact h1_.symm, h2_⟩; exact absurd HV.out (h1_ v)); clear hc_; clear hb BQ2 HB2 HG2) | ((with_reducible refine qak (N := 9) rfl ?_); refine bx_ 9 rfl (cs := #[.string (⟨#[]⟩ : ByteArray), .int .i64 0]) (t := 99) qbb ?_; intro g9 hg w9 hbox hb; have B9_ := ak_ (show ((w9.setCell ⟨g9, 0, none⟩ (.string bf)).setCell ⟨g9, 1, none⟩ (.int .i64 n)).heap[g9]? = _ from qbp (cs' := #[.string bf, .int .i64 n]) (qbp (cs' := #[.string bf, .int .i64 0]) hbox 0 (.string bf) rfl) 1 (.int .i64 n) rfl); have HB9 := ak_ (show Below w4.heap.size w4 ((w9.setCell ⟨g9, 0, none⟩ (.string bf)).setCell ⟨g9, 1, none⟩ (.int .i64 n)) from qap (qap hb (Nat.le_of_eq hg.symm)) (Nat.le_of_eq hg.symm)); have BQ9 := ak_ (qao BQ4.out HB9.out); have hz0 : w9.cell? ⟨g9, 0, none⟩ = some (.string (⟨#[]⟩ : ByteArray)) := (qa7 hbox 0).trans rfl; have hz1 : w9.cell? ⟨g9, 1, none⟩ = some (.int .i64 0) := (qa7 hbox 1).trans rfl; have hf0 := qad hbox 0; have hf1 := qad hbox 1; have hne : gQ ≠ g9 := (by rw [hg]; exact Nat.ne_of_lt (qdT BQ4.out)); have hne' : ¬ g9 = gQ := fun e_ => hne e_.symm; have qqk : w9.cell? ⟨gQ, 0, none⟩ = some (.string (⟨#[]⟩ : ByteArray)) := (qa7 (qao BQ4.out hb) 0).trans rfl; have qql : w9.cell? ⟨gQ, 1, none⟩ = some (.int .i64 0) := (qa7 (qao BQ4.out hb) 1).trans rfl; have qqi := qad (qao BQ4.out hb) 0; have qqj := qad (qao BQ4.out hb) 1; clear hbox hb hg) | (refine gl_ 28 Tryz.func134 #[.agg #[.string bf, .int .i64 n]] rfl qb1 ?_; (refine (qcA.calls bf n false _ A1.out).mono ?_); rintro e w10 ⟨rfl, hb⟩; refine ⟨_, rfl, ?_⟩; have B10 := ak_ (qao B9_.out hb); have BQ10 := ak_ (qao BQ9.out hb); have HB10 := ak_ (qaa (qaa HB4.out HB9.out) hb); clear hz0 hz1 hf0 hf1 qqk qql qqi qqj B9_ BQ9 HB9 hb; have hz0 := qed B10.out; have hz1 := qbB B10.out; obtain ⟨qqk, qql, qqi, qqj⟩ := qbG BQ10.out))
    refine bodyPost_ret (qb5 (rs := [.cell 2 99, .tmp 3]) rfl (by simp) (.cell gQ 99 #[.string (⟨#[]⟩ : ByteArray), .int .i64 0] (0, 0) _ rfl (qbp (cs' := #[.string (⟨#[]⟩ : ByteArray), .int .i64 0]) (qbp (cs' := #[.string (⟨#[]⟩ : ByteArray), .int .i64 0]) BQ10.out 0 _ rfl) 1 _ rfl) Tryz.underlying99 rfl (by kernel_rfl) (.tmp .nil))) rfl ?_; exact ⟨rfl, qap (qap HB10.out (by have h_ := GQ.out; omega)) (by have h_ := GQ.out; omega)⟩
  | true =>
    rw [if_pos rfl] at h; replace h := Option.bind_eq_some_iff.mp h; obtain ⟨txt, A0_, h⟩ := h; have A2 := ak_ A0_; clear A0_; by_cases hx : txt.toList = a0.toList
    ·rw [if_pos hx] at h; obtain ⟨rfl, rfl, rfl⟩ := qfI h; have hxb : (txt.toList != a0.toList) = false := bne_eq_false_iff_eq.2 hx; have hxc : (txt.toList == a0.toList) = true := beq_iff_eq.2 hx; clear hx; go_enter Tryz.func74, Tryz.ntmps74
     go_wp2_with (first | ((with_reducible refine qak (N := 2) rfl ?_); refine bx_ 2 rfl (cs := #[.string (⟨#[]⟩ : ByteArray), .int .i64 0]) (t := 99) qbb ?_; intro gQ hg w1 hbox hb; have BQ1 := ak_ hbox; have HB1 := ak_ hb; have GQ := ak_ (show w.heap.size ≤ gQ by rw [hg]; exact Nat.le_refl _); have HG1 := ak_ (qfj.below HG.out hb); clear hbox hb hg) | (refine gl_ 12 Tryz.func90 #[.string a0, .string ⟨#[58]⟩] rfl qb1 ?_; (refine (ql0 a0 _ (by have := HS.out; omega) HG1.out).mono ?_); rintro e w2 ⟨rfl, hb⟩; refine ⟨_, rfl, ?_⟩; have BQ2 := ak_ (qao BQ1.out hb); have HB2 := ak_ (qaa HB1.out hb); have HG2 := ak_ (qfj.below HG1.out hb); clear hb BQ1 HB1 HG1; rw [← HBF.out, ← HNB.out]) | (refine gl_ 18 Tryz.func122 #[.string nb] rfl qb1 ?_; (refine (qfX nb _ (by have := HS.out; have := HNL.out; omega) HG2.out).mono ?_); rintro e w4 ⟨n, ev, rfl, hc_, hb⟩; refine ⟨_, rfl, ?_⟩; have BQ4 := ak_ (qao BQ2.out hb); have HB4 := ak_ (qaa HB2.out hb); obtain ⟨rfl, rfl⟩ : n = v ∧ ev = .nilIface := (by rcases hc_ with ⟨h1_, h2_⟩ | ⟨h1_, -⟩; exact ⟨by rw [HV.out] at h1_; injection h1_ with h1_; exact h1_.symm, h2_⟩; exact absurd HV.out (h1_ v)); clear hc_; clear hb BQ2 HB2 HG2) | ((with_reducible refine qak (N := 9) rfl ?_); refine bx_ 9 rfl (cs := #[.string (⟨#[]⟩ : ByteArray), .int .i64 0]) (t := 99) qbb ?_; intro g9 hg w9 hbox hb; have B9_ := ak_ (show ((w9.setCell ⟨g9, 0, none⟩ (.string bf)).setCell ⟨g9, 1, none⟩ (.int .i64 n)).heap[g9]? = _ from qbp (cs' := #[.string bf, .int .i64 n]) (qbp (cs' := #[.string bf, .int .i64 0]) hbox 0 (.string bf) rfl) 1 (.int .i64 n) rfl); have HB9 := ak_ (show Below w4.heap.size w4 ((w9.setCell ⟨g9, 0, none⟩ (.string bf)).setCell ⟨g9, 1, none⟩ (.int .i64 n)) from qap (qap hb (Nat.le_of_eq hg.symm)) (Nat.le_of_eq hg.symm)); have BQ9 := ak_ (qao BQ4.out HB9.out); have hz0 : w9.cell? ⟨g9, 0, none⟩ = some (.string (⟨#[]⟩ : ByteArray)) := (qa7 hbox 0).trans rfl; have hz1 : w9.cell? ⟨g9, 1, none⟩ = some (.int .i64 0) := (qa7 hbox 1).trans rfl; have hf0 := qad hbox 0; have hf1 := qad hbox 1; have hne : gQ ≠ g9 := (by rw [hg]; exact Nat.ne_of_lt (qdT BQ4.out)); have hne' : ¬ g9 = gQ := fun e_ => hne e_.symm; have qqk : w9.cell? ⟨gQ, 0, none⟩ = some (.string (⟨#[]⟩ : ByteArray)) := (qa7 (qao BQ4.out hb) 0).trans rfl; have qql : w9.cell? ⟨gQ, 1, none⟩ = some (.int .i64 0) := (qa7 (qao BQ4.out hb) 1).trans rfl; have qqi := qad (qao BQ4.out hb) 0; have qqj := qad (qao BQ4.out hb) 1; clear hbox hb hg) | (refine gl_ 28 Tryz.func134 #[.agg #[.string bf, .int .i64 n]] rfl qb1 ?_; (refine (qcA.calls bf n true _ A1.out).mono ?_); rintro e w10 ⟨rfl, hb⟩; refine ⟨_, rfl, ?_⟩; have B10 := ak_ (qao B9_.out hb); have BQ10 := ak_ (qao BQ9.out hb); have HB10 := ak_ (qaa (qaa HB4.out HB9.out) hb); clear hz0 hz1 hf0 hf1 qqk qql qqi qqj B9_ BQ9 HB9 hb; have hz0 := qed B10.out; have hz1 := qbB B10.out; obtain ⟨qqk, qql, qqi, qqj⟩ := qbG BQ10.out) | (refine gl_ 33 Tryz.func135 #[.agg #[.string bf, .int .i64 n]] rfl qb1 ?_; (refine (qbJ.calls bf n txt _ A2.out).mono ?_); rintro e w11 ⟨rfl, hb⟩; refine ⟨_, rfl, ?_⟩; have B11 := ak_ (qao B10.out hb); have BQ11 := ak_ (qao BQ10.out hb); have HB11 := ak_ (qaa HB10.out hb); clear hz0 hz1 qqk qql qqi qqj hb; have hz0 := qed B11.out; have hz1 := qbB B11.out; obtain ⟨qqk, qql, qqi, qqj⟩ := qbG BQ11.out))
     refine bodyPost_ret (qb5 (rs := [.cell 2 99, .tmp 3]) rfl (by simp) (.cell gQ 99 #[.string bf, .int .i64 n] (0, 0) _ rfl (qbp (cs' := #[.string bf, .int .i64 n]) (qbp (cs' := #[.string bf, .int .i64 0]) BQ11.out 0 _ rfl) 1 _ rfl) Tryz.underlying99 rfl (by kernel_rfl) (.tmp .nil))) rfl ?_; exact ⟨rfl, qap (qap HB11.out (by have h_ := GQ.out; omega)) (by have h_ := GQ.out; omega)⟩
    rw [if_neg hx] at h; obtain ⟨rfl, rfl, rfl⟩ := qfI h; have hxb : (txt.toList != a0.toList) = true := bne_iff_ne.2 hx; have hxc : (txt.toList == a0.toList) = false := beq_eq_false_iff_ne.2 hx; clear hx; go_enter Tryz.func74, Tryz.ntmps74
    go_wp2_with (first | ((with_reducible refine qak (N := 2) rfl ?_); refine bx_ 2 rfl (cs := #[.string (⟨#[]⟩ : ByteArray), .int .i64 0]) (t := 99) qbb ?_; intro gQ hg w1 hbox hb; have BQ1 := ak_ hbox; have HB1 := ak_ hb; have GQ := ak_ (show w.heap.size ≤ gQ by rw [hg]; exact Nat.le_refl _); have HG1 := ak_ (qfj.below HG.out hb); clear hbox hb hg) | (refine gl_ 12 Tryz.func90 #[.string a0, .string ⟨#[58]⟩] rfl qb1 ?_; (refine (ql0 a0 _ (by have := HS.out; omega) HG1.out).mono ?_); rintro e w2 ⟨rfl, hb⟩; refine ⟨_, rfl, ?_⟩; have BQ2 := ak_ (qao BQ1.out hb); have HB2 := ak_ (qaa HB1.out hb); have HG2 := ak_ (qfj.below HG1.out hb); clear hb BQ1 HB1 HG1; rw [← HBF.out, ← HNB.out]) | (refine gl_ 18 Tryz.func122 #[.string nb] rfl qb1 ?_; (refine (qfX nb _ (by have := HS.out; have := HNL.out; omega) HG2.out).mono ?_); rintro e w4 ⟨n, ev, rfl, hc_, hb⟩; refine ⟨_, rfl, ?_⟩; have BQ4 := ak_ (qao BQ2.out hb); have HB4 := ak_ (qaa HB2.out hb); obtain ⟨rfl, rfl⟩ : n = v ∧ ev = .nilIface := (by rcases hc_ with ⟨h1_, h2_⟩ | ⟨h1_, -⟩; exact ⟨by rw [HV.out] at h1_; injection h1_ with h1_; exact h1_.symm, h2_⟩; exact absurd HV.out (h1_ v)); clear hc_; clear hb BQ2 HB2 HG2) | ((with_reducible refine qak (N := 9) rfl ?_); refine bx_ 9 rfl (cs := #[.string (⟨#[]⟩ : ByteArray), .int .i64 0]) (t := 99) qbb ?_; intro g9 hg w9 hbox hb; have B9_ := ak_ (show ((w9.setCell ⟨g9, 0, none⟩ (.string bf)).setCell ⟨g9, 1, none⟩ (.int .i64 n)).heap[g9]? = _ from qbp (cs' := #[.string bf, .int .i64 n]) (qbp (cs' := #[.string bf, .int .i64 0]) hbox 0 (.string bf) rfl) 1 (.int .i64 n) rfl); have HB9 := ak_ (show Below w4.heap.size w4 ((w9.setCell ⟨g9, 0, none⟩ (.string bf)).setCell ⟨g9, 1, none⟩ (.int .i64 n)) from qap (qap hb (Nat.le_of_eq hg.symm)) (Nat.le_of_eq hg.symm)); have BQ9 := ak_ (qao BQ4.out HB9.out); have hz0 : w9.cell? ⟨g9, 0, none⟩ = some (.string (⟨#[]⟩ : ByteArray)) := (qa7 hbox 0).trans rfl; have hz1 : w9.cell? ⟨g9, 1, none⟩ = some (.int .i64 0) := (qa7 hbox 1).trans rfl; have hf0 := qad hbox 0; have hf1 := qad hbox 1; have hne : gQ ≠ g9 := (by rw [hg]; exact Nat.ne_of_lt (qdT BQ4.out)); have hne' : ¬ g9 = gQ := fun e_ => hne e_.symm; have qqk : w9.cell? ⟨gQ, 0, none⟩ = some (.string (⟨#[]⟩ : ByteArray)) := (qa7 (qao BQ4.out hb) 0).trans rfl; have qql : w9.cell? ⟨gQ, 1, none⟩ = some (.int .i64 0) := (qa7 (qao BQ4.out hb) 1).trans rfl; have qqi := qad (qao BQ4.out hb) 0; have qqj := qad (qao BQ4.out hb) 1; clear hbox hb hg) | (refine gl_ 28 Tryz.func134 #[.agg #[.string bf, .int .i64 n]] rfl qb1 ?_; (refine (qcA.calls bf n true _ A1.out).mono ?_); rintro e w10 ⟨rfl, hb⟩; refine ⟨_, rfl, ?_⟩; have B10 := ak_ (qao B9_.out hb); have BQ10 := ak_ (qao BQ9.out hb); have HB10 := ak_ (qaa (qaa HB4.out HB9.out) hb); clear hz0 hz1 hf0 hf1 qqk qql qqi qqj B9_ BQ9 HB9 hb; have hz0 := qed B10.out; have hz1 := qbB B10.out; obtain ⟨qqk, qql, qqi, qqj⟩ := qbG BQ10.out) | (refine gl_ 33 Tryz.func135 #[.agg #[.string bf, .int .i64 n]] rfl qb1 ?_; (refine (qbJ.calls bf n txt _ A2.out).mono ?_); rintro e w11 ⟨rfl, hb⟩; refine ⟨_, rfl, ?_⟩; have B11 := ak_ (qao B10.out hb); have BQ11 := ak_ (qao BQ10.out hb); have HB11 := ak_ (qaa HB10.out hb); clear hz0 hz1 qqk qql qqi qqj hb; have hz0 := qed B11.out; have hz1 := qbB B11.out; obtain ⟨qqk, qql, qqi, qqj⟩ := qbG BQ11.out))
    refine bodyPost_ret (qb5 (rs := [.cell 2 99, .tmp 3]) rfl (by simp) (.cell gQ 99 #[.string (⟨#[]⟩ : ByteArray), .int .i64 0] (0, 0) _ rfl (qbp (cs' := #[.string (⟨#[]⟩ : ByteArray), .int .i64 0]) (qbp (cs' := #[.string (⟨#[]⟩ : ByteArray), .int .i64 0]) BQ11.out 0 _ rfl) 1 _ rfl) Tryz.underlying99 rfl (by kernel_rfl) (.tmp .nil))) rfl ?_; exact ⟨rfl, qap (qap HB11.out (by have h_ := GQ.out; omega)) (by have h_ := GQ.out; omega)⟩
def qoL : Go.Shelf.Ren := ⟨fun | 146 => 68 | 221 => 121 | 268 => 180 | 138 => 181 | 143 => 67 | 195 => 217 | 197 => 218 | 218 => 219 | 219 => 120 | 260 => 248 | 217 => 176 | 225 => 177 | 224 => 178 | 267 => 179 | 266 => 215 | 314 => 216 | n => n, fun | 9 => 9 | 31 => 43 | 3 => 3 | 4 => 4 | 0 => 0 | 105 => 182 | 21 => 21 | 5 => 5 | 46 => 165 | 119 => 221 | 139 => 224 | 138 => 223 | 146 => 180 | 51 => 179 | n => n, fun | 1 => 0 | 3 => 4 | 4 => 5 | n => n⟩
theorem lays146 : Go.Proofs.Lays.n146 Tryz.prog qoL := {
  mixed := by kernel_rfl
  f138 := Tryz.func181.trans (congrArg some (by kernel_rfl))
  f143 := Tryz.func67.trans (congrArg some (by kernel_rfl))
  f146 := Tryz.func68.trans (congrArg some (by kernel_rfl))
  f195 := Tryz.func217.trans (congrArg some (by kernel_rfl))
  f197 := Tryz.func218.trans (congrArg some (by kernel_rfl))
  f217 := Tryz.func176.trans (congrArg some (by kernel_rfl))
  f218 := Tryz.func219.trans (congrArg some (by kernel_rfl))
  f219 := Tryz.func120.trans (congrArg some (by kernel_rfl))
  f221 := Tryz.func121.trans (congrArg some (by kernel_rfl))
  f224 := Tryz.func178.trans (congrArg some (by kernel_rfl))
  f225 := Tryz.func177.trans (congrArg some (by kernel_rfl))
  f260 := Tryz.func248.trans (congrArg some (by kernel_rfl))
  f266 := Tryz.func215.trans (congrArg some (by kernel_rfl))
  f267 := Tryz.func179.trans (congrArg some (by kernel_rfl))
  f268 := Tryz.func180.trans (congrArg some (by kernel_rfl))
  f314 := Tryz.func216.trans (congrArg some (by kernel_rfl))
  t0 := Tryz.underlying0
  a0 := Tryz.isAgg0
  z0 := Tryz.sizeOf0
  v0 := Tryz.zeroValue0
  t3 := Tryz.underlying3
  a3 := Tryz.isAgg3
  z3 := Tryz.sizeOf3
  v3 := Tryz.zeroValue3
  t4 := Tryz.underlying4
  a4 := Tryz.isAgg4
  z4 := Tryz.sizeOf4
  v4 := Tryz.zeroValue4
  t5 := Tryz.underlying5
  a5 := Tryz.isAgg5
  z5 := Tryz.sizeOf5
  v5 := Tryz.zeroValue5
  t9 := Tryz.underlying9
  a9 := Tryz.isAgg9
  z9 := Tryz.sizeOf9
  v9 := Tryz.zeroValue9
  t21 := Tryz.underlying21
  a21 := Tryz.isAgg21
  z21 := Tryz.sizeOf21
  v21 := Tryz.zeroValue21
  t31 := Tryz.underlying43
  a31 := Tryz.isAgg43
  z31 := Tryz.sizeOf43
  v31 := Tryz.zeroValue43
  t46 := Tryz.underlying165
  a46 := Tryz.isAgg165
  z46 := Tryz.sizeOf165
  v46 := Tryz.zeroValue165
  t51 := Tryz.underlying179
  a51 := Tryz.isAgg179
  z51 := Tryz.sizeOf179
  v51 := Tryz.zeroValue179
  t105 := Tryz.underlying182
  a105 := Tryz.isAgg182
  z105 := Tryz.sizeOf182
  v105 := Tryz.zeroValue182
  t119 := Tryz.underlying221
  a119 := Tryz.isAgg221
  z119 := Tryz.sizeOf221
  t138 := Tryz.underlying223
  a138 := Tryz.isAgg223
  z138 := Tryz.sizeOf223
  v138 := Tryz.zeroValue223
  t139 := Tryz.underlying224
  a139 := Tryz.isAgg224
  z139 := Tryz.sizeOf224
  v139 := Tryz.zeroValue224
  t146 := Tryz.underlying180
  a146 := Tryz.isAgg180
  z146 := Tryz.sizeOf180
  v146 := Tryz.zeroValue180
  g1 := by kernel_rfl
  g3 := by kernel_rfl
  g4 := by kernel_rfl }
def qba (w : World) : Prop := qfj w ∧ Lib.TabIs Tryz.prog w "internal/strconv.uint64pow10" .u64 Lib.pow10Tab
theorem qba.below {w w' : World} (h : qba w) (hb : Below w.heap.size w w') : qba w' := by
  refine ⟨h.1.below hb, ?_⟩; have h2 := h.2; unfold Lib.TabIs World.var? at h2 ⊢
  cases hg : Tryz.prog.globalNamed "internal/strconv.uint64pow10" with
  | none => rw [hg] at h2; cases h2
  | some g =>
    rw [hg] at h2; simp only [Option.bind_some] at h2 ⊢
    have hlt : g < w.heap.size := by
      rcases Nat.lt_or_ge g w.heap.size with h' | h'
      ·exact h'
      rw [Array.getElem?_eq_none h'] at h2; cases h2
    rw [hb.block g hlt]; exact h2
theorem qp7 (xs : List ByteArray) (w : World) (hl : xs.length ≤ 9223372036854775807) :
    Kd.R Kd.string 9 (w.alloc (.cells (xs.map Value.string).toArray 9)) w.heap.size (fun _ => True) (.slice (some ⟨w.heap.size, 0, none⟩) xs.length xs.length) xs :=
  Kd.qph (qqx (enc := Value.string) w w.heap.size 9 xs (Nat.le_refl _) hl) (fun _ _ => trivial)
theorem qdg (s : ByteArray) (sep : ByteArray) (w : World) (hs : s.size < 4294967281) (h1 : sep.size = 1) (hG : qba w) :
    Calls Tryz.prog 68 #[.string s, .string sep] w fun e w' => ∃ v_, e = .returned v_ ∧ Kd.R Kd.string 9 w' w.heap.size (fun _ => True) v_ (Lib.splitB sep 0 (Lib.countB s sep) s) ∧ Below w.heap.size w w' := by
  obtain ⟨⟨⟨m, hm⟩, -⟩, -⟩ := hG; refine (Any.strings_Split lays146 (by kernel_rfl) s sep m w hs hm (by omega)).mono ?_; rintro e w' ⟨rfl, rfl⟩; have hle := Lib.countB_le sep (by omega) s.size s (Nat.le_refl _); have hlen := Lib.splitB_all sep (by omega) 0 _ s rfl; have h := qp7 (Lib.splitB sep 0 (Lib.countB s sep) s) w (by omega); rw [hlen] at h; exact ⟨_, rfl, h, qai (Below.refl _ _) _⟩
def qbk.f (a0 : Int) : Option ByteArray := if -9223372036854775808 ≤ a0 ∧ a0 ≤ 9223372036854775807 then some ⟨(Lib.itoa a0).toArray⟩ else none
theorem qbk.calls (a0 : Int) (r : ByteArray) (w : World) (h : qbk.f a0 = some r) (hG : qba w) :
    Calls Tryz.prog 87 #[.int .i64 a0] w fun e w' => e = .returned (.string r) ∧ Below w.heap.size w w' := by
  unfold qbk.f at h; by_cases hc : -9223372036854775808 ≤ a0 ∧ a0 ≤ 9223372036854775807; rotate_left
  ·rw [if_neg hc] at h; exact absurd h (by simp)
  rw [if_pos hc] at h; obtain rfl := Option.some.inj h; refine (Any.strconv_Itoa qsk a0 hc.1 hc.2 w hG.2).mono ?_; rintro e w' ⟨rfl, k, os, rfl⟩; exact ⟨rfl, ⟨rfl, rfl, rfl, by simp [Go.Sort.grow], fun i hi => by simp only [Go.Sort.grow]; rw [Array.getElem?_append_left (by exact hi)]; rfl⟩⟩
inductive Cmd
  | cMirror
  | cTidy
  | cShow
  | cLeft
  | cCount
  | cPeriod
  | cSpokes
  | cSteps
  | cDrop
  | cMost
  | cMove
  | cPrimes
  | cRank
  | cFactors
  | cPi
  | cDivisors
  | cTotient
  | cPattern
  | cRules
  | cAdd
  | cAnswer
def Cmd.bytes : Cmd → List UInt8
  | .cMirror => [109, 105, 114, 114, 111, 114]
  | .cTidy => [116, 105, 100, 121]
  | .cShow => [115, 104, 111, 119]
  | .cLeft => [108, 101, 102, 116]
  | .cCount => [99, 111, 117, 110, 116]
  | .cPeriod => [112, 101, 114, 105, 111, 100]
  | .cSpokes => [115, 112, 111, 107, 101, 115]
  | .cSteps => [115, 116, 101, 112, 115]
  | .cDrop => [100, 114, 111, 112]
  | .cMost => [109, 111, 115, 116]
  | .cMove => [109, 111, 118, 101]
  | .cPrimes => [112, 114, 105, 109, 101, 115]
  | .cRank => [114, 97, 110, 107]
  | .cFactors => [102, 97, 99, 116, 111, 114, 115]
  | .cPi => [112, 105]
  | .cDivisors => [100, 105, 118, 105, 115, 111, 114, 115]
  | .cTotient => [116, 111, 116, 105, 101, 110, 116]
  | .cPattern => [112, 97, 116, 116, 101, 114, 110]
  | .cRules => [114, 117, 108, 101, 115]
  | .cAdd => [97, 100, 100]
  | .cAnswer => [97, 110, 115, 119, 101, 114]
def Cmd.word (c : Cmd) : ByteArray := ⟨c.bytes.toArray⟩
def Cmd.kind : Cmd → List UInt8
  | .cMirror => []
  | .cTidy => []
  | .cShow => []
  | .cLeft => []
  | .cCount => []
  | .cPeriod => []
  | .cSpokes => []
  | .cSteps => []
  | .cDrop => [110]
  | .cMost => [110]
  | .cMove => [110]
  | .cPrimes => [110]
  | .cRank => [110]
  | .cFactors => [110]
  | .cPi => [110]
  | .cDivisors => [110]
  | .cTotient => [110]
  | .cPattern => [110]
  | .cRules => [114]
  | .cAdd => [114]
  | .cAnswer => [115]
def Cmd.all : List Cmd := [.cMirror, .cTidy, .cShow, .cLeft, .cCount, .cPeriod, .cSpokes, .cSteps, .cDrop, .cMost, .cMove, .cPrimes, .cRank, .cFactors, .cPi, .cDivisors, .cTotient, .cPattern, .cRules, .cAdd, .cAnswer]
theorem Cmd.mem (c : Cmd) : c ∈ Cmd.all := by cases c <;> simp [Cmd.all]
def qhn (x : ByteArray) : Option Cmd := Cmd.all.find? fun c => c.bytes == x.data.toList
theorem word_eq (c : Cmd) (x : ByteArray) (h : c.bytes = x.data.toList) : x = c.word := by
  unfold Cmd.word; rw [h]
theorem qhG {x : ByteArray} {c : Cmd} (h : qhn x = some c) : x = c.word := word_eq c x (beq_iff_eq.1 (List.find?_some (p := fun c : Cmd => c.bytes == x.data.toList) h))
theorem qk8 {x : ByteArray} (h : qhn x = none) (c : Cmd) : (x.toList == c.bytes) = false := by
  have := List.find?_eq_none.1 h c (Cmd.mem c); rw [Lib.toList_data]
  exact beq_eq_false_iff_ne.2 fun e => this (beq_iff_eq.2 e.symm)
def qbE.f (x : ByteArray) : Option (ByteArray × Bool) := match qhn x with
  | some c => some (⟨c.kind.toArray⟩, true)
  | none => some (⟨#[]⟩, false)
theorem qbE.calls (x : ByteArray) (r1 : ByteArray) (r2 : Bool) (w : World) (h : qbE.f x = some (r1, r2)) :
    Calls Tryz.prog 69 #[.string x] w fun e w' => e = .returned (.tuple #[.string r1, .bool r2]) ∧ Below w.heap.size w w' := by
  unfold qbE.f at h
  cases hc : qhn x with
  | some c =>
    rw [hc] at h; obtain ⟨rfl, rfl⟩ := qdI h; obtain rfl := qhG hc; clear hc
    cases c <;> (simp only [Cmd.word, Cmd.bytes, Cmd.kind]; go_enter Tryz.func69, Tryz.ntmps69; go_wp2; go_ret2; exact ⟨rfl, Below.refl _ _⟩)
  | none =>
    rw [hc] at h; obtain ⟨rfl, rfl⟩ := qdI h; have HN := qk8 hc; clear hc; have n0 : (x.toList == ([109, 105, 114, 114, 111, 114] : List UInt8)) = false := HN .cMirror; have n1 : (x.toList == ([116, 105, 100, 121] : List UInt8)) = false := HN .cTidy; have n2 : (x.toList == ([115, 104, 111, 119] : List UInt8)) = false := HN .cShow; have n3 : (x.toList == ([108, 101, 102, 116] : List UInt8)) = false := HN .cLeft; have n4 : (x.toList == ([99, 111, 117, 110, 116] : List UInt8)) = false := HN .cCount; have n5 : (x.toList == ([112, 101, 114, 105, 111, 100] : List UInt8)) = false := HN .cPeriod; have n6 : (x.toList == ([115, 112, 111, 107, 101, 115] : List UInt8)) = false := HN .cSpokes; have n7 : (x.toList == ([115, 116, 101, 112, 115] : List UInt8)) = false := HN .cSteps; have n8 : (x.toList == ([100, 114, 111, 112] : List UInt8)) = false := HN .cDrop; have n9 : (x.toList == ([109, 111, 115, 116] : List UInt8)) = false := HN .cMost; have n10 : (x.toList == ([109, 111, 118, 101] : List UInt8)) = false := HN .cMove; have n11 : (x.toList == ([112, 114, 105, 109, 101, 115] : List UInt8)) = false := HN .cPrimes; have n12 : (x.toList == ([114, 97, 110, 107] : List UInt8)) = false := HN .cRank; have n13 : (x.toList == ([102, 97, 99, 116, 111, 114, 115] : List UInt8)) = false := HN .cFactors; have n14 : (x.toList == ([112, 105] : List UInt8)) = false := HN .cPi; have n15 : (x.toList == ([100, 105, 118, 105, 115, 111, 114, 115] : List UInt8)) = false := HN .cDivisors; have n16 : (x.toList == ([116, 111, 116, 105, 101, 110, 116] : List UInt8)) = false := HN .cTotient; have n17 : (x.toList == ([112, 97, 116, 116, 101, 114, 110] : List UInt8)) = false := HN .cPattern; have n18 : (x.toList == ([114, 117, 108, 101, 115] : List UInt8)) = false := HN .cRules; have n19 : (x.toList == ([97, 100, 100] : List UInt8)) = false := HN .cAdd; have n20 : (x.toList == ([97, 110, 115, 119, 101, 114] : List UInt8)) = false := HN .cAnswer; clear HN; go_enter Tryz.func69, Tryz.ntmps69; go_wp2
    go_ret2
    exact ⟨rfl, Below.refl _ _⟩
theorem qh6 (p : qac → Bool) : ∀ (l : List qac) (i : Int), 0 ≤ i → decide (0 ≤ qd3 p l i) = l.any p
  | [], _, _ => by simp [qd3]
  | x :: l, i, hi => by
    rw [qd3, List.any_cons]
    cases hx : p x with
    | true => simp [hi]
    | false => simpa using qh6 p l (i + 1) (by omega)
set_option maxHeartbeats 2000000 in
theorem qrk (p : qac → Bool) (g : Nat) (lb : Array Value) (eg : ∀ args w, (callFunc g args).run Tryz.prog w = .ok (.enter g args) w)
    (A0 : Option Addr) (c0 : Nat) (l0 : List qac) (w : World) (hp : PredR g lb p l0 w) (hr0 : Kd.C qaN w A0 l0.length l0) :
    Calls Tryz.prog 84 #[.slice A0 l0.length c0, .func (.func g) #[] lb] w fun e w' => e = .returned (.bool (l0.any p)) ∧ Below w.heap.size w w' := by
  rw [← qh6 p l0 0 (by omega)]; have hcall := qng p g lb eg A0 c0 l0 w hp hr0; go_enter Tryz.func84, Tryz.ntmps84
  go_wp2_with (go_at_call 145; refine hcall.mono ?_; rintro e w' ⟨rfl, hb'⟩)
  go_ret
  exact ⟨rfl, hb'⟩
def qe5.f (qbL : Int) (qcx : Int) : Option (Bool) := if qbL ≥ 2 then (if qbL ≤ 60 then (if qcx ≥ 0 then (some (decide (qcx < qbL))) else (some false)) else (some false)) else (some false)
theorem qe5.calls (qbL : Int) (qcx : Int) (r : Bool) (w : World) (h : qe5.f qbL qcx = some r) :
  Calls Tryz.prog 86 #[.agg #[.int .i64 qbL, .int .i64 qcx]] w fun e w' => e = .returned (.bool r) ∧ Below w.heap.size w w' := by
 have qms := Tryz.underlying85; have HB := ak_ (Below.refl w.heap.size w); have H : (if qbL ≥ 2 then (if qbL ≤ 60 then (if qcx ≥ 0 then (some (decide (qcx < qbL))) else (some false)) else (some false)) else (some false)) = some r := h; clear h; by_cases c2 : qbL ≥ 2; rotate_left
 ·rw [if_neg c2] at H; have qfe : decide (2 ≤ qbL) = false := decide_eq_false c2; clear c2; obtain rfl := Option.some.inj H; go_enter Tryz.func86, Tryz.ntmps86
  go_wp2_with (first | ((with_reducible refine qak (N := 1) rfl ?_); refine bx_ 1 rfl (cs := #[.int .i64 qbL, .int .i64 qcx]) (t := 85) qbb ?_; intro qb8 hg w11 hbox hb; have qaF := ak_ (hbox); have qeJ := ak_ (HB.ge hg); have qen := ak_ (HB.ge hg); replace HB := HB.mw hb; clear hb hbox hg; obtain ⟨qoo, qop, qou, qov⟩ := qbG qaF.out))
  go_ret
  exact ⟨qce, qdt⟩
 rw [if_pos c2] at H; have qfe : decide (2 ≤ qbL) = true := decide_eq_true c2; clear c2; by_cases c3 : qbL ≤ 60; rotate_left
 ·rw [if_neg c3] at H; have qff : decide (qbL ≤ 60) = false := decide_eq_false c3; clear c3; obtain rfl := Option.some.inj H; go_enter Tryz.func86, Tryz.ntmps86
  go_wp2_with (first | ((with_reducible refine qak (N := 1) rfl ?_); refine bx_ 1 rfl (cs := #[.int .i64 qbL, .int .i64 qcx]) (t := 85) qbb ?_; intro qb8 hg w9 hbox hb; have qaF := ak_ (hbox); have qeJ := ak_ (HB.ge hg); have qen := ak_ (HB.ge hg); replace HB := HB.mw hb; clear hb hbox hg; obtain ⟨qom, qon, qos, qot⟩ := qbG qaF.out))
  go_ret
  exact ⟨qce, qdt⟩
 rw [if_pos c3] at H; have qff : decide (qbL ≤ 60) = true := decide_eq_true c3; clear c3; by_cases c4 : qcx ≥ 0
 ·rw [if_pos c4] at H; have qfx : decide (0 ≤ qcx) = true := decide_eq_true c4; clear c4; obtain rfl := Option.some.inj H; go_enter Tryz.func86, Tryz.ntmps86
  go_wp2_with (first | ((with_reducible refine qak (N := 1) rfl ?_); refine bx_ 1 rfl (cs := #[.int .i64 qbL, .int .i64 qcx]) (t := 85) qbb ?_; intro qb8 hg w5 hbox hb; have qaF := ak_ (hbox); have qeJ := ak_ (HB.ge hg); have qen := ak_ (HB.ge hg); replace HB := HB.mw hb; clear hb hbox hg; obtain ⟨qj6, qj7, qj9, qka⟩ := qbG qaF.out))
  go_ret
  exact ⟨qce, qdt⟩
 rw [if_neg c4] at H; have qfx : decide (0 ≤ qcx) = false := decide_eq_false c4; clear c4; obtain rfl := Option.some.inj H; go_enter Tryz.func86, Tryz.ntmps86
 go_wp2_with (first | ((with_reducible refine qak (N := 1) rfl ?_); refine bx_ 1 rfl (cs := #[.int .i64 qbL, .int .i64 qcx]) (t := 85) qbb ?_; intro qb8 hg w7 hbox hb; have qaF := ak_ (hbox); have qeJ := ak_ (HB.ge hg); have qen := ak_ (HB.ge hg); replace HB := HB.mw hb; clear hb hbox hg; obtain ⟨qm6, qm7, qna, qnb⟩ := qbG qaF.out))
 go_ret
 exact ⟨qce, qdt⟩
def qeO.f (qbL : Int) (qcx : Int) : Option (Bool) := (qe5.f qbL qcx).bind fun qaI => (some (!qaI))
theorem qeO.calls (qbL : Int) (qcx : Int) (r : Bool) (w : World) (h : qeO.f qbL qcx = some r) :
  Calls Tryz.prog 85 #[.agg #[.int .i64 qbL, .int .i64 qcx]] w fun e w' => e = .returned (.bool r) ∧ Below w.heap.size w w' := by
 have qms := Tryz.underlying85; have HB := ak_ (Below.refl w.heap.size w); have H : ((qe5.f qbL qcx).bind fun qaI => (some (!qaI))) = some r := h; clear h; obtain ⟨qaI, A2, H⟩ := qaw H; (try dsimp only at H); obtain rfl := Option.some.inj H; go_enter Tryz.func85, Tryz.ntmps85
 go_wp2_with (first | ((with_reducible refine qak (N := 1) rfl ?_); refine bx_ 1 rfl (cs := #[.int .i64 qbL, .int .i64 qcx]) (t := 85) qbb ?_; intro qb8 hg w3 hbox hb; have qaF := ak_ (hbox); have qeJ := ak_ (HB.ge hg); have qen := ak_ (HB.ge hg); replace HB := HB.mw hb; clear hb hbox hg; obtain ⟨hcz4_0, hcz4_1, hfz4_0, hfz4_1⟩ := qbG qaF.out) | (refine gl_ 4 Tryz.func86 #[.agg #[.int .i64 qbL, .int .i64 qcx]] rfl qbK ?_; (with_reducible refine (qe5.calls qbL qcx qaI _ A2.out).mono ?_); rintro e w5 ⟨rfl, hb⟩; refine ⟨_, rfl, ?_⟩; replace qaF := qaF.mw hb; replace HB := ak_ (qaa qdt hb); (try clear hb)))
 go_ret
 exact ⟨qce, qdt⟩
def qbC (x : qac) : Bool := decide (2 ≤ x.f0) && (decide (x.f0 ≤ 60) && (decide (0 ≤ x.f1) && decide (x.f1 < x.f0)))
theorem qsg (x : qac) : qe5.f x.f0 x.f1 = some (qbC x) := by
  unfold qe5.f qbC; simp only [ge_iff_le]; by_cases h1 : 2 ≤ x.f0
  ·by_cases h2 : x.f0 ≤ 60
   ·by_cases h3 : 0 ≤ x.f1 <;> simp [h1, h2, h3]
   simp [h1, h2]
  simp [h1]
theorem qk6 : ∀ l : List qac, l.all qbC = !(l.any fun x => !qbC x)
  | [] => rfl
  | x :: l => by rw [List.all_cons, List.any_cons, qk6 l]; cases qbC x <;> simp
theorem qlP (x : qac) : qeO.f x.f0 x.f1 = some (!qbC x) := by
  unfold qeO.f; rw [qsg]
  cases qbC x <;> simp
def qa9.f (l0 : List (qac)) : Option (Bool) := some (decide (l0.length ≤ 12) && l0.all qbC)
set_option maxHeartbeats 2000000 in
theorem qa9.calls (A0 : Option Addr) (c0 : Nat) (l0 : List (qac)) (r : Bool) (w : World) (hr0 : Kd.C qaN w A0 l0.length l0) (hc0 : l0.length ≤ c0) (h : qa9.f l0 = some r) :
    Calls Tryz.prog 53 #[.slice A0 l0.length c0] w fun e w' => e = .returned (.bool r) ∧ Below w.heap.size w w' := by
  obtain rfl := Option.some.inj h; clear h
  have hcall := fun (W : World) (hb : Below w.heap.size w W) => qrk (fun x => !qbC x) 85 #[] (enters_of Tryz.func85 (by kernel_rfl) rfl) A0 c0 l0 W
    (fun W' x _ hb' => (qeO.calls x.f0 x.f1 _ W' (qlP x)).mono fun e w' ⟨he, hb2⟩ => ⟨he, hb'.trans (hb2.mono hb'.size)⟩) (Kd.qei hr0 hb)
  have HC := ak_ hcall; have hb0 := Below.refl w.heap.size w; clear hcall hr0; by_cases c2 : l0.length ≤ 12
  ·have d1 : decide (l0.length ≤ 12) = true := decide_eq_true c2; have d2 : decide ((l0.length : Int) ≤ 12) = true := decide_eq_true (by omega); rw [d1, Bool.true_and, qk6]; clear c2; go_enter Tryz.func53, Tryz.ntmps53
   go_wp2_with (go_at_call 84; refine (HC.out _ hb0).mono ?_; rintro e w' ⟨rfl, hb'⟩)
   go_ret
   exact ⟨rfl, hb'⟩
  have d1 : decide (l0.length ≤ 12) = false := decide_eq_false c2; have d2 : decide ((l0.length : Int) ≤ 12) = false := decide_eq_false (by omega); rw [d1, Bool.false_and]; go_enter Tryz.func53, Tryz.ntmps53; go_wp2
  go_ret
  exact ⟨rfl, hb0⟩
theorem qh4 (s : ByteArray) (c : UInt8) (w : World) (hs : s.size < 4294967281) (hG : qfj w) :
    Calls Tryz.prog 90 #[.string s, .string ⟨#[c]⟩] w fun e w' => e = .returned (.tuple #[.string ⟨(Lib.cut s.data.toList [c]).1.toArray⟩, .string ⟨(Lib.cut s.data.toList [c]).2.1.toArray⟩, .bool (Lib.cut s.data.toList [c]).2.2]) ∧ Below w.heap.size w w' := by
  obtain ⟨⟨m, hm⟩, -⟩ := hG; refine (Any.strings_Cut qsj s ⟨#[c]⟩ m w hs hm).mono ?_; rintro e w' ⟨rfl, n, rfl⟩; exact ⟨rfl, qaf (Below.refl _ _) _⟩
theorem qhj (s : ByteArray) (v : Int) (w : World) (hs : s.size ≤ 281474976710656) (hv : Lib.atoiAll s.data.toList = .ok v) (hG : qfj w) :
    Calls Tryz.prog 122 #[.string s] w fun e w' => e = .returned (.tuple #[.int .i64 v, .nilIface]) ∧ Below w.heap.size w w' := by
  refine (qfX s w hs hG).mono ?_; rintro e w' ⟨n, ev, rfl, ⟨h1, rfl⟩ | ⟨h1, -⟩, hb⟩
  ·rw [hv] at h1; injection h1 with h1; subst h1; exact ⟨rfl, hb⟩
  exact absurd hv (h1 v)
theorem qjW (s : ByteArray) (w : World) (hs : s.size ≤ 281474976710656) (hv : ∀ v, Lib.atoiAll s.data.toList ≠ .ok v) (hG : qfj w) :
    Calls Tryz.prog 122 #[.string s] w fun e w' => ∃ (n : Int) (te : TypeId) (pe : Value), e = .returned (.tuple #[.int .i64 n, .iface te pe]) ∧ Below w.heap.size w w' := by
  refine (qfX s w hs hG).mono ?_; rintro e w' ⟨n, ev, rfl, ⟨h1, -⟩ | ⟨-, te, pe, rfl⟩, hb⟩
  ·exact absurd h1 (hv n)
  exact ⟨n, te, pe, rfl, hb⟩
theorem toList_data (a : ByteArray) : a.toList = a.data.toList := Lib.toList_data a
theorem qmh (a : ByteArray) : a.size = a.data.toList.length := by simp
theorem toList_mk (l : List UInt8) : (⟨l.toArray⟩ : ByteArray).toList = l := by rw [toList_data]
def numOf (s : ByteArray) : Option Int := match Lib.atoiAll s.data.toList with
  | .ok v => if 0 ≤ v ∧ v ≤ 999999 ∧ Lib.itoa v = s.data.toList then some v else none
  | _ => none
theorem qhY (s : ByteArray) (w : World) (hs : s.size ≤ 281474976710656) (hG : qba w) :
    Calls Tryz.prog 72 #[.string s] w fun e w' => ∃ (n : Int) (b : Bool), e = .returned (.tuple #[.int .i64 n, .bool b]) ∧ ((b = true ∧ numOf s = some n) ∨ (b = false ∧ numOf s = none)) ∧ Below w.heap.size w w' := by
  have HG := ak_ hG; have HS := ak_ hs; have HB := ak_ (Below.refl w.heap.size w); clear hG hs; by_cases hv : ∃ v, Lib.atoiAll s.data.toList = .ok v; rotate_left
  ·have he : ∀ v, Lib.atoiAll s.data.toList ≠ .ok v := fun v h_ => hv ⟨v, h_⟩
   have hn : numOf s = none := by
     unfold numOf
     cases hc : Lib.atoiAll s.data.toList with
     | ok v => exact absurd hc (he v)
     | _ => rfl
   have HV := ak_ he; have HN := ak_ hn; clear he hv hn; go_enter Tryz.func72, Tryz.ntmps72
   go_wp2_with (first | (refine gl_ 8 Tryz.func122 #[.string s] rfl qb1 ?_; (refine (qjW s _ HS.out HV.out (qba.below HG.out qam).1).mono ?_); rintro e w2 ⟨n, te, pe, rfl, hb⟩; refine ⟨_, rfl, ?_⟩; replace HB := ak_ (qaa qam hb); clear hb))
   go_ret2
   exact ⟨n, _, rfl, .inr ⟨rfl, HN.out⟩, qam⟩
  obtain ⟨v, hv⟩ := hv
  have hn : numOf s = if 0 ≤ v ∧ v ≤ 999999 ∧ Lib.itoa v = s.data.toList then some v else none := by unfold numOf; rw [hv]
  have HV := ak_ hv; clear hv; by_cases c1 : 0 ≤ v; rotate_left
  ·have c1b : decide (0 ≤ v) = false := decide_eq_false c1; rw [if_neg (fun h_ => c1 h_.1)] at hn; have HN := ak_ hn; clear hn c1; go_enter Tryz.func72, Tryz.ntmps72
   go_wp2_with (first | (refine gl_ 8 Tryz.func122 #[.string s] rfl qb1 ?_; (refine (qhj s v _ HS.out HV.out (qba.below HG.out qam).1).mono ?_); rintro e w2 ⟨rfl, hb⟩; refine ⟨_, rfl, ?_⟩; replace HB := ak_ (qaa qam hb); clear hb))
   go_ret2
   exact ⟨v, _, rfl, .inr ⟨rfl, HN.out⟩, qam⟩
  have c1b : decide (0 ≤ v) = true := decide_eq_true c1; by_cases c2 : v ≤ 999999; rotate_left
  ·have c2b : decide (v ≤ 999999) = false := decide_eq_false c2; rw [if_neg (fun h_ => c2 h_.2.1)] at hn; have HN := ak_ hn; clear hn c2; go_enter Tryz.func72, Tryz.ntmps72
   go_wp2_with (first | (refine gl_ 8 Tryz.func122 #[.string s] rfl qb1 ?_; (refine (qhj s v _ HS.out HV.out (qba.below HG.out qam).1).mono ?_); rintro e w2 ⟨rfl, hb⟩; refine ⟨_, rfl, ?_⟩; replace HB := ak_ (qaa qam hb); clear hb))
   go_ret2
   exact ⟨v, _, rfl, .inr ⟨rfl, HN.out⟩, qam⟩
  have c2b : decide (v ≤ 999999) = true := decide_eq_true c2; by_cases c3 : Lib.itoa v = s.data.toList
  ·rw [if_pos ⟨c1, c2, c3⟩] at hn; have HN := ak_ hn; clear hn
   obtain ⟨tx, htx⟩ : ∃ x : ByteArray, x = ⟨(Lib.itoa v).toArray⟩ := ⟨_, rfl⟩
   have HT := ak_ (show qbk.f v = some tx from by unfold qbk.f; rw [if_pos (by omega), htx])
   have hxd : tx.toList = Lib.itoa v := by rw [htx]; exact toList_mk _
   have hxc : (tx.toList == s.toList) = true := beq_iff_eq.2 (by rw [hxd, c3, toList_data]); clear c3 htx hxd; go_enter Tryz.func72, Tryz.ntmps72
   go_wp2_with (first | (refine gl_ 8 Tryz.func122 #[.string s] rfl qb1 ?_; (refine (qhj s v _ HS.out HV.out (qba.below HG.out qam).1).mono ?_); rintro e w2 ⟨rfl, hb⟩; refine ⟨_, rfl, ?_⟩; replace HB := ak_ (qaa qam hb); clear hb) | (refine gl_ 24 Tryz.func87 #[.int .i64 v] rfl qb1 ?_; (refine (qbk.calls v tx _ HT.out (qba.below HG.out qam)).mono ?_); rintro e w3 ⟨rfl, hb⟩; refine ⟨_, rfl, ?_⟩; replace HB := ak_ (qaa qam hb); clear hb))
   go_ret2
   exact ⟨v, _, rfl, .inl ⟨rfl, HN.out⟩, qam⟩
  rw [if_neg (fun h_ => c3 h_.2.2)] at hn; have HN := ak_ hn; clear hn
  obtain ⟨tx, htx⟩ : ∃ x : ByteArray, x = ⟨(Lib.itoa v).toArray⟩ := ⟨_, rfl⟩
  have HT := ak_ (show qbk.f v = some tx from by unfold qbk.f; rw [if_pos (by omega), htx])
  have hxd : tx.toList = Lib.itoa v := by rw [htx]; exact toList_mk _
  have hxc : (tx.toList == s.toList) = false := beq_eq_false_iff_ne.2 (fun h_ => c3 (by rw [← hxd, h_, toList_data])); clear c3 htx hxd; go_enter Tryz.func72, Tryz.ntmps72
  go_wp2_with (first | (refine gl_ 8 Tryz.func122 #[.string s] rfl qb1 ?_; (refine (qhj s v _ HS.out HV.out (qba.below HG.out qam).1).mono ?_); rintro e w2 ⟨rfl, hb⟩; refine ⟨_, rfl, ?_⟩; replace HB := ak_ (qaa qam hb); clear hb) | (refine gl_ 24 Tryz.func87 #[.int .i64 v] rfl qb1 ?_; (refine (qbk.calls v tx _ HT.out (qba.below HG.out qam)).mono ?_); rintro e w3 ⟨rfl, hb⟩; refine ⟨_, rfl, ?_⟩; replace HB := ak_ (qaa qam hb); clear hb))
  go_ret2
  exact ⟨v, _, rfl, .inr ⟨rfl, HN.out⟩, qam⟩
def qfW (x : ByteArray) : Option qac := match Lib.atoiAll (Lib.cut x.data.toList [58]).1, Lib.atoiAll (Lib.cut x.data.toList [58]).2.1 with
  | .ok a, .ok b => some ⟨a, b⟩
  | _, _ => none
def qdJ : List ByteArray → Option (List qac)
  | [] => some []
  | x :: l => (qfW x).bind fun r => (qdJ l).bind fun t => some (r :: t)
theorem qh0 : ∀ (l : List ByteArray) (x : ByteArray) (a : List qac) (r : qac), qdJ l = some a → qfW x = some r → qdJ (l ++ [x]) = some (a ++ [r])
  | [], x, a, r, h, hx => by obtain rfl := Option.some.inj h; simp [qdJ, hx]
  | y :: l, x, a, r, h, hx => by
    obtain ⟨b, hb, h⟩ := Option.bind_eq_some_iff.1 h; obtain ⟨c, hc, h⟩ := Option.bind_eq_some_iff.1 h; obtain rfl := Option.some.inj h
    simp [qdJ, hb, qh0 l x c r hc hx]
theorem qhZ : ∀ (l : List ByteArray) (i : Nat) (x : ByteArray), l[i]? = some x → qfW x = none → qdJ l = none
  | y :: l, 0, x, h, hx => by obtain rfl : y = x := by simpa using h
                              simp [qdJ, hx]
  | y :: l, i + 1, x, h, hx => by
    have := qhZ l i x (by simpa using h) hx; unfold qdJ; rw [this]
    cases qfW y <;> rfl
theorem qg6 : ∀ (l : List ByteArray) (a : List qac), qdJ l = some a → a.length = l.length
  | [], a, h => by obtain rfl := Option.some.inj h; rfl
  | y :: l, a, h => by
    obtain ⟨b, hb, h⟩ := Option.bind_eq_some_iff.1 h; obtain ⟨c, hc, h⟩ := Option.bind_eq_some_iff.1 h; obtain rfl := Option.some.inj h
    simp [qg6 l c hc]
theorem qi4 (sep : ByteArray) : ∀ (k : Nat) (s x : ByteArray), x ∈ Lib.splitB sep 0 k s → x.size ≤ s.size
  | 0, s, x, h => by rw [Lib.splitB_zero, List.mem_singleton] at h; rw [h]; exact Nat.le_refl _
  | k + 1, s, x, h => by
    unfold Lib.splitB at h; split at h
    ·rw [List.mem_singleton] at h; rw [h]; exact Nat.le_refl _
    rcases List.mem_cons.1 h with h | h
    ·rw [h, ByteArray.size_extract]; omega
    have := qi4 sep k _ x h; rw [ByteArray.size_extract] at this; omega
def qgw (c : UInt8) (s : ByteArray) : List ByteArray := Lib.splitB ⟨#[c]⟩ 0 (Lib.countB s ⟨#[c]⟩) s
theorem qk0 (c : UInt8) (s : ByteArray) : (qgw c s).length ≤ s.size + 1 := by
  unfold qgw; rw [Lib.splitB_all ⟨#[c]⟩ (Nat.le_refl 1) 0 _ s rfl]; have := Lib.countB_le ⟨#[c]⟩ (Nat.le_refl 1) s.size s (Nat.le_refl _); omega
def qaT.l0 (k : Nat) (s : ByteArray) (l : List qac) : Option (List qac × Bool) := (qa9.f l).bind fun t => if t = true then ((qaE.f k l).bind fun txt => if txt.toList = s.toList then some (l, true) else some ([], false)) else some ([], false)
def qaT.f (k : Nat) (s : ByteArray) : Option (List qac × Bool) := if s.size ≤ 1048576 then (if s.toList = [45] then qaT.l0 k s [] else (match qdJ (qgw 44 s) with
  | none => some ([], false)
  | some l => qaT.l0 k s l)) else none
theorem cut_len1 (s : List UInt8) (sep : List UInt8) : (Lib.cut s sep).1.length ≤ s.length := by
  unfold Lib.cut; split
  ·simp only [List.length_take]; omega
  simp
theorem qaT.calls (k : Nat) (s : ByteArray) (r1 : List qac) (r2 : Bool) (w : World) (h : qaT.f k s = some (r1, r2)) (hG : qba w) :
    Calls Tryz.prog 70 #[.string s] w fun e w' => ∃ v0_ : Value, e = .returned (.tuple #[v0_, .bool r2]) ∧ Kd.R qaN 85 w' w.heap.size (fun _ => True) v0_ r1 ∧ Below w.heap.size w w' := by
  have hu50 := Tryz.underlying85; have HG := ak_ hG; have HB := ak_ (Below.refl w.heap.size w); clear hG; unfold qaT.f at h; by_cases hs : s.size ≤ 1048576; rotate_left
  ·rw [if_neg hs] at h; exact absurd h (by simp)
  rw [if_pos hs] at h; have HS := ak_ hs; by_cases hd : s.toList = [45]
  ·rw [if_pos hd] at h; have hdb : (s.toList != [45]) = false := bne_eq_false_iff_eq.2 hd; have hdc : (s.toList == [45]) = true := beq_iff_eq.2 hd; clear hd hs
   obtain ⟨l, hl⟩ : ∃ l : List qac, l = [] := ⟨_, rfl⟩
   rw [← hl] at h; have HL := ak_ hl; clear hl; have H : (qaT.l0 k s l) = some (r1, r2) := h; unfold qaT.l0 at H; clear h; obtain ⟨t, A1, H⟩ := qaw H
   cases t with
   | false =>
     rw [if_neg (by decide)] at H; obtain ⟨rfl, rfl⟩ := qdI H; go_enter Tryz.func70, Tryz.ntmps70
     go_wp2_with (first | ((with_reducible refine qak (N := 14) rfl ?_); refine li_ qaN 85 14 rfl (xs := ([] : List qac)) qbb ?_; intro vl14 w1 ho hb; have HO4 := ak_ (Kd.qau ho (qab qam)); replace HB := HB.mw hb; clear hb ho; rw [← HL.out] at HO4; obtain ⟨Ar, cr, er⟩ := Kd.qaJ HO4.out; subst er) | (refine gl_ 54 Tryz.func53 #[.slice Ar l.length cr] rfl qb1 ?_; (refine (qa9.calls _ _ l false _ k45_ (Kd.R_reads' HO4.out).2.1 A1.out).mono ?_); rintro e wa ⟨rfl, hb⟩; refine ⟨_, rfl, ?_⟩; replace HB := ak_ (qaa qam hb); replace HO4 := HO4.mw hb; clear hb))
     go_ret2
     exact ⟨_, rfl, Kd.qfO _ _ _ _ _, qam⟩
   | true =>
     rw [if_pos rfl] at H; obtain ⟨txt, A2, H⟩ := qaw H; by_cases hx : txt.toList = s.toList
     ·rw [if_pos hx] at H; obtain ⟨rfl, rfl⟩ := qdI H; have hxb : (txt.toList != s.toList) = false := bne_eq_false_iff_eq.2 hx; have hxc : (txt.toList == s.toList) = true := beq_iff_eq.2 hx; clear hx; go_enter Tryz.func70, Tryz.ntmps70
      go_wp2_with (first | ((with_reducible refine qak (N := 14) rfl ?_); refine li_ qaN 85 14 rfl (xs := ([] : List qac)) qbb ?_; intro vl14 w1 ho hb; have HO4 := ak_ (Kd.qau ho (qab qam)); replace HB := HB.mw hb; clear hb ho; rw [← HL.out] at HO4; obtain ⟨Ar, cr, er⟩ := Kd.qaJ HO4.out; subst er) | (refine gl_ 54 Tryz.func53 #[.slice Ar l.length cr] rfl qb1 ?_; (refine (qa9.calls _ _ l true _ k45_ (Kd.R_reads' HO4.out).2.1 A1.out).mono ?_); rintro e wa ⟨rfl, hb⟩; refine ⟨_, rfl, ?_⟩; replace HB := ak_ (qaa qam hb); replace HO4 := HO4.mw hb; clear hb) | (refine gl_ 58 Tryz.func54 #[.slice Ar l.length cr] rfl qb1 ?_; (refine (qaE.calls k _ _ l txt _ k45_ (Kd.R_reads' HO4.out).2.1 A2.out).mono ?_); rintro e wb ⟨rfl, hb⟩; refine ⟨_, rfl, ?_⟩; replace HB := ak_ (qaa qam hb); replace HO4 := HO4.mw hb; clear hb))
      go_ret2
      exact ⟨_, rfl, (by apply_rules only [HO4.out, Kd.qaq, Kd.qar, Kd.qaC]), qam⟩
     rw [if_neg hx] at H; obtain ⟨rfl, rfl⟩ := qdI H; have hxb : (txt.toList != s.toList) = true := bne_iff_ne.2 hx; have hxc : (txt.toList == s.toList) = false := beq_eq_false_iff_ne.2 hx; clear hx; go_enter Tryz.func70, Tryz.ntmps70
     go_wp2_with (first | ((with_reducible refine qak (N := 14) rfl ?_); refine li_ qaN 85 14 rfl (xs := ([] : List qac)) qbb ?_; intro vl14 w1 ho hb; have HO4 := ak_ (Kd.qau ho (qab qam)); replace HB := HB.mw hb; clear hb ho; rw [← HL.out] at HO4; obtain ⟨Ar, cr, er⟩ := Kd.qaJ HO4.out; subst er) | (refine gl_ 54 Tryz.func53 #[.slice Ar l.length cr] rfl qb1 ?_; (refine (qa9.calls _ _ l true _ k45_ (Kd.R_reads' HO4.out).2.1 A1.out).mono ?_); rintro e wa ⟨rfl, hb⟩; refine ⟨_, rfl, ?_⟩; replace HB := ak_ (qaa qam hb); replace HO4 := HO4.mw hb; clear hb) | (refine gl_ 58 Tryz.func54 #[.slice Ar l.length cr] rfl qb1 ?_; (refine (qaE.calls k _ _ l txt _ k45_ (Kd.R_reads' HO4.out).2.1 A2.out).mono ?_); rintro e wb ⟨rfl, hb⟩; refine ⟨_, rfl, ?_⟩; replace HB := ak_ (qaa qam hb); replace HO4 := HO4.mw hb; clear hb))
     go_ret2
     exact ⟨_, rfl, Kd.qfO _ _ _ _ _, qam⟩
  rw [if_neg hd] at h; have hdb : (s.toList != [45]) = true := bne_iff_ne.2 hd; have hdc : (s.toList == [45]) = false := beq_eq_false_iff_ne.2 hd; have hwl := qk0 44 s
  obtain ⟨ws, hws⟩ : ∃ ws, ws = qgw 44 s := ⟨_, rfl⟩
  rw [← hws] at h hwl; have HWL := ak_ (show ws.length ≤ 1048577 from by omega); have HWE := ak_ hws; have HWM := ak_ (show ∀ x ∈ ws, x.size ≤ 1048576 from fun x hx => by have := qi4 _ _ s x (by rw [hws] at hx; exact hx); omega); have H' := ak_ h; clear hd hs h hwl hws; go_enter Tryz.func70, Tryz.ntmps70
  go_wp2_with (first | ((with_reducible refine qak (N := 14) rfl ?_); refine li_ qaN 85 14 rfl (xs := ([] : List qac)) qbb ?_; intro vl14 w0 ho hb; have HO4 := ak_ (Kd.qau ho (qab qam)); replace HB := HB.mw hb; clear hb ho) | (refine gl_ 18 Tryz.func68 #[.string s, .string ⟨#[44]⟩] rfl qb1 ?_; (refine (qdg s ⟨#[44]⟩ _ (by have := HS.out; omega) rfl (qba.below HG.out qam)).mono ?_); rintro e w1 ⟨vw, rfl, how, hb⟩; refine ⟨_, rfl, ?_⟩; have HW := ak_ (show Kd.R Kd.string 9 _ w.heap.size (fun _ => True) vw ws from qpL); replace HO4 := HO4.mw hb; replace HB := ak_ (qaa qam hb); obtain ⟨Aw, cw, ew⟩ := Kd.qaJ HW.out; subst ew; clear hb how))
  go_loopg [4, 20] ws.length (fun kq v4 v20 w' => ∃ (qcs : List qac) (qgi : Int), v20 = .int .i64 qgi ∧ qag (0 ≤ qgi ∧ qgi ≤ (ws.length : Int)) ∧ qag (qdJ (ws.take qgi.toNat) = some qcs) ∧ qag (ws.length - qgi.toNat ≤ kq) ∧ qag (Kd.R qaN 85 w' w.heap.size (fun _ => True) v4 qcs) ∧ qag (Kd.R Kd.string 9 w' w.heap.size (fun _ => True) (.slice Aw ws.length cw) ws) ∧ qag (Below w.heap.size w w'))
  case atStart => exact ⟨[], 0, rfl, ⟨by omega⟩, ⟨rfl⟩, ⟨by simp⟩, ⟨(by apply_rules only [HO4.out, Kd.qaq, Kd.qar, Kd.qaC])⟩, ⟨(by apply_rules only [HW.out, Kd.qaq, Kd.qar, Kd.qaC])⟩, ⟨qam⟩⟩
  case round =>
    obtain ⟨qcs, qgi, rfl, HX, HWR, HK, qdn, HW, HB⟩ := hrel; by_cases c1 : qgi < (ws.length : Int); rotate_left
    ·have c1b : decide (qgi < (ws.length : Int)) = false := decide_eq_false c1; have hE := HWR.out; rw [List.take_of_length_le (by have := HX.out; omega)] at hE; have H := H'.out; rw [hE] at H; replace H : (qaT.l0 k s qcs) = some (r1, r2) := H; unfold qaT.l0 at H; clear c1 hE; have HO4 := qdn; clear qdn
     obtain ⟨l, hl⟩ : ∃ l, l = qcs := ⟨_, rfl⟩
     rw [← hl] at H HO4; clear hl; obtain ⟨Ar, cr, er⟩ := Kd.qaJ HO4.out; subst er; obtain ⟨t, A1, H⟩ := qaw H
     cases t with
     | false =>
       rw [if_neg (by decide)] at H; obtain ⟨rfl, rfl⟩ := qdI H
       go_wp2_with (first | (refine gl_ 54 Tryz.func53 #[.slice Ar l.length cr] rfl qb1 ?_; (refine (qa9.calls _ _ l false _ k45_ (Kd.R_reads' HO4.out).2.1 A1.out).mono ?_); rintro e wa ⟨rfl, hb⟩; refine ⟨_, rfl, ?_⟩; replace HB := ak_ (qaa qam hb); replace HO4 := HO4.mw hb; clear hb))
       go_ret2
       exact ⟨_, rfl, Kd.qfO _ _ _ _ _, qam⟩
     | true =>
       rw [if_pos rfl] at H; obtain ⟨txt, A2, H⟩ := qaw H; by_cases hx : txt.toList = s.toList
       ·rw [if_pos hx] at H; obtain ⟨rfl, rfl⟩ := qdI H; have hxb : (txt.toList != s.toList) = false := bne_eq_false_iff_eq.2 hx; have hxc : (txt.toList == s.toList) = true := beq_iff_eq.2 hx; clear hx
        go_wp2_with (first | (refine gl_ 54 Tryz.func53 #[.slice Ar l.length cr] rfl qb1 ?_; (refine (qa9.calls _ _ l true _ k45_ (Kd.R_reads' HO4.out).2.1 A1.out).mono ?_); rintro e wa ⟨rfl, hb⟩; refine ⟨_, rfl, ?_⟩; replace HB := ak_ (qaa qam hb); replace HO4 := HO4.mw hb; clear hb) | (refine gl_ 58 Tryz.func54 #[.slice Ar l.length cr] rfl qb1 ?_; (refine (qaE.calls k _ _ l txt _ k45_ (Kd.R_reads' HO4.out).2.1 A2.out).mono ?_); rintro e wb ⟨rfl, hb⟩; refine ⟨_, rfl, ?_⟩; replace HB := ak_ (qaa qam hb); replace HO4 := HO4.mw hb; clear hb))
        go_ret2
        exact ⟨_, rfl, (by apply_rules only [HO4.out, Kd.qaq, Kd.qar, Kd.qaC]), qam⟩
       rw [if_neg hx] at H; obtain ⟨rfl, rfl⟩ := qdI H; have hxb : (txt.toList != s.toList) = true := bne_iff_ne.2 hx; have hxc : (txt.toList == s.toList) = false := beq_eq_false_iff_ne.2 hx; clear hx
       go_wp2_with (first | (refine gl_ 54 Tryz.func53 #[.slice Ar l.length cr] rfl qb1 ?_; (refine (qa9.calls _ _ l true _ k45_ (Kd.R_reads' HO4.out).2.1 A1.out).mono ?_); rintro e wa ⟨rfl, hb⟩; refine ⟨_, rfl, ?_⟩; replace HB := ak_ (qaa qam hb); replace HO4 := HO4.mw hb; clear hb) | (refine gl_ 58 Tryz.func54 #[.slice Ar l.length cr] rfl qb1 ?_; (refine (qaE.calls k _ _ l txt _ k45_ (Kd.R_reads' HO4.out).2.1 A2.out).mono ?_); rintro e wb ⟨rfl, hb⟩; refine ⟨_, rfl, ?_⟩; replace HB := ak_ (qaa qam hb); replace HO4 := HO4.mw hb; clear hb))
       go_ret2
       exact ⟨_, rfl, Kd.qfO _ _ _ _ _, qam⟩
    have c1b : decide (qgi < (ws.length : Int)) = true := decide_eq_true c1; have qeE : 0 ≤ qgi := HX.out.1
    have hp : qgi.toNat < ws.length := by omega
    obtain ⟨qgB, qha, qbj⟩ := Kd.qeu (Kd.R_reads' HW.out).2.2 qgi qeE c1
    cases qha
    obtain ⟨x, hx⟩ : ∃ x, x = qeW ByteArray.empty ws qgi := ⟨_, rfl⟩
    rw [← hx] at qbj
    have hxi : ws[qgi.toNat]? = some x := by rw [hx, qeW, List.getElem?_eq_getElem hp]; simp [List.getD, hp]
    have HXS := ak_ (HWM.out x (List.mem_of_getElem? hxi)); have hl1 := cut_len1 x.data.toList [58]; have hl2 := qod x.data.toList [58]
    obtain ⟨bf, hbf⟩ : ∃ x_ : ByteArray, x_ = ⟨(Lib.cut x.data.toList [58]).1.toArray⟩ := ⟨_, rfl⟩
    obtain ⟨nb, hnb⟩ : ∃ x_ : ByteArray, x_ = ⟨(Lib.cut x.data.toList [58]).2.1.toArray⟩ := ⟨_, rfl⟩
    have hbd : bf.data.toList = (Lib.cut x.data.toList [58]).1 := by rw [hbf]
    have hnd : nb.data.toList = (Lib.cut x.data.toList [58]).2.1 := by rw [hnb]
    have HbfS := ak_ (show bf.size ≤ 1048576 from by have h_ := HXS.out; rw [qmh] at h_ ⊢; rw [hbd]; omega); have HnbS := ak_ (show nb.size ≤ 1048576 from by have h_ := HXS.out; rw [qmh] at h_ ⊢; rw [hnd]; omega); have HBF := ak_ hbf; have HNB := ak_ hnb
    have hwr : qfW x = match Lib.atoiAll bf.data.toList, Lib.atoiAll nb.data.toList with
      | .ok a, .ok b => some ⟨a, b⟩
      | _, _ => none := by unfold qfW; rw [hbd, hnd]
    have qeE := eq_true qeE; have qeI := eq_true c1; have HXI := ak_ hxi; clear hbf hnb hbd hnd hl1 hl2 hx c1 hxi
    have hbad : qfW x = none → r1 = [] ∧ r2 = false := fun hn => by
      have h_ := H'.out; rw [qhZ ws _ x HXI.out hn] at h_; simp only [Option.some.injEq, Prod.mk.injEq] at h_; exact ⟨h_.1.symm, h_.2.symm⟩
    by_cases ha : ∃ a, Lib.atoiAll bf.data.toList = .ok a; rotate_left
    ·have ha2 : ∀ v, Lib.atoiAll bf.data.toList ≠ .ok v := fun v h_ => ha ⟨v, h_⟩
     obtain ⟨rfl, rfl⟩ := hbad (by rw [hwr]; cases hc : Lib.atoiAll bf.data.toList with | ok v => exact absurd hc (ha2 v) | _ => rfl); have HbfV := ak_ ha2; by_cases hb : ∃ b, Lib.atoiAll nb.data.toList = .ok b
     ·obtain ⟨b, hb⟩ := hb; have HnbV := ak_ hb; clear ha hb ha2 hwr hp
      go_wp2_with (first | (refine gl_ 26 Tryz.func90 #[.string x, .string ⟨#[58]⟩] rfl qb1 ?_; (refine (qh4 x 58 _ (by have := HXS.out; omega) (qba.below HG.out qam).1).mono ?_); rintro e w2 ⟨rfl, hb⟩; refine ⟨_, rfl, ?_⟩; replace HB := ak_ (qaa qam hb); replace qdn := qdn.mw hb; replace HW := HW.mw hb; clear hb; rw [← HBF.out, ← HNB.out]) | (refine gl_ 32 Tryz.func122 #[.string bf] rfl qb1 ?_; (refine (qjW bf _ (by have := HbfS.out; omega) HbfV.out (qba.below HG.out qam).1).mono ?_); rintro e w32 ⟨n32, te32, pe32, rfl, hb⟩; refine ⟨_, rfl, ?_⟩; replace HB := ak_ (qaa qam hb); replace qdn := qdn.mw hb; replace HW := HW.mw hb; clear hb) | (refine gl_ 37 Tryz.func122 #[.string nb] rfl qb1 ?_; (refine (qhj nb b _ (by have := HnbS.out; omega) HnbV.out (qba.below HG.out qam).1).mono ?_); rintro e w37 ⟨rfl, hb⟩; refine ⟨_, rfl, ?_⟩; replace HB := ak_ (qaa qam hb); replace qdn := qdn.mw hb; replace HW := HW.mw hb; clear hb))
      go_ret2
      exact ⟨_, rfl, Kd.qfO _ _ _ _ _, qam⟩
     have hb2 : ∀ v, Lib.atoiAll nb.data.toList ≠ .ok v := fun v h_ => hb ⟨v, h_⟩
     have HnbV := ak_ hb2; clear ha hb hb2 ha2 hwr hp
     go_wp2_with (first | (refine gl_ 26 Tryz.func90 #[.string x, .string ⟨#[58]⟩] rfl qb1 ?_; (refine (qh4 x 58 _ (by have := HXS.out; omega) (qba.below HG.out qam).1).mono ?_); rintro e w2 ⟨rfl, hb⟩; refine ⟨_, rfl, ?_⟩; replace HB := ak_ (qaa qam hb); replace qdn := qdn.mw hb; replace HW := HW.mw hb; clear hb; rw [← HBF.out, ← HNB.out]) | (refine gl_ 32 Tryz.func122 #[.string bf] rfl qb1 ?_; (refine (qjW bf _ (by have := HbfS.out; omega) HbfV.out (qba.below HG.out qam).1).mono ?_); rintro e w32 ⟨n32, te32, pe32, rfl, hb⟩; refine ⟨_, rfl, ?_⟩; replace HB := ak_ (qaa qam hb); replace qdn := qdn.mw hb; replace HW := HW.mw hb; clear hb) | (refine gl_ 37 Tryz.func122 #[.string nb] rfl qb1 ?_; (refine (qjW nb _ (by have := HnbS.out; omega) HnbV.out (qba.below HG.out qam).1).mono ?_); rintro e w37 ⟨n37, te37, pe37, rfl, hb⟩; refine ⟨_, rfl, ?_⟩; replace HB := ak_ (qaa qam hb); replace qdn := qdn.mw hb; replace HW := HW.mw hb; clear hb))
     go_ret2
     exact ⟨_, rfl, Kd.qfO _ _ _ _ _, qam⟩
    obtain ⟨a, ha⟩ := ha; by_cases hb : ∃ b, Lib.atoiAll nb.data.toList = .ok b; rotate_left
    ·have hb2 : ∀ v, Lib.atoiAll nb.data.toList ≠ .ok v := fun v h_ => hb ⟨v, h_⟩
     obtain ⟨rfl, rfl⟩ := hbad (by rw [hwr, ha]; cases hc : Lib.atoiAll nb.data.toList with | ok v => exact absurd hc (hb2 v) | _ => rfl); have HbfV := ak_ ha; have HnbV := ak_ hb2; clear ha hb hb2 hwr hp
     go_wp2_with (first | (refine gl_ 26 Tryz.func90 #[.string x, .string ⟨#[58]⟩] rfl qb1 ?_; (refine (qh4 x 58 _ (by have := HXS.out; omega) (qba.below HG.out qam).1).mono ?_); rintro e w2 ⟨rfl, hb⟩; refine ⟨_, rfl, ?_⟩; replace HB := ak_ (qaa qam hb); replace qdn := qdn.mw hb; replace HW := HW.mw hb; clear hb; rw [← HBF.out, ← HNB.out]) | (refine gl_ 32 Tryz.func122 #[.string bf] rfl qb1 ?_; (refine (qhj bf a _ (by have := HbfS.out; omega) HbfV.out (qba.below HG.out qam).1).mono ?_); rintro e w32 ⟨rfl, hb⟩; refine ⟨_, rfl, ?_⟩; replace HB := ak_ (qaa qam hb); replace qdn := qdn.mw hb; replace HW := HW.mw hb; clear hb) | (refine gl_ 37 Tryz.func122 #[.string nb] rfl qb1 ?_; (refine (qjW nb _ (by have := HnbS.out; omega) HnbV.out (qba.below HG.out qam).1).mono ?_); rintro e w37 ⟨n37, te37, pe37, rfl, hb⟩; refine ⟨_, rfl, ?_⟩; replace HB := ak_ (qaa qam hb); replace qdn := qdn.mw hb; replace HW := HW.mw hb; clear hb))
     go_ret2
     exact ⟨_, rfl, Kd.qfO _ _ _ _ _, qam⟩
    obtain ⟨b, hb⟩ := hb; rw [ha, hb] at hwr; have HbfV := ak_ ha; have HnbV := ak_ hb; have hlx := qg6 _ _ HWR.out; rw [List.length_take, Nat.min_eq_left (Nat.le_of_lt hp)] at hlx; have HLn := ak_ (show qcs.length < 8796093022208 from by have := HWL.out; omega)
    have HWR2 := ak_ (show qdJ (ws.take (wrap64 (qgi + 1)).toNat) = some (qcs ++ [⟨a, b⟩]) by
      have e_ : (wrap64 (qgi + 1)).toNat = qgi.toNat + 1 := by have := HX.out; have := HWL.out; unfold wrap64; omega
      rw [e_, List.take_succ_eq_append_getElem hp]; refine qh0 _ _ _ _ HWR.out ?_; have := HXI.out; rw [List.getElem?_eq_getElem hp] at this; rw [Option.some.inj this]
      exact hwr)
    have HX2 := ak_ (show 0 ≤ wrap64 (qgi + 1) ∧ wrap64 (qgi + 1) ≤ (ws.length : Int) ∧ ws.length - (wrap64 (qgi + 1)).toNat ≤ ws.length - qgi.toNat - 1 from by have := HX.out; have := HWL.out; unfold wrap64; omega); have HPx := ak_ hp; clear ha hb hwr hbad hlx hp
    go_wp2_with (first | (refine gl_ 26 Tryz.func90 #[.string x, .string ⟨#[58]⟩] rfl qb1 ?_; (refine (qh4 x 58 _ (by have := HXS.out; omega) (qba.below HG.out qam).1).mono ?_); rintro e w2 ⟨rfl, hb⟩; refine ⟨_, rfl, ?_⟩; replace HB := ak_ (qaa qam hb); replace qdn := qdn.mw hb; replace HW := HW.mw hb; clear hb; rw [← HBF.out, ← HNB.out]) | (refine gl_ 32 Tryz.func122 #[.string bf] rfl qb1 ?_; (refine (qhj bf a _ (by have := HbfS.out; omega) HbfV.out (qba.below HG.out qam).1).mono ?_); rintro e w32 ⟨rfl, hb⟩; refine ⟨_, rfl, ?_⟩; replace HB := ak_ (qaa qam hb); replace qdn := qdn.mw hb; replace HW := HW.mw hb; clear hb) | (refine gl_ 37 Tryz.func122 #[.string nb] rfl qb1 ?_; (refine (qhj nb b _ (by have := HnbS.out; omega) HnbV.out (qba.below HG.out qam).1).mono ?_); rintro e w37 ⟨rfl, hb⟩; refine ⟨_, rfl, ?_⟩; replace HB := ak_ (qaa qam hb); replace qdn := qdn.mw hb; replace HW := HW.mw hb; clear hb) | ((with_reducible refine qa3 (b := .append) (xs := #[.tmp 46, .tmp 50]) rfl ?_); at_builtin; refine Kd.qc8 qaN (w0 := w) w.heap.size rfl (.tmp 46) (.tmp 50) 26 85 (.agg #[(.int .i64 0), (.int .i64 0)]) 16 rfl Tryz.underlying26 qcW rfl (by decide) (by omega) u4 qcs (⟨a, b⟩ : qac) [.int .i64 a, .int .i64 b] (fun _ => True) (fun _ => False) rfl rfl ?aP (fun _ hk => hk.elim) ?aF ?aO ?aB ?aS ?aL ?_; (case aP => exact qdo _ _ _ (⟨a, b⟩ : qac)); (case aB => exact qam); (case aF => exact (fun _ _ => trivial)); (case aO => exact qjI); (case aS => exact (qab qam)); (case aL => have := HLn.out; omega); intro v51 w51 ho hb hg hat; replace HW := ak_ (Kd.R_over' (by apply_rules only [HW.out, Kd.qaq, Kd.qar, Kd.qaC]) (Kd.qh3 qjI) (by decide) hg); replace HB := ak_ (hb); have HO51 := ak_ (ho); clear qdn; clear ho hb hg hat))
    go_roundg (ws.length - qgi.toNat - 1)
    case measure => have := HK.out; have := HPx.out; omega
    case rel => exact ⟨qcs ++ [⟨a, b⟩], wrap64 (qgi + 1), by first | rfl | simp, ⟨⟨HX2.out.1, HX2.out.2.1⟩⟩, HWR2, ⟨HX2.out.2.2⟩, ⟨(by apply_rules only [HO51.out, Kd.qaq, Kd.qar, Kd.qaC])⟩, ⟨(by apply_rules only [HW.out, Kd.qaq, Kd.qar, Kd.qaC])⟩, ⟨qam⟩⟩
def qfD (w : World) (base g : Nat) (rs : List qac) (mo : Int) : Prop := ∃ A c, w.heap[g]? = some (.cells #[.slice A rs.length c, .int .i64 mo] 28 (0, 0)) ∧ Kd.R qaN 85 w base (fun _ => True) (.slice A rs.length c) rs
def qcu (w w' : World) (g : Nat) : Prop := qeA w w' g none ∧ w'.os = w.os ∧ w'.tape = w.tape ∧ w'.output = w.output
theorem ho_ {w : World} {g : Nat} {t : TypeId} {cs cs' : Array Value} (h : w.heap[g]? = some (.cells cs t (0, 0))) (e : cs = cs') : w.heap[g]? = some (.cells cs' t (0, 0)) := e ▸ h
theorem qcu.qbN {w w1 : World} (h : Below w.heap.size w w1) (g : Nat) : qcu w w1 g := ⟨qeA.qbN h g none, h.os, h.tape, h.output⟩
theorem qcu.set_ {w w1 : World} {g : Nat} (h : qcu w w1 g) (j : Nat) (u : Value) : qcu w (w1.setCell ⟨g, j, none⟩ u) g := ⟨qeA.set_ h.1 j u, h.2.1, h.2.2.1, h.2.2.2⟩
theorem qcu.trans {w w1 w2 : World} {g : Nat} (h : qcu w w1 g) (k : qcu w1 w2 g) : qcu w w2 g := ⟨qeA.trans h.1 k.1 (.inl rfl), k.2.1.trans h.2.1, k.2.2.1.trans h.2.2.1, k.2.2.2.trans h.2.2.2⟩
theorem qcu.below {B : Nat} {w w1 w2 : World} {g : Nat} (h : Below B w w1) (k : qcu w1 w2 g) (hg : B ≤ g) (hs : B ≤ w1.heap.size) : Below B w w2 :=
  h.trans ⟨k.2.1, k.2.2.1, k.2.2.2, k.1.1, fun i hi => k.1.2 i (by omega) (by omega) (by simp)⟩
def qe3 (k : Nat) (rs xs : List qac) (ok : Bool) : Option (List qac × ByteArray) := if ok = true then ((qa9.f xs).bind fun t => if t = true then ((qaE.f k xs).bind fun s => some (xs, s)) else some (rs, (⟨#[110, 111]⟩ : ByteArray))) else some (rs, (⟨#[110, 111]⟩ : ByteArray))
theorem qeM (k base g : Nat) (A : Option Addr) (c : Nat) (xs : List qac) (ok : Bool) (rs : List qac) (mo : Int) (rs' : List qac) (txt : ByteArray) (w : World) (hD : qfD w base g rs mo) (hR : Kd.R qaN 85 w base (fun _ => True) (.slice A xs.length c) xs) (h : qe3 k rs xs ok = some (rs', txt)) :
    Calls Tryz.prog 71 #[.pointer (some ⟨g, 0, none⟩), .slice A xs.length c, .bool ok] w fun e w' => e = .returned (.string txt) ∧ qfD w' base g rs' mo ∧ qcu w w' g := by
  obtain ⟨A0, c0, hC, hO⟩ := hD; have HC := ak_ hC; have HO := ak_ hO; have HX := ak_ hR; have HB := ak_ (Below.refl w.heap.size w); obtain ⟨qqm, qqn, qqg, qqh⟩ := qbG HC.out; clear hC hO hR; unfold qe3 at h
  cases ok with
  | false =>
    rw [if_neg (by decide)] at h; obtain ⟨rfl, rfl⟩ := qdI h; go_enter Tryz.func71, Tryz.ntmps71; go_wp2
    go_ret
    exact ⟨rfl, ⟨A0, c0, qqs, k94_⟩, (qcu.qbN qam g)⟩
  | true =>
    rw [if_pos rfl] at h; obtain ⟨t, A1, h⟩ := qaw h
    cases t with
    | false =>
      rw [if_neg (by decide)] at h; obtain ⟨rfl, rfl⟩ := qdI h; go_enter Tryz.func71, Tryz.ntmps71
      go_wp2_with (first | (refine gl_ 11 Tryz.func53 #[.slice A xs.length c] rfl qb1 ?_; (refine (qa9.calls _ _ xs false _ qqq (Kd.R_reads' HX.out).2.1 A1.out).mono ?_); rintro e wa ⟨rfl, hb⟩; refine ⟨_, rfl, ?_⟩; replace HC := HC.mw hb; replace HO := HO.mw hb; replace HX := HX.mw hb; replace HB := ak_ (qaa qam hb); obtain ⟨hzwa_0, hzwa_1, hfwa_0, hfwa_1⟩ := qbG HC.out; clear hb))
      go_ret
      exact ⟨rfl, ⟨A0, c0, qqs, k94_⟩, (qcu.qbN qam g)⟩
    | true =>
      rw [if_pos rfl] at h; obtain ⟨s, A2, h⟩ := qaw h; obtain ⟨rfl, rfl⟩ := qdI h; go_enter Tryz.func71, Tryz.ntmps71
      go_wp2_with (first | (refine gl_ 11 Tryz.func53 #[.slice A xs.length c] rfl qb1 ?_; (refine (qa9.calls _ _ xs true _ qqq (Kd.R_reads' HX.out).2.1 A1.out).mono ?_); rintro e wa ⟨rfl, hb⟩; refine ⟨_, rfl, ?_⟩; replace HC := HC.mw hb; replace HO := HO.mw hb; replace HX := HX.mw hb; replace HB := ak_ (qaa qam hb); obtain ⟨hzwa_0, hzwa_1, hfwa_0, hfwa_1⟩ := qbG HC.out; clear hb) | (refine gl_ 19 Tryz.func54 #[.slice A xs.length c] rfl qb1 ?_; (refine (qaE.calls k _ _ xs s _ k23_ (Kd.R_reads' HX.out).2.1 A2.out).mono ?_); rintro e wb ⟨rfl, hb⟩; refine ⟨_, rfl, ?_⟩; have HB2 := ak_ hb; clear hb))
      go_ret
      exact ⟨rfl, ⟨A, c, qao (qbp qqs 0 _ rfl) HB2.out, Kd.qbx (Kd.qgJ qmv qqs (by decide) 0 _) HB2.out⟩, (qcu.set_ (qcu.qbN qam g) 0 _).trans (qcu.qbN HB2.out g)⟩
theorem R_cut {w : World} {base g c : Nat} {ok : Nat → Prop} {xs : List qac} (h : Kd.R qaN 85 w base ok (.slice (some ⟨g, 0, none⟩) xs.length c) xs) (i : Nat) (hi : i < xs.length) :
    ∃ news : List Value, news.length = (xs.length - (i + 1)) * 2 ∧ (∀ j u, news[j]? = some u → w.cell? ⟨g, (i + 1) * 2 + j, none⟩ = some u) ∧ (∀ u ∈ news, u.oneCell' = true) ∧
      (∀ W : World, W.heap[g]? = w.heap[g]? → Kd.R qaN 85 (W.setCells g (i * 2) news) base ok (.slice (some ⟨g, 0, none⟩) (xs.length - 1) c) (xs.eraseIdx i)) := by
  obtain ⟨h0, inner, hown, hr⟩ := h; have hsz : qaN.sz = 2 := rfl; rw [hsz] at hown hr; have hil : inner.length = xs.length * 2 := hown.1
  rcases hown.2 with ⟨hv, _⟩ | ⟨g', cap, cur, hv, hb, hh, hnc, hcm, hcs, ht⟩
  ·cases hv
  obtain ⟨e1, -, rfl⟩ := Value.slice.inj hv
  obtain rfl : g = g' := by injection e1 with e1; injection e1
  have hcl : cur.toList.length = c * 2 := by rw [Array.length_toList, hcs]
  refine ⟨inner.drop ((i + 1) * 2), by rw [List.length_drop, hil]; omega, fun j u hj => ?_, fun u hu => ?_, fun W hW => ?_⟩
  ·rw [← ht, List.getElem?_drop, List.getElem?_take] at hj; split at hj
   ·rw [cell_of_row w g _ cur _ (0, 0) hh]
    simpa using hj
   cases hj
  ·have hu2 := List.mem_of_mem_drop hu; obtain ⟨q, hq⟩ := List.getElem?_of_mem hu2; have hq2 := (List.getElem?_eq_some_iff.1 hq).1
   obtain ⟨p, hp⟩ : ∃ p, xs[q / 2]? = some p := ⟨xs[q / 2]'(by omega), List.getElem?_eq_getElem (by omega)⟩
   have hR := hr.2 (q / 2) p hp; refine qaN.K_one (qaN.K_of_M hR) u ?_; rw [List.mem_iff_getElem?]; refine ⟨q % 2, ?_⟩; rw [List.getElem?_take, if_pos (by omega), List.getElem?_drop, show q / 2 * 2 + q % 2 = q by omega]; exact hq
  obtain ⟨cur', h1, h2, h3⟩ := qjq (inner.drop ((i + 1) * 2)) (i * 2) W cur (hW.trans hh) (by rw [List.length_drop, hil, hcs]; omega)
  have he : (xs.eraseIdx i).length = xs.length - 1 := by rw [List.length_eraseIdx, if_pos hi]
  have hin : inner.take (i * 2) ++ inner.drop ((i + 1) * 2) = cur'.toList.take ((xs.length - 1) * 2) := by
    have l1 : (cur.toList.take (i * 2)).length = i * 2 := by rw [List.length_take, hcl]; omega
    have l2 : (inner.drop ((i + 1) * 2)).length = xs.length * 2 - (i + 1) * 2 := by rw [List.length_drop, hil]
    have e3 : inner.take (i * 2) = cur.toList.take (i * 2) := by rw [← ht, List.take_take, Nat.min_eq_left (by omega)]
    rw [h3, e3]; exact (List.take_left' (by rw [List.length_append, l1, l2]; omega)).symm
  refine ⟨fun k hk => h0 k hk, inner.take (i * 2) ++ inner.drop ((i + 1) * 2), ⟨by rw [he, List.length_append, List.length_take, List.length_drop, hil]; show _ = _ * 2; omega, .inr ⟨g, c, cur', by rw [he], hb, h1, by rw [he]; omega, hcm, by rw [h2, hcs]; rfl, by rw [he, hin]; rfl⟩⟩, ?_⟩; refine ⟨by rw [he, List.length_append, List.length_take, List.length_drop, hil, hsz]; omega, fun j p hp => ?_⟩; rw [hsz]; rw [List.getElem?_eraseIdx] at hp; split at hp
  ·rename_i hji
   have := hr.2 j p hp; rw [List.drop_append_of_le_length (by rw [List.length_take, hil]; omega), List.take_append_of_le_length (by rw [List.length_drop, List.length_take, hil]; omega), List.drop_take, List.take_take, Nat.min_eq_left (by omega)]; exact this
  rename_i hji
  have := hr.2 (j + 1) p hp
  have l3 : (inner.take (i * 2)).length = i * 2 := by rw [List.length_take, hil]; omega
  have e5 : (inner.take (i * 2) ++ inner.drop ((i + 1) * 2)).drop (j * 2) = inner.drop ((j + 1) * 2) := by
    rw [List.drop_append, l3, List.drop_of_length_le (l := inner.take (i * 2)) (by rw [l3]; omega), List.nil_append, List.drop_drop, show (i + 1) * 2 + (j * 2 - i * 2) = (j + 1) * 2 by omega]
  rw [e5]; exact this
theorem R_room {α : Type} {d : Kd α} {e base g n c : Nat} {ok : Nat → Prop} {w : World} {xs : List α} (h : d.R e w base ok (.slice (some ⟨g, 0, none⟩) n c) xs) (o : Nat) (ho : o < c * d.sz) : (w.cell? ⟨g, o, none⟩).isSome = true ∧ w.frozen? ⟨g, o, none⟩ = false := by
  obtain ⟨h0, inner, hown, hr⟩ := h
  rcases hown.2 with ⟨hv, _⟩ | ⟨g', cap, cur, hv, hb, hh, hnc, hcm, hcs, ht⟩
  ·cases hv
  obtain ⟨e1, -, rfl⟩ := Value.slice.inj hv
  obtain rfl : g = g' := by injection e1 with e1; injection e1
  refine ⟨?_, qad hh o⟩; rw [cell_of_row w g _ cur _ (0, 0) hh, Array.getElem?_eq_getElem (by omega)]; rfl
theorem qmR (A : Option Addr) (c base : Nat) (ok : Nat → Prop) (xs : List qac) (i : Nat) (w : World) (hbase : base ≤ w.heap.size) (hR : Kd.R qaN 85 w base ok (.slice A xs.length c) xs) (hi : i < xs.length) :
    Calls Tryz.prog 123 #[.slice A xs.length c, .int .i64 i, .int .i64 ((i : Int) + 1)] w fun e w' => e = .returned (.slice A (xs.length - 1) c) ∧ Kd.R qaN 85 w' base ok (.slice A (xs.length - 1) c) (xs.eraseIdx i) ∧ w.grownBy w' (Value.slice A xs.length c).ownBlock := by
  obtain ⟨G, c', eG, hGb, hGl, -⟩ := Kd.qeX hR (by omega); obtain ⟨rfl, -, rfl⟩ := Value.slice.inj eG; clear eG; obtain ⟨news, hn1, hn2, hn3, hn4⟩ := R_cut hR i hi; have hm : xs.length ≤ 9223372036854775807 := Kd.C_max (Kd.R_reads' hR).2.2; have hnc : xs.length ≤ c := (Kd.R_reads' hR).2.1
  have hcm : c ≤ 9223372036854775807 := by
    obtain ⟨_, inner, hown, _⟩ := hR
    rcases hown.2 with ⟨hv, _⟩ | ⟨g', cap, cur, hv, hb, hh, hnc, hcm, hcs, ht⟩
    ·cases hv
    obtain ⟨-, -, rfl⟩ := Value.slice.inj hv
    simpa [maxLen] using hcm
  obtain ⟨i0_, qnL, _, hsz_, _⟩ := info_parts qcW
  have e1 : ((i : Int) + 1).toNat = i + 1 := by omega
  obtain ⟨A2, hA2, hsrc⟩ : ∃ A2 : Addr, (if c = i + 1 then (some ⟨G, 0, none⟩ : Option Addr) else some ⟨G, (i + 1) * 2, none⟩) = some A2 ∧ qag (∀ j u, news[j]? = some u → w.drew.cell? (A2.add j) = some u) := by
    by_cases h : c = i + 1
    ·refine ⟨⟨G, 0, none⟩, by simp [h], ⟨fun j u hu => ?_⟩⟩
     have h0 : news.length = 0 := by rw [hn1]; omega
     rw [List.length_eq_zero_iff.1 h0] at hu
     simp at hu
    refine ⟨⟨G, (i + 1) * 2, none⟩, by simp [h], ⟨fun j u hu => ?_⟩⟩; rw [qn3]; exact hn2 j u hu
  have hcutA : ∀ W : World, (Instr.slice 26 (.slice (some ⟨G, 0, none⟩) xs.length c) none (some (.int .i64 (i : Int))) none).run Tryz.prog W = .ok (.slice (some ⟨G, 0, none⟩) i c) W := by
    intro W; have h := qj0 (P := Tryz.prog) 26 85 .i64 Tryz.underlying26 qnL (some ⟨G, 0, none⟩) xs.length c (i : Int) (by omega) (by omega) hnc W; rw [h, Int.toNat_natCast]
  have hcutB : ∀ W : World, (Instr.slice 26 (.slice (some ⟨G, 0, none⟩) xs.length c) (some (.int .i64 ((i : Int) + 1))) none none).run Tryz.prog W = .ok (.slice (some A2) (xs.length - (i + 1)) (c - (i + 1))) W := by
    intro W; have h := qjE (P := Tryz.prog) 26 85 .i64 Tryz.underlying26 qnL 2 hsz_ (some ⟨G, 0, none⟩) xs.length c ((i : Int) + 1) (by omega) (by omega) W; rw [h, e1, ← hA2]; simp only [Option.map_some, qn3, Nat.zero_add]
  have hcutC : ∀ W : World, (Instr.slice 26 (.slice (some ⟨G, 0, none⟩) xs.length c) (some (.int .i64 (i : Int))) (some (.int .i64 ((i : Int) + 1))) (some (.int .i64 (xs.length : Int)))).run Tryz.prog W = .ok (sliced (some ⟨G, 0, none⟩) i (i + 1) xs.length 2) W := by
    intro W
    have hel : Tryz.prog.elem 26 = 85 := by simp [Program.elem, Tryz.underlying26]
    have hu : Tryz.prog.underlying 26 = some (.slice (Tryz.prog.elem 26)) := by rw [hel]; exact Tryz.underlying26
    rw [run_slice_lhm W 26 (some ⟨G, 0, none⟩) xs.length c hu .i64 .i64 .i64 i ((i : Int) + 1) xs.length (by omega) (by omega) (by omega) (by omega), hel, e1]
    simp [sizeOf, typeInfo, qnL, hsz_, Result.andThen]
  obtain ⟨W1, hW1⟩ : ∃ W1, W1 = w.drew.setCells G (0 + i * 2) news := ⟨_, rfl⟩
  have hR1 : Kd.R qaN 85 W1 base ok (.slice (some ⟨G, 0, none⟩) (xs.length - 1) c) (xs.eraseIdx i) := by rw [hW1, Nat.zero_add]; exact hn4 w.drew rfl
  have hG1 : w.grownBy W1 (some G) := by rw [hW1]; exact (qd4 (qah (Below.refl w.heap.size w)) (some G)).trans (qhT w.drew G (0 + i * 2) news)
  have hroom := R_room hR; have qr1 := R_room hR1
  obtain ⟨L, hL⟩ : ∃ L, L = i + (xs.length - (i + 1)) := ⟨_, rfl⟩
  have hcutD : ∀ W : World, (Instr.slice 26 (.slice (some ⟨G, 0, none⟩) L c) (some (.int .i64 (L : Int))) (some (.int .i64 (xs.length : Int))) none).run Tryz.prog W = .ok (.slice (some ⟨G, L * 2, none⟩) 1 (c - L)) W := by
    intro W
    have hel : Tryz.prog.elem 26 = 85 := by simp [Program.elem, Tryz.underlying26]
    have hu : Tryz.prog.underlying 26 = some (.slice (Tryz.prog.elem 26)) := by rw [hel]; exact Tryz.underlying26
    rw [run_slice_lh W 26 (some ⟨G, 0, none⟩) L c hu .i64 .i64 L xs.length (by omega) (by omega) (by omega), hel]; simp only [sizeOf, typeInfo, qnL, hsz_, Result.andThen, sliced, Int.toNat_natCast]
    simp [sizeOf, typeInfo, qnL, hsz_, Result.andThen, show ¬ c = L by omega, show xs.length - L = 1 by omega, qn3]
  have hclr : ∀ ty, (Builtin.clear_ #[26] ty #[.slice (some ⟨G, L * 2, none⟩) 1 (c - L)]).run Tryz.prog W1 = .ok (.tuple #[]) (W1.setCells G (L * 2) (Builtin.zeroCells (Value.agg #[.int .i64 0, .int .i64 0]).cells 1).toList) := fun ty =>
    qoc (n := 1) W1 26 85 ty (.agg #[.int .i64 0, .int .i64 0]) Tryz.underlying26 (zero_run qcW) (by
      intro u hu
      simp [Builtin.zeroCells, Value.cells] at hu
      obtain ⟨k_, hk_, rfl⟩ := hu
      rcases Nat.mod_two_eq_zero_or_one k_ with h_ | h_ <;> simp [h_] <;> rfl) G (L * 2) (c - L) (by omega) (by decide)
      (fun j_ hj_ => (qr1 (L * 2 + j_) (by show L * 2 + j_ < c * 2; have hj2_ : j_ < 1 * 2 := hj_; omega)).1)
      (fun j_ hj_ => (qr1 (L * 2 + j_) (by show L * 2 + j_ < c * 2; have hj2_ : j_ < 1 * 2 := hj_; omega)).2)
  obtain ⟨zs_, hzs_⟩ : ∃ z_, z_ = (Builtin.zeroCells (Value.agg #[.int .i64 0, .int .i64 0]).cells 1).toList := ⟨_, rfl⟩
  rw [← hzs_] at hclr
  obtain ⟨vC, hvC⟩ : ∃ v, v = sliced (some ⟨G, 0, none⟩) i (i + 1) xs.length 2 := ⟨_, rfl⟩
  rw [← hvC] at hcutC; have hne : ((i : Int) == (i : Int) + 1) = false := beq_eq_false_iff_ne.2 (by omega); have HN1 := ak_ hn1; have HN3 := ak_ hn3; have HL := ak_ hL; have HW1 := ak_ hW1; have HR1 := ak_ hR1; have HG1 := ak_ hG1; have HRM := ak_ hroom; have HI := ak_ qnL; have HSZ := ak_ hsz_
  have hrm : i + (xs.length - (i + 1)) ≤ c := by omega
  have HLn := ak_ (show L = xs.length - 1 by omega); clear hn1 hn2 hn3 hn4 hL hW1 hR1 hG1 hroom qr1 qnL hsz_ hzs_ hvC hR hA2 hcm hm; go_enter Tryz.func123, Tryz.ntmps123
  go_wp2_with fail
  go_region_law (refine step_append_room rfl (.tmp 22) (.tmp 25) 26 rfl 85 i0_ 2 Tryz.underlying26 HI.out HSZ.out G 0 i c (by simp [Act.eval, Act.put]) A2 (xs.length - (i + 1)) (c - (i + 1)) news (by simp [Act.eval, Act.put]) HN1.out hsrc.out HN3.out hrm (fun j hj => by have h_ := HRM.out (0 + i * 2 + j) (by show _ < c * 2; have := HN1.out; omega); exact h_) ?_; rw [← HL.out, ← HW1.out])
  go_wp2
  go_ret
  refine ⟨by rw [HLn.out]; rfl, ?_, HG1.out.trans (qhT W1 G (L * 2) zs_)⟩
  have he : (xs.eraseIdx i).length = xs.length - 1 := by rw [List.length_eraseIdx, if_pos hi]
  exact R_clear HR1.out (L * 2) zs_ (by rw [he, HLn.out]; exact Nat.le_refl _)
def qcy.f (l0 : List qac) (a1 a2 : Int) : Option (List qac) := if 0 ≤ a1 ∧ a1 < (l0.length : Int) ∧ a2 = a1 + 1 then some (l0.eraseIdx a1.toNat) else none
theorem qcy.own (A : Option Addr) (c base : Nat) (l0 : List qac) (a1 a2 : Int) (r : List qac) (w : World) (hbase : base ≤ w.heap.size) (hR : Kd.R qaN 85 w base (fun _ => True) (.slice A l0.length c) l0) (h : qcy.f l0 a1 a2 = some r) :
    Calls Tryz.prog 123 #[.slice A l0.length c, .int .i64 a1, .int .i64 a2] w fun e w' => ∃ v0_, e = .returned v0_ ∧ Kd.R qaN 85 w' base (fun _ => True) v0_ r ∧ w.grownBy w' (Value.slice A l0.length c).ownBlock := by
  unfold qcy.f at h; by_cases hc : 0 ≤ a1 ∧ a1 < (l0.length : Int) ∧ a2 = a1 + 1; rotate_left
  ·rw [if_neg hc] at h; exact absurd h (by simp)
  rw [if_pos hc] at h; obtain rfl := Option.some.inj h; obtain ⟨h0, h1, rfl⟩ := hc
  obtain ⟨i, rfl⟩ : ∃ i : Nat, a1 = (i : Int) := ⟨a1.toNat, by omega⟩
  rw [Int.toNat_natCast]; refine (qmR A c base _ l0 i w hbase hR (by omega)).mono ?_; rintro e w' ⟨rfl, hR2, hg⟩; exact ⟨_, rfl, hR2, hg⟩
def qep.f (a0 : Int) : Option (Bool) := if a0 ≥ (-600) then (some (decide (a0 ≤ 600))) else (some false)
theorem qep.calls (a0 : Int) (r : Bool) (w : World) (h : qep.f a0 = some r) :
  Calls Tryz.prog 184 #[.int .i64 a0] w fun e w' => e = .returned (.bool r) ∧ qcX w w' := by
 have H : (if a0 ≥ (-600) then (some (decide (a0 ≤ 600))) else (some false)) = some r := h; clear h; by_cases c2 : a0 ≥ (-600)
 ·rw [if_pos c2] at H; have qfe : decide ((-600) ≤ a0) = true := decide_eq_true c2; clear c2; obtain rfl := Option.some.inj H; go_enter Tryz.func184, Tryz.ntmps184; go_wp2
  go_ret
  exact ⟨qav, qc2⟩
 rw [if_neg c2] at H; have qfe : decide ((-600) ≤ a0) = false := decide_eq_false c2; clear c2; obtain rfl := Option.some.inj H; go_enter Tryz.func184, Tryz.ntmps184; go_wp2
 go_ret
 exact ⟨qav, qc2⟩
def qfo.f (a0 : Int) (a1 : Int) : Option (Int) := if a1 = 0 then (none) else (some (Int.tmod (wrap64 ((Int.tmod a0 a1) + a1)) a1))
theorem qfo.calls (a0 : Int) (a1 : Int) (r : Int) (w : World) (h : qfo.f a0 a1 = some r) :
  Calls Tryz.prog 185 #[.int .i64 a0, .int .i64 a1] w fun e w' => e = .returned (.int .i64 r) ∧ qcX w w' := by
 have H : (if a1 = 0 then (none) else (some (Int.tmod (wrap64 ((Int.tmod a0 a1) + a1)) a1))) = some r := h; clear h; by_cases c3 : a1 = 0
 ·rw [if_pos c3] at H; exact absurd H (by simp)
 rw [if_neg c3] at H; have qff : (a1 == 0) = false := beq_eq_false_iff_ne.mpr c3; have qlV : (a1 != 0) = true := bne_iff_ne.mpr c3; obtain rfl := Option.some.inj H; go_enter Tryz.func185, Tryz.ntmps185; go_wp2
 go_ret
 exact ⟨qav, qc2⟩
mutual
def qaD.j0 : Nat → List (qac) → Int → Bool → Option ((List (qac)) × Bool)
 | 0, _, _, _ => none
 | k + 1, x0, x1, x16 => if x16 = true then (some (([] : List (qac)), false)) else (qaD.l0 k x1 (([] : List (qac))) x0 (x0.length : Int) 0)
def qaD.l0 : Nat → Int → List (qac) → List (qac) → Int → Int → Option ((List (qac)) × Bool)
 | 0, _, _, _, _, _ => none
 | k + 1, x1, x6, x18, x19, x20 => if x20 < x19 then (if 0 ≤ x20 then (if x20 < (x18.length : Int) then ((qfo.f (wrap64 (((qae x18 x20).f1) + x1)) ((qae x18 x20).f0)).bind fun qsM => (if x6.length < 8796093022208 then (qaD.l0 k x1 (x6 ++ [(⟨(qae x18 x20).f0, qsM⟩ : qac)]) x18 x19 (wrap64 (x20 + 1))) else (none))) else (none)) else (none)) else (some (x6, true))
end
def qaD.f (k : Nat) (l0 : List (qac)) (a1 : Int) : Option ((List (qac)) × Bool) := (qa9.f l0).bind fun qas => (if qas = true then ((qep.f a1).bind fun qaI => (qaD.j0 k l0 a1 (!qaI))) else (qaD.j0 k l0 a1 true))
def qaD.T7 : Bool × List (List Nat × List Nat) := (true, [([], []), ([], []), ([1], [1]), ([], []), ([3], [3]), ([], []), ([4, 5], [4, 5]), ([], []), ([7], [7]), ([6, 8], [6, 8]), ([2, 9], [2, 9]), ([10], [10]), ([0, 11, 9], [0, 11]), ([12, 12, 0, 1, 2, 3, 4, 5, 6, 7, 8, 9, 10, 11, 12], [0, 12])])
def qaD.B7 : List Nat := [0, 0, 2, 0, 8, 0, 56, 0, 128, 504, 1022, 2046, 4095, 8191]
theorem qaD.tab7 : qhK .any (opsOf Tryz.f124 7) = qaD.T7 := by kernel_rfl
theorem qaD.qlR : qeR qaD.T7.2 qaD.B7 = true := by kernel_rfl
theorem qaD.calls (k : Nat) (A0 : Option Addr) (c0 : Nat) (l0 : List (qac)) (a1 : Int) (r1 : List (qac)) (r2 : Bool) (w : World) (hr0 : Kd.C qaN w A0 l0.length l0) (hc0 : l0.length ≤ c0) (h : qaD.f k l0 a1 = some (r1, r2)) :
  Calls Tryz.prog 124 #[.slice A0 l0.length c0, .int .i64 a1] w fun e w' => ∃ v0_ : Value, e = .returned (.tuple #[v0_, .bool r2]) ∧ Kd.R qaN 85 w' w.heap.size (fun _ => True) v0_ r1 ∧ Below w.heap.size w w' := by
 have qms := Tryz.underlying85; have HR0 := ak_ hr0; have HC0 := ak_ hc0; clear hr0 hc0; have HB := ak_ (Below.refl w.heap.size w); have H : ((qa9.f l0).bind fun qas => (if qas = true then ((qep.f a1).bind fun qaI => (qaD.j0 k l0 a1 (!qaI))) else (qaD.j0 k l0 a1 true))) = some (r1, r2) := h; clear h; have HC3 := ak_ H; clear H; go_enter Tryz.func124, Tryz.ntmps124
 go_upto_region 1 with (fail)
 go_cut [16] (fun v16 wc => ∃ (kq : Nat) (qmq : Bool), v16 = .bool qmq ∧ qag (qaD.j0 kq l0 a1 qmq = some (r1, r2)) ∧ qag (kq ≤ k) ∧ qag (Below w.heap.size w wc))
 case first =>
  have H := HC3.out; clear HC3; obtain ⟨qas, A4, H⟩ := qaw H; (try dsimp only at H); by_cases c5 : qas = true
  ·subst c5; rw [if_pos rfl] at H; obtain ⟨qaI, A6, H⟩ := qaw H; (try dsimp only at H); have H' := ak_ H; clear H
   go_wp2_with (first | (refine gl_ 10 Tryz.func53 #[.slice A0 l0.length c0] rfl qbK ?_; (with_reducible refine (qa9.calls _ _ l0 true _ ?qay ?qaz A4.out).mono ?_); (case qay => exact qg3); (case qaz => exact qb6); rintro e w7 ⟨rfl, hb⟩; refine ⟨_, rfl, ?_⟩; replace HB := HB.mw hb; (try clear hb)) | (go_at_call 184; (with_reducible refine (qep.calls a1 qaI _ A6.out).mono ?_); rintro e w' ⟨rfl, ⟨nd, rfl⟩⟩))
   go_meet
   case rel => exact ⟨_, (!qaI), qav, H', ⟨qid⟩, ⟨qam⟩⟩
  replace c5 := Bool.eq_false_iff.mpr c5; subst c5; rw [if_neg (show ¬ (false = true) by decide)] at H; have H' := ak_ H; clear H
  go_wp2_with (first | (refine gl_ 10 Tryz.func53 #[.slice A0 l0.length c0] rfl qbK ?_; (with_reducible refine (qa9.calls _ _ l0 false _ ?qay ?qaz A4.out).mono ?_); (case qay => exact qg3); (case qaz => exact qb6); rintro e w8 ⟨rfl, hb⟩; refine ⟨_, rfl, ?_⟩; replace HB := HB.mw hb; (try clear hb)))
  go_meet
  case rel => exact ⟨_, (true), qav, H', ⟨qid⟩, ⟨qam⟩⟩
 case rest =>
  clear HC3; obtain ⟨kq, qmq, rfl, HA, HJ2, HB⟩ := hcut
  cases kq with
  | zero => exact absurd HA.out (by simp [qaD.j0])
  | succ kj2 =>
   have H := HA.out; clear HA; simp only [qaD.j0] at H; by_cases c9 : qmq = true
   ·subst c9; rw [if_pos rfl] at H; obtain ⟨rfl, rfl⟩ := qdI H; go_wp2
    go_ret2
    exact ⟨_, qce, qg4, qam⟩
   replace c9 := Bool.eq_false_iff.mpr c9; subst c9; rw [if_neg (show ¬ (false = true) by decide)] at H
   obtain ⟨qlI, hy_⟩ : ∃ y_ : List (qac), y_ = (([] : List (qac))) := ⟨_, rfl⟩
   replace H : (qaD.l0 kj2 a1 qlI l0 (l0.length : Int) 0) = some (r1, r2) := qe6; have qlL := ak_ hy_; clear hy_; have H' := ak_ H; clear H
   go_wp2_with (first | ((with_reducible refine qak (N := 17) rfl ?_); refine Kd.qg9 qaN _ 85 ?hg (N := 17) ?hd (xs := ([] : List (qac))) (inner := []) (ok := fun _ => True) (okp := fun _ => True) ?hr ?hp (fun _ hk => hk) trivial (Below.refl _ _) (Nat.le_refl _) (by simp) ?_; (case hd => rfl); (case hg => rfl); (case hr => exact qbb); (case hp => exact (qd9.none _ _)); intro qsS w10 qrX hb hg_ hnew_; clear hg_ hnew_; (first | rw [← qlL.out] at qrX | (simp only [Int.reduceToNat] at qrX; rw [← qlL.out] at qrX)); have qeH := ak_ (Kd.qau qrX (qab qam)); replace HB := HB.mw hb; clear hb qrX))
   go_loopg [6, 20] kj2 (fun kq v6 v20 w' => ∃ (qgz : List (qac)) (qeg : Int), v20 = .int .i64 qeg ∧ qag (qaD.l0 kq a1 qgz l0 (l0.length : Int) qeg = some (r1, r2)) ∧ qag (kq ≤ kj2) ∧ qag (Kd.R qaN 85 w' w.heap.size (fun _ => True) v6 qgz) ∧ qag (Below w.heap.size w w'))
   case atStart => exact ⟨(qlI), (0), qav, H', ⟨Nat.le_refl _⟩, ⟨by apply_rules only [qeH.out, Kd.qaq, Kd.qar, Kd.qaC]⟩, ⟨qam⟩⟩
   case round =>
    clear H'; (try clear c9); obtain ⟨qgz, qeg, rfl, HA, HK2, qfv, HB⟩ := hrel
    cases gk with
    | zero => exact absurd HA.out (by simp [qaD.l0])
    | succ k2 =>
     have H := HA.out; clear HA; simp only [qaD.l0] at H; by_cases c12 : qeg < (l0.length : Int); rotate_left
     ·rw [if_neg c12] at H; have qhm : decide (qeg < (l0.length : Int)) = false := decide_eq_false c12; clear c12; obtain ⟨rfl, rfl⟩ := qdI H; go_wp2
      go_ret2
      exact ⟨_, qce, by (with_reducible repeat (first | apply Kd.qaq | apply Kd.qar | apply Kd.qaC)); exact qfv.out, qam⟩
     rw [if_pos c12] at H; have qhm : decide (qeg < (l0.length : Int)) = true := decide_eq_true c12; clear c12; by_cases c13 : 0 ≤ qeg; rotate_left
     ·rw [if_neg c13] at H; exact absurd H (by simp)
     rw [if_pos c13] at H; have qlU : decide (0 ≤ qeg) = true := decide_eq_true c13; clear c13; by_cases c14 : qeg < (l0.length : Int); rotate_left
     ·rw [if_neg c14] at H; exact absurd H (by simp)
     rw [if_pos c14] at H; have qn9 : decide (qeg < (l0.length : Int)) = true := decide_eq_true c14; clear c14; obtain ⟨qsM, A15, H⟩ := qaw H; (try dsimp only at H); by_cases c16 : qgz.length < 8796093022208; rotate_left
     ·rw [if_neg c16] at H; exact absurd H (by simp)
     rw [if_pos c16] at H; have LMc16 := ak_ c16; clear c16
     obtain ⟨y109, hy_⟩ : ∃ y_ : List (qac), y_ = (qgz ++ [(⟨(qae l0 qeg).f0, qsM⟩ : qac)]) := ⟨_, rfl⟩
     replace H : (qaD.l0 k2 a1 y109 l0 (l0.length : Int) (wrap64 (qeg + 1))) = some (r1, r2) := qe6; have Ny109 := ak_ hy_; clear hy_; have H' := ak_ H; clear H; have qfH : 0 ≤ (qeg : Int) := of_decide_eq_true qaU; have qfJ : qeg < (l0.length : Int) := of_decide_eq_true qaU; obtain ⟨qgL, qjx, qcq, qib⟩ := qdV HR0.out qeg qfH qfJ
     cases qjx
     replace qcq := (HB.out.cell (World.block_lt_of_cell? w _ qcq)).trans qcq; replace qib := (HB.out.cell (World.block_lt_of_cell? w _ qib)).trans qib; replace qfH := eq_true qfH; replace qfJ := eq_true qfJ
     try go_wp2_with (first | ((with_reducible refine qak (N := 8) rfl ?_); refine bx_ 8 rfl (cs := #[.int .i64 0, .int .i64 0]) (t := 85) qbb ?_; intro qeD hg w17 hbox hb; replace qfv := ak_ (Kd.qbx (Kd.qhE qoK qeD (Nat.le_of_eq hg.symm)) hb); have qfi := ak_ (hbox); have GW107 := ak_ (HB.ge hg); have qnN := ak_ (HB.ge hg); replace HB := HB.mw hb; clear hb hbox hg; obtain ⟨hcz18_0, hcz18_1, hfz18_0, hfz18_1⟩ := qbG qfi.out))
     have n0_ : qag (Kd.R qaN 85 ((w17.setCell ⟨qeD, 0, none⟩ (.int .i64 ((qae l0 qeg).f0))).setCell ⟨qeD, 1, none⟩ (.int .i64 ((qae l0 qeg).f1))) w.heap.size (fun k_ => k_ ≠ qeD) u6 qgz) := ⟨by (with_reducible repeat (first | apply Kd.qaq | apply Kd.qar | apply Kd.qaC)); exact Kd.qa8 (Kd.qc7 (p := ⟨qeD, 1, none⟩) (Kd.qc7 (p := ⟨qeD, 0, none⟩) (Kd.qa8 qfv.out (fun k_ hk => (⟨hk, hk.2⟩ : _ ∧ k_ ≠ qeD))) (fun _ hk => hk.2) (.int .i64 ((qae l0 qeg).f0))) (fun _ hk => hk.2) (.int .i64 ((qae l0 qeg).f1))) (fun _ hk => hk.1.2)⟩
     have n1_ : qag (((w17.setCell ⟨qeD, 0, none⟩ (.int .i64 ((qae l0 qeg).f0))).setCell ⟨qeD, 1, none⟩ (.int .i64 ((qae l0 qeg).f1))).heap[qeD]? = some (.cells #[.int .i64 ((qae l0 qeg).f0), .int .i64 ((qae l0 qeg).f1)] 85 (0, 0))) := ⟨by (with_reducible repeat (first | refine qal ?_ _ | refine qan ?_ | refine qaj ?_ _)); refine qbp (cs := #[.int .i64 ((qae l0 qeg).f0), .int .i64 0]) ?_ 1 _ rfl; (with_reducible repeat (first | refine qal ?_ _ | refine qan ?_ | refine qaj ?_ _)); refine qbp (cs := #[.int .i64 0, .int .i64 0]) ?_ 0 _ rfl; apply_rules only [qfi.out, qal, qan, qaj]⟩
     have n2_ : qag (Below w.heap.size w ((w17.setCell ⟨qeD, 0, none⟩ (.int .i64 ((qae l0 qeg).f0))).setCell ⟨qeD, 1, none⟩ (.int .i64 ((qae l0 qeg).f1)))) := ⟨by apply_rules only [HB.out, qai, qaf, qah, qap, qnN.out]⟩
     (try clear qfv); (try clear qfi); (try clear HB)
     generalize ((w17.setCell ⟨qeD, 0, none⟩ (.int .i64 ((qae l0 qeg).f0))).setCell ⟨qeD, 1, none⟩ (.int .i64 ((qae l0 qeg).f1))) = w19 at n0_ n1_ n2_ ⊢
     have qfv := n0_; have qfi := n1_; have HB := n2_; clear n0_ n1_ n2_; replace qfv := ak_ (Kd.qaC qfv.out); replace qfi := ak_ (qan qfi.out); replace HB := ak_ (qah HB.out); refine qeQ (n := 14) (S := fun w' => w'.cell? ⟨qeD, 0, none⟩ = some (.int .i64 ((qae l0 qeg).f0)) ∧ w'.cell? ⟨qeD, 1, none⟩ = some (.int .i64 ((qae l0 qeg).f1))) (ds := []) (rA_ [0, 14]) (by kernel_rfl) rfl rfl ⟨qed qfi.out, qbB qfi.out⟩ (fun hHeld => ?_); refine qdp qaD.tab7 qaD.qlR (fun HT_ HW_ => ?_)
     generalize w19.drew = w20 at qfv qfi HB hHeld ⊢
     refine pu_ 0 24 [1, 13] ?_; refine pu_ 1 25 [2, 12] ?_; refine pu_ 3 27 [2, 1, 1, 10] ?_; refine pu_ 5 29 [2, 1, 1, 1, 1, 8] ?_; refine pu_ 7 31 [2, 1, 1, 1, 1, 1, 1, 6] ?_; refine qip 2 26 [4, 1, 1, 1, 1, 6] ?_; refine qip 4 28 [6, 1, 1, 6] ?_; refine pu_ 6 30 [8, 6] ?_; refine qip 8 32 [9, 5] ?_; refine qfA (i := 9) (N := some 33) (rA_ [10, 4]) rfl rfl (qc5 HT_.out (by kernel_rfl)) (by decide) (fun K hK => ?_); refine qfz Tryz.func185 (by kernel_rfl) rfl #[.int .i64 (wrap64 (((qae l0 qeg).f1) + a1)), .int .i64 ((qae l0 qeg).f0)] (by rfl) rfl rfl qbK ?_
     with_reducible refine (qfo.calls (wrap64 (((qae l0 qeg).f1) + a1)) ((qae l0 qeg).f0) qsM _ A15.out).mono ?_
     rintro e w' ⟨rfl, ⟨nd, rfl⟩⟩; refine ⟨_, rfl, ?_⟩; refine hK.out _ _ ⟨qed qfi.out, qbB qfi.out⟩ (fun hHeld => ?_); clear hK K; refine nm_ 33 ?_; refine pu_ 10 34 [11, 3] ?_; refine qfA (i := 11) (N := some 35) (rA_ [12, 2]) rfl rfl (qc5 HT_.out (by kernel_rfl)) (by decide) (fun K hK => ?_); refine qiK (w1 := ?_) (v := ?_) (by rfl) rfl ?_ ?_; rotate_left 2
     ·go_simp; constructor
      ·rfl
      rfl
     refine hK.out _ _ ⟨(qa7 (qaj qfi.out _) 0).trans rfl, (qa7 (qaj qfi.out _) 1).trans rfl⟩ (fun hHeld => ?_); clear hK K; refine nm_ 35 ?_; refine qfA (i := 12) (N := some 36) (rA_ [13, 1]) rfl rfl (qc5 HT_.out (by kernel_rfl)) (by decide) (fun K hK => ?_); refine Kd.qeT qaN (w0 := w) w.heap.size (by rfl) (.tmp 24) (.tmp 35) 26 85 (.agg #[(.int .i64 0), (.int .i64 0)]) 16 rfl Tryz.underlying26 qfQ rfl (by decide) (by omega) u6 qgz (⟨(qae l0 qeg).f0, qsM⟩ : qac) [.int .i64 ((qae l0 qeg).f0), .int .i64 qsM] (fun k_ => k_ ≠ qeD) (fun _ => False) rfl rfl ?aP (fun _ hk => hk.elim) ?aF ?aO ?aB ?aS ?aL ?_
     (case aP => exact qdo _ _ _ (⟨(qae l0 qeg).f0, qsM⟩ : qac))
     (case aB => exact (by apply_rules only [HB.out, qai, qaf, qah, qap, qnN.out]))
     (case aF => exact (fun k_ hk => Kd.qm0 (g := qeD) (o := .cells #[.int .i64 ((qae l0 qeg).f0), .int .i64 ((qae l0 qeg).f1)] 85 (0, 0)) (by apply_rules only [qfi.out, qal, qan, qaj]) k_ hk))
     (case aO => exact qoK)
     (case aS => exact (qab (by apply_rules only [HB.out, qai, qaf, qah, qap, qnN.out])))
     (case aL => have := LMc16.out; omega)
     intro v110 w21 ho hb hg hat; rw [← Ny109.out] at ho; replace qfi := ak_ (qev (g := qeD) (o := .cells #[.int .i64 ((qae l0 qeg).f0), .int .i64 ((qae l0 qeg).f1)] 85 (0, 0)) (by apply_rules only [qfi.out, qal, qan, qaj]) hg (Kd.qmC qfv.out (fun _ hk => hk))); replace HB := ak_ (hb); have HO111 := ak_ (ho); clear qfv; clear ho hb hg hat; refine hK.out _ _ ⟨qed qfi.out, qbB qfi.out⟩ (fun hHeld => ?_); clear hK K; refine nm_ 36 ?_; refine pu_ 13 6 [14] ?_; refine qf4 (qeC HT_.out (by kernel_rfl)) ?_
     try go_wp2
     go_roundg k2
     case measure => have := HJ2.out; have := HK2.out; omega
     case rel => exact ⟨(y109), (wrap64 (qeg + 1)), qav, H', ⟨by have := HJ2.out; have := HK2.out; omega⟩, ⟨by (with_reducible repeat (first | apply Kd.qaq | apply Kd.qar | apply Kd.qaC)); exact Kd.qa8 HO111.out (fun _ hk => trivial)⟩, ⟨by apply_rules only [HB.out, qai, qaf, qah, qap, qnN.out]⟩⟩
def qbc.l0 : Nat → Int → Int → Option (Int)
 | 0, _, _ => none
 | k + 1, x0, x3 => if (wrap64 (x3 * x3)) ≤ x0 then (if x3 = 0 then (none) else (if (Int.tmod x0 x3) = 0 then (some x3) else (qbc.l0 k x0 (wrap64 (x3 + 1))))) else (some x0)
def qbc.f (k : Nat) (a0 : Int) : Option (Int) := qbc.l0 k a0 2
theorem qbc.calls (k : Nat) (a0 : Int) (r : Int) (w : World) (h : qbc.f k a0 = some r) :
  Calls Tryz.prog 225 #[.int .i64 a0] w fun e w' => e = .returned (.int .i64 r) ∧ qcX w w' := by
 have H : (qbc.l0 k a0 2) = some r := h; clear h; have H' := ak_ H; clear H; go_enter Tryz.func225, Tryz.ntmps225; go_wp2
 go_loopg [3] k (fun kq v3 w' => ∃ (qbg : Int), v3 = .int .i64 qbg ∧ qag (qbc.l0 kq a0 qbg = some r) ∧ qag (kq ≤ k) ∧ qcX w w')
 case atStart => exact ⟨(2), qav, H', ⟨Nat.le_refl _⟩, qc2⟩
 case round =>
  clear H'; obtain ⟨qbg, rfl, HA, HK1, ⟨m1, rfl⟩⟩ := hrel
  cases gk with
  | zero => exact absurd HA.out (by simp [qbc.l0])
  | succ k1 =>
   have H := HA.out; clear HA; simp only [qbc.l0] at H; by_cases c2 : (wrap64 (qbg * qbg)) ≤ a0; rotate_left
   ·rw [if_neg c2] at H; have qfe : decide ((wrap64 (qbg * qbg)) ≤ a0) = false := decide_eq_false c2; clear c2; obtain rfl := Option.some.inj H; go_wp2
    go_ret
    exact ⟨qav, qc2⟩
   rw [if_pos c2] at H; have qfe : decide ((wrap64 (qbg * qbg)) ≤ a0) = true := decide_eq_true c2; clear c2; by_cases c3 : qbg = 0
   ·rw [if_pos c3] at H; exact absurd H (by simp)
   rw [if_neg c3] at H; have qff : (qbg == 0) = false := beq_eq_false_iff_ne.mpr c3; have qlV : (qbg != 0) = true := bne_iff_ne.mpr c3; by_cases c4 : (Int.tmod a0 qbg) = 0
   ·rw [if_pos c4] at H; have qfx : ((Int.tmod a0 qbg) == 0) = true := beq_iff_eq.mpr c4; have qlW : ((Int.tmod a0 qbg) != 0) = false := bne_eq_false_iff_eq.mpr c4; clear c4; obtain rfl := Option.some.inj H; go_wp2
    go_ret
    exact ⟨qav, qc2⟩
   rw [if_neg c4] at H; have qfx : ((Int.tmod a0 qbg) == 0) = false := beq_eq_false_iff_ne.mpr c4; have qlW : ((Int.tmod a0 qbg) != 0) = true := bne_iff_ne.mpr c4; have H' := ak_ H; clear H; go_wp2
   go_roundg k1
   case measure => have := HK1.out; omega
   case rel => exact ⟨(wrap64 (qbg + 1)), qav, H', ⟨qc9⟩, qc2⟩
def qdj.f (k : Nat) (a0 : Int) : Option (Bool) := if a0 ≥ 2 then ((qbc.f k a0).bind fun qas => (some (qas == a0))) else (some false)
theorem qdj.calls (k : Nat) (a0 : Int) (r : Bool) (w : World) (h : qdj.f k a0 = some r) :
  Calls Tryz.prog 226 #[.int .i64 a0] w fun e w' => e = .returned (.bool r) ∧ qcX w w' := by
 have H : (if a0 ≥ 2 then ((qbc.f k a0).bind fun qas => (some (qas == a0))) else (some false)) = some r := h; clear h; by_cases c2 : a0 ≥ 2
 ·rw [if_pos c2] at H; have qfe : decide (2 ≤ a0) = true := decide_eq_true c2; clear c2; obtain ⟨qas, A3, H⟩ := qaw H; (try dsimp only at H); obtain rfl := Option.some.inj H; go_enter Tryz.func226, Tryz.ntmps226
  go_wp2_with (first | (go_at_call 225; (with_reducible refine (qbc.calls k a0 qas _ A3.out).mono ?_); rintro e w' ⟨rfl, ⟨nd, rfl⟩⟩))
  go_ret
  exact ⟨qav, qc2⟩
 rw [if_neg c2] at H; have qfe : decide (2 ≤ a0) = false := decide_eq_false c2; clear c2; obtain rfl := Option.some.inj H; go_enter Tryz.func226, Tryz.ntmps226; go_wp2
 go_ret
 exact ⟨qav, qc2⟩
def qaP.l0 : Nat → Int → List Int → Int → Option (List Int)
 | 0, _, _, _ => none
 | k + 1, x1, x5, x6 => if x6 ≤ x1 then ((qdj.f k x6).bind fun qcf => (if qcf = true then (if x5.length < 17592186044416 then (qaP.l0 k x1 (x5 ++ [x6]) (wrap64 (x6 + 1))) else (none)) else (qaP.l0 k x1 x5 (wrap64 (x6 + 1))))) else (some x5)
def qaP.f (k : Nat) (a0 : Int) (a1 : Int) : Option (List Int) := qaP.l0 k a1 (([] : List Int)) a0
theorem qaP.calls (k : Nat) (a0 : Int) (a1 : Int) (r : List Int) (w : World) (h : qaP.f k a0 a1 = some r) :
  Calls Tryz.prog 191 #[.int .i64 a0, .int .i64 a1] w fun e w' => ∃ v0_ : Value, e = .returned (v0_) ∧ Kd.R (Kd.int .i64) 3 w' w.heap.size (fun _ => True) v0_ r ∧ Below w.heap.size w w' := by
 have HB := ak_ (Below.refl w.heap.size w); have H : (qaP.l0 k a1 (([] : List Int)) a0) = some r := h; clear h
 obtain ⟨qeS, hy_⟩ : ∃ y_ : List Int, y_ = (([] : List Int)) := ⟨_, rfl⟩
 replace H : (qaP.l0 k a1 qeS a0) = some r := qe6; have qeb := ak_ hy_; clear hy_; have H' := ak_ H; clear H; go_enter Tryz.func191, Tryz.ntmps191
 go_wp2_with (first | ((with_reducible refine qak (N := 7) rfl ?_); refine li_ (Kd.int .i64) 3 7 rfl (xs := ([] : List Int)) qbb ?_; intro qiq w3 ho4 hb; (first | rw [← qeb.out] at ho4 | (simp only [Int.reduceToNat] at ho4; rw [← qeb.out] at ho4)); have qdi := ak_ (Kd.qau ho4 (qab qam)); replace HB := HB.mw hb; clear hb ho4))
 go_loopg [5, 6] k (fun kq v5 v6 w' => ∃ (qbP : List Int) (qcU : Int), v6 = .int .i64 qcU ∧ qag (qaP.l0 kq a1 qbP qcU = some r) ∧ qag (kq ≤ k) ∧ qag (Kd.R (Kd.int .i64) 3 w' w.heap.size (fun _ => True) v5 qbP) ∧ qag (Below w.heap.size w w'))
 case atStart => exact ⟨(qeS), (a0), qav, H', ⟨Nat.le_refl _⟩, ⟨qpM⟩, ⟨qam⟩⟩
 case round =>
  clear H'; obtain ⟨qbP, qcU, rfl, HA, HK1, qgy, HB⟩ := hrel
  cases gk with
  | zero => exact absurd HA.out (by simp [qaP.l0])
  | succ k1 =>
   have H := HA.out; clear HA; simp only [qaP.l0] at H; by_cases c5 : qcU ≤ a1; rotate_left
   ·rw [if_neg c5] at H; have qgH : decide (qcU ≤ a1) = false := decide_eq_false c5; clear c5; obtain rfl := Option.some.inj H; go_wp2
    go_ret
    exact ⟨_, qce, k65_, qam⟩
   rw [if_pos c5] at H; have qgH : decide (qcU ≤ a1) = true := decide_eq_true c5; clear c5; obtain ⟨qcf, A6, H⟩ := qaw H; (try dsimp only at H); by_cases c7 : qcf = true; rotate_left
   ·replace c7 := Bool.eq_false_iff.mpr c7; subst c7; rw [if_neg (show ¬ (false = true) by decide)] at H; have H' := ak_ H; clear H
    go_wp2_with (first | (refine gl_ 15 Tryz.func226 #[.int .i64 qcU] rfl qbK ?_; (with_reducible refine (qdj.calls k1 qcU false _ A6.out).mono ?_); rintro e w' ⟨rfl, ⟨nd, rfl⟩⟩; refine ⟨_, rfl, ?_⟩))
    go_roundg k1
    case measure => have := HK1.out; omega
    case rel => exact ⟨(qbP), (wrap64 (qcU + 1)), qav, H', ⟨qc9⟩, ⟨qnM⟩, ⟨qam⟩⟩
   subst c7; rw [if_pos rfl] at H; by_cases c8 : qbP.length < 17592186044416; rotate_left
   ·rw [if_neg c8] at H; exact absurd H (by simp)
   rw [if_pos c8] at H; have LMc8 := ak_ c8; clear c8
   obtain ⟨qhD, hy_⟩ : ∃ y_ : List Int, y_ = (qbP ++ [qcU]) := ⟨_, rfl⟩
   replace H : (qaP.l0 k1 a1 qhD (wrap64 (qcU + 1))) = some r := qe6; have qhi := ak_ hy_; clear hy_; have H' := ak_ H; clear H
   go_wp2_with (first | (refine gl_ 15 Tryz.func226 #[.int .i64 qcU] rfl qbK ?_; (with_reducible refine (qdj.calls k1 qcU true _ A6.out).mono ?_); rintro e w' ⟨rfl, ⟨nd, rfl⟩⟩; refine ⟨_, rfl, ?_⟩) | ((with_reducible refine qa3 (b := .append) (xs := #[.tmp 16, .tmp 18]) rfl ?_); at_builtin; refine Kd.qc8 (Kd.int .i64) (w0 := w) w.heap.size rfl (.tmp 16) (.tmp 18) 48 3 (.int .i64 0) 8 rfl Tryz.underlying48 info3 rfl (by decide) (by omega) u5 qbP qcU [.int .i64 qcU] (fun _ => True) (fun _ => False) rfl rfl ?aP (fun _ hk => hk.elim) ?aF ?aO ?aB ?aS ?aL ?_; (case aP => exact rfl); (case aB => exact qam); (case aF => exact (fun _ _ => trivial)); (case aO => exact qnM); (case aS => exact (qab qam)); (case aL => have := LMc8.out; omega); intro qqI w9 ho hb hg hat; rw [← qhi.out] at ho; replace HB := ak_ (hb); have qe2 := ak_ (ho); clear qgy; clear ho hb hg hat))
   go_roundg k1
   case measure => have := HK1.out; omega
   case rel => exact ⟨(qhD), (wrap64 (qcU + 1)), qav, H', ⟨qc9⟩, ⟨by apply_rules only [qe2.out, Kd.qaq, Kd.qar, Kd.qaC]⟩, ⟨qam⟩⟩
def qbt.l0 : Nat → List (qac) → List Int → Int → Int → Option ((List (qac)))
 | 0, _, _, _, _ => none
 | k + 1, x3, x9, x10, x11 => if x11 < x10 then (if 0 ≤ x11 then (if x11 < (x9.length : Int) then (if x3.length < 8796093022208 then (qbt.l0 k (x3 ++ [(⟨rd x9 x11, 0⟩ : qac)]) x9 x10 (wrap64 (x11 + 1))) else (none)) else (none)) else (none)) else (some x3)
def qbt.f (k : Nat) (a0 : Int) : Option ((List (qac))) := (qaP.f k 0 37).bind fun qcf => (if 0 ≤ a0 then (if a0 ≤ (qcf.length : Int) then ((some (qcf.take (a0 : Int).toNat : List Int)).bind fun qfr => (qbt.l0 k (([] : List (qac))) qfr (qfr.length : Int) 0)) else (none)) else (none))
theorem qbt.calls (k : Nat) (a0 : Int) (r : List (qac)) (w : World) (h : qbt.f k a0 = some r) :
  Calls Tryz.prog 186 #[.int .i64 a0] w fun e w' => ∃ v0_ : Value, e = .returned (v0_) ∧ Kd.R qaN 85 w' w.heap.size (fun _ => True) v0_ r ∧ Below w.heap.size w w' := by
 have qms := Tryz.underlying85; have HB := ak_ (Below.refl w.heap.size w); have H : ((qaP.f k 0 37).bind fun qcf => (if 0 ≤ a0 then (if a0 ≤ (qcf.length : Int) then ((some (qcf.take (a0 : Int).toNat : List Int)).bind fun qfr => (qbt.l0 k (([] : List (qac))) qfr (qfr.length : Int) 0)) else (none)) else (none))) = some r := h; clear h
 obtain ⟨qeS, hy_⟩ : ∃ y_ : List (qac), y_ = (([] : List (qac))) := ⟨_, rfl⟩
 replace H : ((qaP.f k 0 37).bind fun qcf => (if 0 ≤ a0 then (if a0 ≤ (qcf.length : Int) then ((some (qcf.take (a0 : Int).toNat : List Int)).bind fun qfr => (qbt.l0 k qeS qfr (qfr.length : Int) 0)) else (none)) else (none))) = some r := qe6; have qeb := ak_ hy_; clear hy_; obtain ⟨qcf, A2, H⟩ := qaw H; (try dsimp only at H); by_cases c3 : 0 ≤ a0; rotate_left
 ·rw [if_neg c3] at H; exact absurd H (by simp)
 rw [if_pos c3] at H; have qff := eq_true c3; have qlV : decide (0 ≤ a0) = true := decide_eq_true c3; clear c3; by_cases c4 : a0 ≤ (qcf.length : Int); rotate_left
 ·rw [if_neg c4] at H; exact absurd H (by simp)
 rw [if_pos c4] at H; have qfx := eq_true c4; have qlW : decide (a0 ≤ (qcf.length : Int)) = true := decide_eq_true c4; clear c4
 obtain ⟨qfr, hy_⟩ : ∃ y_ : List Int, y_ = (qcf.take (a0 : Int).toNat) := ⟨_, rfl⟩
 replace H : (qbt.l0 k qeS qfr (qfr.length : Int) 0) = some r := qe6; have qjv := ak_ hy_; clear hy_; have H' := ak_ H; clear H; go_enter Tryz.func186, Tryz.ntmps186
 go_wp2_with (first | ((with_reducible refine qak (N := 6) rfl ?_); refine Kd.qg9 qaN _ 85 ?hg (N := 6) ?hd (xs := ([] : List (qac))) (inner := []) (ok := fun _ => True) (okp := fun _ => True) ?hr ?hp (fun _ hk => hk) trivial (Below.refl _ _) (Nat.le_refl _) (by simp) ?_; (case hd => rfl); (case hg => rfl); (case hr => exact qbb); (case hp => exact (qd9.none _ _)); intro qiq w5 ho6 hb hg_ hnew_; clear hg_ hnew_; (first | rw [← qeb.out] at ho6 | (simp only [Int.reduceToNat] at ho6; rw [← qeb.out] at ho6)); have qdi := ak_ (Kd.qau ho6 (qab qam)); replace HB := HB.mw hb; clear hb ho6) | (refine gl_ 7 Tryz.func191 #[.int .i64 0, .int .i64 37] rfl qbK ?_; (with_reducible refine (qaP.calls k 0 37 qcf _ A2.out).mono ?_); rintro e w7 ⟨v105, rfl, ho0, hb⟩; refine ⟨_, rfl, ?_⟩; replace qdi := qdi.mw hb; have qeK := ak_ (Kd.qau ho0 (qab qam)); replace HB := HB.mw hb; (try clear hb ho0); obtain ⟨Ao9, co9, eo9⟩ := Kd.qaJ qeK.out; subst eo9; have q8 : (a0 : Int) ≤ ((qcf.length : Int) : Int) := of_decide_eq_true qaU; obtain ⟨i08, hi08, _, hsz8, _⟩ := info_parts info3; have hroom8 : qcf.length ≤ co9 := (Kd.R_reads' qeK.out).2.1; have hC8 : Kd.C (Kd.int .i64) _ Ao9 qcf.length qcf := (Kd.R_reads' qeK.out).2.2; have hcut8 := qj0 (P := Tryz.prog) 48 3 .i64 Tryz.underlying48 hi08 Ao9 qcf.length co9 a0 (of_decide_eq_true qaU) q8 hroom8; have hr8 := Kd.qmw (m := (a0 : Int).toNat) hC8 (by omega); have hy8 : qfr.length = (a0 : Int).toNat := (by rw [qjv.out, List.length_take]; omega); rw [← qjv.out] at hr8; rw [← hy8] at hcut8; have HR110 := ak_ hr8; have HC110 := ak_ (show qfr.length ≤ co9 from by omega); clear hr8 hC8 hroom8 hi08 hsz8; have KY8 := ak_ hy8; clear hy8; have KL8 := ak_ (show (a0 : Int).toNat ≤ qcf.length from by omega); replace q8 := eq_true q8))
 go_loopg [3, 11] k (fun kq v3 v11 w' => ∃ (qbg : List (qac)) (qb2 : Int), v11 = .int .i64 qb2 ∧ qag (qbt.l0 kq qbg qfr (qfr.length : Int) qb2 = some r) ∧ qag (kq ≤ k) ∧ qag (Kd.R qaN 85 w' w.heap.size (fun _ => True) v3 qbg) ∧ qag (Kd.R (Kd.int .i64) 3 w' w.heap.size (fun _ => True) (.slice Ao9 qcf.length co9) qcf) ∧ qag (Below w.heap.size w w'))
 case atStart => exact ⟨(qeS), (0), qav, H', ⟨Nat.le_refl _⟩, ⟨qpM⟩, ⟨k84_⟩, ⟨qam⟩⟩
 case round =>
  clear H'
  skip
  obtain ⟨qbg, qb2, rfl, HA, HK1, qdr, HOQ_, HB⟩ := hrel
  cases gk with
  | zero => exact absurd HA.out (by simp [qbt.l0])
  | succ k1 =>
   have H := HA.out; clear HA; simp only [qbt.l0] at H; by_cases c10 : qb2 < (qfr.length : Int); rotate_left
   ·rw [if_neg c10] at H; have qgC : decide (qb2 < (qfr.length : Int)) = false := decide_eq_false c10; clear c10; obtain rfl := Option.some.inj H; go_wp2
    go_ret
    exact ⟨_, qce, k64_, qam⟩
   rw [if_pos c10] at H; have qgC : decide (qb2 < (qfr.length : Int)) = true := decide_eq_true c10; clear c10; by_cases c11 : 0 ≤ qb2; rotate_left
   ·rw [if_neg c11] at H; exact absurd H (by simp)
   rw [if_pos c11] at H; have qgs : decide (0 ≤ qb2) = true := decide_eq_true c11; clear c11; by_cases c12 : qb2 < (qfr.length : Int); rotate_left
   ·rw [if_neg c12] at H; exact absurd H (by simp)
   rw [if_pos c12] at H; have qhm : decide (qb2 < (qfr.length : Int)) = true := decide_eq_true c12; clear c12; by_cases c13 : qbg.length < 8796093022208; rotate_left
   ·rw [if_neg c13] at H; exact absurd H (by simp)
   rw [if_pos c13] at H; have LMc13 := ak_ c13; clear c13
   obtain ⟨y112, hy_⟩ : ∃ y_ : List (qac), y_ = (qbg ++ [(⟨rd qfr qb2, 0⟩ : qac)]) := ⟨_, rfl⟩
   replace H : (qbt.l0 k1 y112 qfr (qfr.length : Int) (wrap64 (qb2 + 1))) = some r := qe6; have Ny112 := ak_ hy_; clear hy_; have H' := ak_ H; clear H; have p111 : 0 ≤ (qb2 : Int) := of_decide_eq_true qaU; have q111 : qb2 < (qfr.length : Int) := of_decide_eq_true qaU; obtain ⟨ad111, e111, hx111_0⟩ := Kd.qem (show Kd.C (Kd.int .i64) _ Ao9 qfr.length qfr from by have h_ := Kd.qmw (m := (a0 : Int).toNat) (Kd.R_reads' HOQ_.out).2.2 KL8.out; rw [← qjv.out] at h_; exact h_) qb2 p111 q111
   cases e111
   replace p111 := eq_true p111; replace q111 := eq_true q111
   go_wp2_with (first | ((with_reducible refine qa3 (b := .append) (xs := #[.tmp 15, .tmp 18]) rfl ?_); at_builtin; refine Kd.qc8 qaN (w0 := w) w.heap.size rfl (.tmp 15) (.tmp 18) 26 85 (.agg #[(.int .i64 0), (.int .i64 0)]) 16 rfl Tryz.underlying26 qfQ rfl (by decide) (by omega) u3 qbg (⟨rd qfr qb2, 0⟩ : qac) [.int .i64 (rd qfr qb2), .int .i64 0] (fun _ => True) (fun _ => False) rfl rfl ?aP (fun _ hk => hk.elim) ?aF ?aO ?aB ?aS ?aL ?_; (case aP => exact qdo _ _ _ (⟨rd qfr qb2, 0⟩ : qac)); (case aB => exact qam); (case aF => exact (fun _ _ => trivial)); (case aO => exact qhQ); (case aS => exact (qab qam)); (case aL => have := LMc13.out; omega); intro v113 w14 ho hb hg hat; rw [← Ny112.out] at ho; have n0_ := ak_ (hb); have n1_ := ak_ (ho); have n2_ := ak_ (Kd.R_over' (by apply_rules only [HOQ_.out, Kd.qaq, Kd.qar, Kd.qaC]) (Kd.qh3 qhQ) (by decide) hg); clear HOQ_; have HOQ_ := n2_; clear n2_; clear HB; clear qdr; have HB := n0_; have HO114 := n1_; clear n0_ n1_; clear ho hb hg hat))
   go_roundg k1
   case measure => have := HK1.out; omega
   case rel => exact ⟨(y112), (wrap64 (qb2 + 1)), qav, H', ⟨qc9⟩, ⟨by apply_rules only [HO114.out, Kd.qaq, Kd.qar, Kd.qaC]⟩, ⟨by apply_rules only [HOQ_.out, Kd.qaq, Kd.qar, Kd.qaC]⟩, ⟨qam⟩⟩
def qcz.f (k : Nat) (a0 : Int) : Option ((List (qac)) × Bool) := if a0 < 0 then (some (([] : List (qac)), false)) else (if a0 > 12 then (some (([] : List (qac)), false)) else ((qbt.f k a0).bind fun qas => (some (qas, true))))
theorem qcz.calls (k : Nat) (a0 : Int) (r1 : List (qac)) (r2 : Bool) (w : World) (h : qcz.f k a0 = some (r1, r2)) :
  Calls Tryz.prog 125 #[.int .i64 a0] w fun e w' => ∃ v0_ : Value, e = .returned (.tuple #[v0_, .bool r2]) ∧ Kd.R qaN 85 w' w.heap.size (fun _ => True) v0_ r1 ∧ Below w.heap.size w w' := by
 have HB := ak_ (Below.refl w.heap.size w); have H : (if a0 < 0 then (some (([] : List (qac)), false)) else (if a0 > 12 then (some (([] : List (qac)), false)) else ((qbt.f k a0).bind fun qas => (some (qas, true))))) = some (r1, r2) := h; clear h; by_cases c2 : a0 < 0
 ·rw [if_pos c2] at H; have qfe : decide (a0 < 0) = true := decide_eq_true c2; clear c2; obtain ⟨rfl, rfl⟩ := qdI H; go_enter Tryz.func125, Tryz.ntmps125; go_wp2
  go_ret2
  exact ⟨_, qce, qg4, qam⟩
 rw [if_neg c2] at H; have qfe : decide (a0 < 0) = false := decide_eq_false c2; clear c2; by_cases c3 : a0 > 12
 ·rw [if_pos c3] at H; have qff : decide (12 < a0) = true := decide_eq_true c3; clear c3; obtain ⟨rfl, rfl⟩ := qdI H; go_enter Tryz.func125, Tryz.ntmps125; go_wp2
  go_ret2
  exact ⟨_, qce, qg4, qam⟩
 rw [if_neg c3] at H; have qff : decide (12 < a0) = false := decide_eq_false c3; clear c3; obtain ⟨qas, A4, H⟩ := qaw H; (try dsimp only at H); obtain ⟨rfl, rfl⟩ := qdI H; go_enter Tryz.func125, Tryz.ntmps125
 go_wp2_with (first | (refine gl_ 11 Tryz.func186 #[.int .i64 a0] rfl qbK ?_; (with_reducible refine (qbt.calls k a0 qas _ A4.out).mono ?_); rintro e w5 ⟨qiq, rfl, ho0, hb⟩; refine ⟨_, rfl, ?_⟩; have qdi := ak_ (Kd.qau ho0 (qab qam)); replace HB := HB.mw hb; (try clear hb ho0)))
 go_ret2
 exact ⟨_, qce, by (with_reducible repeat (first | apply Kd.qaq | apply Kd.qar | apply Kd.qaC)); exact qdi.out, qam⟩
def qfm (n : Int) (x : qac) : Bool := n % x.f0 == x.f1
theorem qsm (n b : Int) (h1 : 2 ≤ b) (h2 : b ≤ 60) : qfo.f n b = some (n % b) := by
  unfold qfo.f; rw [if_neg (by omega)]; have a1 := Int.tmod_lt_of_pos n (b := b) (by omega); have a2 := Int.lt_tmod_of_pos n (b := b) (by omega); rw [show wrap64 (Int.tmod n b + b) = Int.tmod n b + b by unfold wrap64; omega]; rw [Int.tmod_eq_emod_of_nonneg (by omega : 0 ≤ Int.tmod n b + b), Int.add_emod_right]
  congr 1
  rw [Int.tmod_eq_emod]; split
  ·simp
  rw [Int.sub_emod, Int.emod_emod_of_dvd _ (Int.dvd_refl _)]
  have : ((b.natAbs : Int)) % b = 0 := by rw [show (b.natAbs : Int) = b by omega]; exact Int.emod_self
  rw [this]; simp
def qd5.f (l0 : List (qac)) (a1 : Int) : Option (Int) := if l0.all qbC = true then some (qd3 (qfm a1) l0 0) else none
set_option maxHeartbeats 2000000 in
theorem qiV (n : Int) (B : Nat) (x : qac) (W : World) (hx : qbC x = true) (hB : B < W.heap.size) (hn : W.cell? ⟨B, 0, none⟩ = some (.int .i64 n)) :
    Calls Tryz.prog 257 #[.agg #[.int .i64 x.f0, .int .i64 x.f1], .pointer (some ⟨B, 0, none⟩)] W fun e w' => e = .returned (.bool (qfm n x)) ∧ Below W.heap.size W w' := by
  have hu := Tryz.underlying85
  have h1 : 2 ≤ x.f0 ∧ x.f0 ≤ 60 := by unfold qbC at hx; simp at hx; omega
  have HM := ak_ (fun W => qfo.calls n x.f0 _ W (qsm n x.f0 h1.1 h1.2)); clear hx h1; unfold qfm; go_enter Tryz.func257, Tryz.ntmps257; go_wp2
  go_quiet ((go_at_call 185; exact Calls.quiet_of ((HM.out _).mono (fun e w' h => ⟨h.1, h.2.out⟩))))
  go_wp2
  go_ret
  exact ⟨rfl, qaf (qai (Below.refl _ _) _) _⟩
set_option maxHeartbeats 2000000 in
theorem qd5.calls (A0 : Option Addr) (c0 : Nat) (l0 : List (qac)) (a1 : Int) (r : Int) (w : World) (hr0 : Kd.C qaN w A0 l0.length l0) (hc0 : l0.length ≤ c0) (h : qd5.f l0 a1 = some r) :
    Calls Tryz.prog 238 #[.slice A0 l0.length c0, .int .i64 a1] w fun e w' => e = .returned (.int .i64 r) ∧ Below w.heap.size w w' := by
  unfold qd5.f at h; by_cases hl : l0.all qbC = true; rotate_left
  ·rw [if_neg hl] at h; exact absurd h (by simp)
  rw [if_pos hl] at h; obtain rfl := Option.some.inj h; clear h; have hb := qai (Below.refl w.heap.size w) (.cells #[.int .i64 a1] 3 (0, 0)); have hcall := qng (qfm a1) 257 #[.pointer (some ⟨w.heap.size, 0, none⟩)] (enters_of Tryz.func257 (by kernel_rfl) rfl) A0 c0 l0 (w.alloc (.cells #[.int .i64 a1] 3 (0, 0)))
    (fun W' x hx hb' => (qiV a1 w.heap.size x W' (List.all_eq_true.mp hl x hx) (by have := hb'.size; simp at this; omega) ((hb'.cell (p := ⟨w.heap.size, 0, none⟩) (by simp)).trans (by simp))).mono fun e w' ⟨he, hb2⟩ => ⟨he, hb'.trans (hb2.mono hb'.size)⟩) (Kd.qei hr0 hb)
  have HC := ak_ hcall; have HB := ak_ hb; clear hcall hr0 hl hb; go_enter Tryz.func238, Tryz.ntmps238
  go_wp2_with (go_at_call 145; refine HC.out.mono ?_; rintro e w' ⟨rfl, hb'⟩)
  go_ret
  exact ⟨rfl, HB.out.trans (hb'.mono HB.out.size)⟩
def qcS.f (l0 : List (qac)) (a1 : Int) : Option (Bool) := (qd5.f l0 a1).bind fun qas => (some (decide (qas < 0)))
theorem qcS.calls (A0 : Option Addr) (c0 : Nat) (l0 : List (qac)) (a1 : Int) (r : Bool) (w : World) (hr0 : Kd.C qaN w A0 l0.length l0) (hc0 : l0.length ≤ c0) (h : qcS.f l0 a1 = some r) :
  Calls Tryz.prog 199 #[.slice A0 l0.length c0, .int .i64 a1] w fun e w' => e = .returned (.bool r) ∧ Below w.heap.size w w' := by
 have HR0 := ak_ hr0; have HC0 := ak_ hc0; clear hr0 hc0; have HB := ak_ (Below.refl w.heap.size w); have H : ((qd5.f l0 a1).bind fun qas => (some (decide (qas < 0)))) = some r := h; clear h; obtain ⟨qas, A3, H⟩ := qaw H; (try dsimp only at H); obtain rfl := Option.some.inj H; go_enter Tryz.func199, Tryz.ntmps199
 go_wp2_with (first | (refine gl_ 7 Tryz.func238 #[.slice A0 l0.length c0, .int .i64 a1] rfl qbK ?_; (with_reducible refine (qd5.calls _ _ l0 a1 qas _ ?qay ?qaz A3.out).mono ?_); (case qay => exact qfM); (case qaz => exact qb6); rintro e w4 ⟨rfl, hb⟩; refine ⟨_, rfl, ?_⟩; replace HB := HB.mw hb; (try clear hb)))
 go_ret
 exact ⟨qce, qam⟩
def qaA.l0 : Nat → List (qac) → Int → List Int → Int → Option (List Int)
 | 0, _, _, _, _ => none
 | k + 1, x0, x2, x7, x8 => if x8 ≤ x2 then ((qcS.f x0 x8).bind fun qcf => (if qcf = true then (if x7.length < 17592186044416 then (qaA.l0 k x0 x2 (x7 ++ [x8]) (wrap64 (x8 + 1))) else (none)) else (qaA.l0 k x0 x2 x7 (wrap64 (x8 + 1))))) else (some x7)
def qaA.f (k : Nat) (l0 : List (qac)) (a1 : Int) (a2 : Int) : Option (List Int) := qaA.l0 k l0 a2 (([] : List Int)) a1
theorem qaA.calls (k : Nat) (A0 : Option Addr) (c0 : Nat) (l0 : List (qac)) (a1 : Int) (a2 : Int) (r : List Int) (w : World) (hr0 : Kd.C qaN w A0 l0.length l0) (hc0 : l0.length ≤ c0) (h : qaA.f k l0 a1 a2 = some r) :
  Calls Tryz.prog 139 #[.slice A0 l0.length c0, .int .i64 a1, .int .i64 a2] w fun e w' => ∃ v0_ : Value, e = .returned (v0_) ∧ Kd.R (Kd.int .i64) 3 w' w.heap.size (fun _ => True) v0_ r ∧ Below w.heap.size w w' := by
 have HR0 := ak_ hr0; have HC0 := ak_ hc0; clear hr0 hc0; have HB := ak_ (Below.refl w.heap.size w); have H : (qaA.l0 k l0 a2 (([] : List Int)) a1) = some r := h; clear h
 obtain ⟨qeS, hy_⟩ : ∃ y_ : List Int, y_ = (([] : List Int)) := ⟨_, rfl⟩
 replace H : (qaA.l0 k l0 a2 qeS a1) = some r := qe6; have qeb := ak_ hy_; clear hy_; have H' := ak_ H; clear H; go_enter Tryz.func139, Tryz.ntmps139
 go_wp2_with (first | ((with_reducible refine qak (N := 9) rfl ?_); refine li_ (Kd.int .i64) 3 9 rfl (xs := ([] : List Int)) qbb ?_; intro qiq w4 ho5 hb; (first | rw [← qeb.out] at ho5 | (simp only [Int.reduceToNat] at ho5; rw [← qeb.out] at ho5)); have qdi := ak_ (Kd.qau ho5 (qab qam)); replace HB := HB.mw hb; clear hb ho5))
 go_loopg [7, 8] k (fun kq v7 v8 w' => ∃ (qcZ : List Int) (qcM : Int), v8 = .int .i64 qcM ∧ qag (qaA.l0 kq l0 a2 qcZ qcM = some r) ∧ qag (kq ≤ k) ∧ qag (Kd.R (Kd.int .i64) 3 w' w.heap.size (fun _ => True) v7 qcZ) ∧ qag (Below w.heap.size w w'))
 case atStart => exact ⟨(qeS), (a1), qav, H', ⟨Nat.le_refl _⟩, ⟨qpM⟩, ⟨qam⟩⟩
 case round =>
  clear H'; obtain ⟨qcZ, qcM, rfl, HA, HK1, qit, HB⟩ := hrel
  cases gk with
  | zero => exact absurd HA.out (by simp [qaA.l0])
  | succ k1 =>
   have H := HA.out; clear HA; simp only [qaA.l0] at H; by_cases c6 : qcM ≤ a2; rotate_left
   ·rw [if_neg c6] at H; have qfY : decide (qcM ≤ a2) = false := decide_eq_false c6; clear c6; obtain rfl := Option.some.inj H; go_wp2
    go_ret
    exact ⟨_, qce, by (with_reducible repeat (first | apply Kd.qaq | apply Kd.qar | apply Kd.qaC)); exact qit.out, qam⟩
   rw [if_pos c6] at H; have qfY : decide (qcM ≤ a2) = true := decide_eq_true c6; clear c6; obtain ⟨qcf, A7, H⟩ := qaw H; (try dsimp only at H); by_cases c8 : qcf = true; rotate_left
   ·replace c8 := Bool.eq_false_iff.mpr c8; subst c8; rw [if_neg (show ¬ (false = true) by decide)] at H; have H' := ak_ H; clear H
    go_wp2_with (first | (refine gl_ 18 Tryz.func199 #[.slice A0 l0.length c0, .int .i64 qcM] rfl qbK ?_; (with_reducible refine (qcS.calls _ _ l0 qcM false _ ?qay ?qaz A7.out).mono ?_); (case qay => exact qg3); (case qaz => exact qb6); rintro e w12 ⟨rfl, hb⟩; refine ⟨_, rfl, ?_⟩; replace qit := qit.mw hb; replace HB := HB.mw hb; (try clear hb)))
    go_roundg k1
    case measure => have := HK1.out; omega
    case rel => exact ⟨(qcZ), (wrap64 (qcM + 1)), qav, H', ⟨qc9⟩, ⟨k91_⟩, ⟨qam⟩⟩
   subst c8; rw [if_pos rfl] at H; by_cases c9 : qcZ.length < 17592186044416; rotate_left
   ·rw [if_neg c9] at H; exact absurd H (by simp)
   rw [if_pos c9] at H; have LMc9 := ak_ c9; clear c9
   obtain ⟨qhD, hy_⟩ : ∃ y_ : List Int, y_ = (qcZ ++ [qcM]) := ⟨_, rfl⟩
   replace H : (qaA.l0 k1 l0 a2 qhD (wrap64 (qcM + 1))) = some r := qe6; have qhi := ak_ hy_; clear hy_; have H' := ak_ H; clear H
   go_wp2_with (first | (refine gl_ 18 Tryz.func199 #[.slice A0 l0.length c0, .int .i64 qcM] rfl qbK ?_; (with_reducible refine (qcS.calls _ _ l0 qcM true _ ?qay ?qaz A7.out).mono ?_); (case qay => exact qg3); (case qaz => exact qb6); rintro e w10 ⟨rfl, hb⟩; refine ⟨_, rfl, ?_⟩; replace qit := qit.mw hb; replace HB := HB.mw hb; (try clear hb)) | ((with_reducible refine qa3 (b := .append) (xs := #[.tmp 19, .tmp 21]) rfl ?_); at_builtin; refine Kd.qc8 (Kd.int .i64) (w0 := w) w.heap.size rfl (.tmp 19) (.tmp 21) 48 3 (.int .i64 0) 8 rfl Tryz.underlying48 info3 rfl (by decide) (by omega) u7 qcZ qcM [.int .i64 qcM] (fun _ => True) (fun _ => False) rfl rfl ?aP (fun _ hk => hk.elim) ?aF ?aO ?aB ?aS ?aL ?_; (case aP => exact rfl); (case aB => exact qam); (case aF => exact (fun _ _ => trivial)); (case aO => exact k91_); (case aS => exact (qab qam)); (case aL => have := LMc9.out; omega); intro qqI w11 ho hb hg hat; rw [← qhi.out] at ho; replace HB := ak_ (hb); have qe2 := ak_ (ho); clear qit; clear ho hb hg hat))
   go_roundg k1
   case measure => have := HK1.out; omega
   case rel => exact ⟨(qhD), (wrap64 (qcM + 1)), qav, H', ⟨qc9⟩, ⟨by apply_rules only [qe2.out, Kd.qaq, Kd.qar, Kd.qaC]⟩, ⟨qam⟩⟩
def qdd.l0 : Nat → Int → Int → Option (Int)
 | 0, _, _ => none
 | k + 1, x0, x1 => if x1 > 0 then (if x1 = 0 then (none) else (qdd.l0 k x1 (Int.tmod x0 x1))) else (some x0)
def qdd.f (k : Nat) (a0 : Int) (a1 : Int) : Option (Int) := qdd.l0 k a0 a1
theorem qdd.calls (k : Nat) (a0 : Int) (a1 : Int) (r : Int) (w : World) (h : qdd.f k a0 a1 = some r) :
  Calls Tryz.prog 239 #[.int .i64 a0, .int .i64 a1] w fun e w' => e = .returned (.int .i64 r) ∧ qcX w w' := by
 have H : (qdd.l0 k a0 a1) = some r := h; clear h; have H' := ak_ H; clear H; go_enter Tryz.func239, Tryz.ntmps239; go_wp2
 repeat (go_quiet (fail); try go_wp2)
 go_loopg [0, 1] k (fun kq v0 v1 w' => ∃ (qfq : Int) (qgI : Int), v0 = .int .i64 qfq ∧ v1 = .int .i64 qgI ∧ qag (qdd.l0 kq qfq qgI = some r) ∧ qag (kq ≤ k) ∧ qcX w w')
 case atStart => exact ⟨(a0), (a1), qav, qav, H', ⟨Nat.le_refl _⟩, qc2⟩
 case round =>
  clear H'; obtain ⟨qfq, qgI, rfl, rfl, HA, HK1, ⟨m1, rfl⟩⟩ := hrel
  cases gk with
  | zero => exact absurd HA.out (by simp [qdd.l0])
  | succ k1 =>
   have H := HA.out; clear HA; simp only [qdd.l0] at H; by_cases c3 : qgI > 0; rotate_left
   ·rw [if_neg c3] at H; have qff : decide (0 < qgI) = false := decide_eq_false c3; clear c3; obtain rfl := Option.some.inj H; go_wp2
    repeat (go_quiet (fail); try go_wp2)
    go_ret
    exact ⟨qav, qc2⟩
   rw [if_pos c3] at H; have qff : decide (0 < qgI) = true := decide_eq_true c3; clear c3; by_cases c4 : qgI = 0
   ·rw [if_pos c4] at H; exact absurd H (by simp)
   rw [if_neg c4] at H; have qfx : (qgI == 0) = false := beq_eq_false_iff_ne.mpr c4; have qlW : (qgI != 0) = true := bne_iff_ne.mpr c4; have H' := ak_ H; clear H; go_wp2
   repeat (go_quiet (fail); try go_wp2)
   go_roundg k1
   case measure => have := HK1.out; omega
   case rel => exact ⟨(qgI), (Int.tmod qfq qgI), qav, qav, H', ⟨qc9⟩, qc2⟩
def qcV.l0 : Nat → Int → List (qac) → Int → Int → Option (Int × Bool)
 | 0, _, _, _, _ => none
 | k + 1, x4, x7, x8, x9 => if x9 < x8 then (if 0 ≤ x9 then (if x9 < (x7.length : Int) then ((qdd.f k x4 ((qae x7 x9).f0)).bind fun qb7 => (if qb7 = 0 then (none) else (if (wrap64 ((wrap64 (Int.tdiv x4 qb7)) * ((qae x7 x9).f0))) > 100000 then (some (0, false)) else (qcV.l0 k (wrap64 ((wrap64 (Int.tdiv x4 qb7)) * ((qae x7 x9).f0))) x7 x8 (wrap64 (x9 + 1)))))) else (none)) else (none)) else (some (x4, true))
def qcV.f (k : Nat) (l0 : List (qac)) : Option (Int × Bool) := qcV.l0 k 1 l0 (l0.length : Int) 0
theorem qcV.calls (k : Nat) (A0 : Option Addr) (c0 : Nat) (l0 : List (qac)) (r1 : Int) (r2 : Bool) (w : World) (hr0 : Kd.C qaN w A0 l0.length l0) (hc0 : l0.length ≤ c0) (h : qcV.f k l0 = some (r1, r2)) :
  Calls Tryz.prog 200 #[.slice A0 l0.length c0] w fun e w' => e = .returned (.tuple #[.int .i64 r1, .bool r2]) ∧ Below w.heap.size w w' := by
 have qms := Tryz.underlying85; have HR0 := ak_ hr0; have HC0 := ak_ hc0; clear hr0 hc0; have HB := ak_ (Below.refl w.heap.size w); have H : (qcV.l0 k 1 l0 (l0.length : Int) 0) = some (r1, r2) := h; clear h; have H' := ak_ H; clear H; go_enter Tryz.func200, Tryz.ntmps200; go_wp2
 repeat (go_quiet (fail); try go_wp2)
 go_loopg [4, 9] k (fun kq v4 v9 w' => ∃ (qcs : Int) (qcE : Int), v4 = .int .i64 qcs ∧ v9 = .int .i64 qcE ∧ qag (qcV.l0 kq qcs l0 (l0.length : Int) qcE = some (r1, r2)) ∧ qag (kq ≤ k) ∧ qag (Below w.heap.size w w'))
 case atStart => exact ⟨(1), (0), qav, qav, H', ⟨Nat.le_refl _⟩, ⟨qam⟩⟩
 case round =>
  clear H'; obtain ⟨qcs, qcE, rfl, rfl, HA, HK1, HB⟩ := hrel
  cases gk with
  | zero => exact absurd HA.out (by simp [qcV.l0])
  | succ k1 =>
   have H := HA.out; clear HA; simp only [qcV.l0] at H; by_cases c2 : qcE < (l0.length : Int); rotate_left
   ·rw [if_neg c2] at H; have qfe : decide (qcE < (l0.length : Int)) = false := decide_eq_false c2; clear c2; obtain ⟨rfl, rfl⟩ := qdI H; go_wp2
    repeat (go_quiet (fail); try go_wp2)
    go_ret2
    exact ⟨qce, qam⟩
   rw [if_pos c2] at H; have qfe : decide (qcE < (l0.length : Int)) = true := decide_eq_true c2; clear c2; by_cases c3 : 0 ≤ qcE; rotate_left
   ·rw [if_neg c3] at H; exact absurd H (by simp)
   rw [if_pos c3] at H; have qff : decide (0 ≤ qcE) = true := decide_eq_true c3; clear c3; by_cases c4 : qcE < (l0.length : Int); rotate_left
   ·rw [if_neg c4] at H; exact absurd H (by simp)
   rw [if_pos c4] at H; have qfx : decide (qcE < (l0.length : Int)) = true := decide_eq_true c4; clear c4; obtain ⟨qb7, A5, H⟩ := qaw H; (try dsimp only at H); by_cases c6 : qb7 = 0
   ·rw [if_pos c6] at H; exact absurd H (by simp)
   rw [if_neg c6] at H; have qfY : (qb7 == 0) = false := beq_eq_false_iff_ne.mpr c6; have qmK : (qb7 != 0) = true := bne_iff_ne.mpr c6; by_cases c7 : (wrap64 ((wrap64 (Int.tdiv qcs qb7)) * ((qae l0 qcE).f0))) > 100000
   ·rw [if_pos c7] at H; have qgM : decide (100000 < (wrap64 ((wrap64 (Int.tdiv qcs qb7)) * ((qae l0 qcE).f0)))) = true := decide_eq_true c7; clear c7; obtain ⟨rfl, rfl⟩ := qdI H; have qeE : 0 ≤ (qcE : Int) := of_decide_eq_true qaU; have qeI : qcE < (l0.length : Int) := of_decide_eq_true qaU; obtain ⟨qgB, qha, qbj, qcp⟩ := qdV HR0.out qcE qeE qeI
    cases qha
    replace qbj := (HB.out.cell (World.block_lt_of_cell? w _ qbj)).trans qbj; replace qcp := (HB.out.cell (World.block_lt_of_cell? w _ qcp)).trans qcp; replace qeE := eq_true qeE; replace qeI := eq_true qeI
    go_wp2_with (first | ((with_reducible refine qak (N := 6) rfl ?_); refine bx_ 6 rfl (cs := #[.int .i64 0, .int .i64 0]) (t := 85) qbb ?_; intro qej hg w8 hbox hb; have qcr := ak_ (hbox); have qgp := ak_ (HB.ge hg); have qgj := ak_ (HB.ge hg); replace HB := HB.mw hb; clear hb hbox hg; obtain ⟨qhq, qhr, qhs, qht⟩ := qbG qcr.out) | (go_at_call 239; (with_reducible refine (qdd.calls k1 qcs ((qae l0 qcE).f0) qb7 _ A5.out).mono ?_); rintro e w' ⟨rfl, ⟨nd, rfl⟩⟩; (try first | exact ⟨rfl, _, World.drewN_drewN _ _ _⟩ | exact ⟨rfl, _, Eq.trans (World.drewN_drewN _ _ _) (congrArg (World.drewN _) (Nat.add_assoc _ _ _))⟩)))
    repeat (go_quiet (first | ((with_reducible refine qak (N := 6) rfl ?_); refine bx_ 6 rfl (cs := #[.int .i64 0, .int .i64 0]) (t := 85) qbb ?_; intro qej hg w8 hbox hb; have qcr := ak_ (hbox); have qgp := ak_ (HB.ge hg); have qgj := ak_ (HB.ge hg); replace HB := HB.mw hb; clear hb hbox hg; obtain ⟨qhq, qhr, qhs, qht⟩ := qbG qcr.out) | (go_at_call 239; (with_reducible refine (qdd.calls k1 qcs ((qae l0 qcE).f0) qb7 _ A5.out).mono ?_); rintro e w' ⟨rfl, ⟨nd, rfl⟩⟩; (try first | exact ⟨rfl, _, World.drewN_drewN _ _ _⟩ | exact ⟨rfl, _, Eq.trans (World.drewN_drewN _ _ _) (congrArg (World.drewN _) (Nat.add_assoc _ _ _))⟩))); try go_wp2_with (first | ((with_reducible refine qak (N := 6) rfl ?_); refine bx_ 6 rfl (cs := #[.int .i64 0, .int .i64 0]) (t := 85) qbb ?_; intro qej hg w8 hbox hb; have qcr := ak_ (hbox); have qgp := ak_ (HB.ge hg); have qgj := ak_ (HB.ge hg); replace HB := HB.mw hb; clear hb hbox hg; obtain ⟨qhq, qhr, qhs, qht⟩ := qbG qcr.out) | (go_at_call 239; (with_reducible refine (qdd.calls k1 qcs ((qae l0 qcE).f0) qb7 _ A5.out).mono ?_); rintro e w' ⟨rfl, ⟨nd, rfl⟩⟩; (try first | exact ⟨rfl, _, World.drewN_drewN _ _ _⟩ | exact ⟨rfl, _, Eq.trans (World.drewN_drewN _ _ _) (congrArg (World.drewN _) (Nat.add_assoc _ _ _))⟩))))
    go_ret2
    exact ⟨qce, qmt⟩
   rw [if_neg c7] at H; have qgM : decide (100000 < (wrap64 ((wrap64 (Int.tdiv qcs qb7)) * ((qae l0 qcE).f0)))) = false := decide_eq_false c7; clear c7; have H' := ak_ H; clear H; have qeE : 0 ≤ (qcE : Int) := of_decide_eq_true qaU; have qeI : qcE < (l0.length : Int) := of_decide_eq_true qaU; obtain ⟨qgB, qha, qbj, qcp⟩ := qdV HR0.out qcE qeE qeI
   cases qha
   replace qbj := (HB.out.cell (World.block_lt_of_cell? w _ qbj)).trans qbj; replace qcp := (HB.out.cell (World.block_lt_of_cell? w _ qcp)).trans qcp; replace qeE := eq_true qeE; replace qeI := eq_true qeI
   go_wp2_with (first | ((with_reducible refine qak (N := 6) rfl ?_); refine bx_ 6 rfl (cs := #[.int .i64 0, .int .i64 0]) (t := 85) qbb ?_; intro qej hg w10 hbox hb; have qcr := ak_ (hbox); have qgp := ak_ (HB.ge hg); have qgj := ak_ (HB.ge hg); replace HB := HB.mw hb; clear hb hbox hg; obtain ⟨qf5, qf6, qf7, qf8⟩ := qbG qcr.out) | (go_at_call 239; (with_reducible refine (qdd.calls k1 qcs ((qae l0 qcE).f0) qb7 _ A5.out).mono ?_); rintro e w' ⟨rfl, ⟨nd, rfl⟩⟩; (try first | exact ⟨rfl, _, World.drewN_drewN _ _ _⟩ | exact ⟨rfl, _, Eq.trans (World.drewN_drewN _ _ _) (congrArg (World.drewN _) (Nat.add_assoc _ _ _))⟩)))
   repeat (go_quiet (first | ((with_reducible refine qak (N := 6) rfl ?_); refine bx_ 6 rfl (cs := #[.int .i64 0, .int .i64 0]) (t := 85) qbb ?_; intro qej hg w10 hbox hb; have qcr := ak_ (hbox); have qgp := ak_ (HB.ge hg); have qgj := ak_ (HB.ge hg); replace HB := HB.mw hb; clear hb hbox hg; obtain ⟨qf5, qf6, qf7, qf8⟩ := qbG qcr.out) | (go_at_call 239; (with_reducible refine (qdd.calls k1 qcs ((qae l0 qcE).f0) qb7 _ A5.out).mono ?_); rintro e w' ⟨rfl, ⟨nd, rfl⟩⟩; (try first | exact ⟨rfl, _, World.drewN_drewN _ _ _⟩ | exact ⟨rfl, _, Eq.trans (World.drewN_drewN _ _ _) (congrArg (World.drewN _) (Nat.add_assoc _ _ _))⟩))); try go_wp2_with (first | ((with_reducible refine qak (N := 6) rfl ?_); refine bx_ 6 rfl (cs := #[.int .i64 0, .int .i64 0]) (t := 85) qbb ?_; intro qej hg w10 hbox hb; have qcr := ak_ (hbox); have qgp := ak_ (HB.ge hg); have qgj := ak_ (HB.ge hg); replace HB := HB.mw hb; clear hb hbox hg; obtain ⟨qf5, qf6, qf7, qf8⟩ := qbG qcr.out) | (go_at_call 239; (with_reducible refine (qdd.calls k1 qcs ((qae l0 qcE).f0) qb7 _ A5.out).mono ?_); rintro e w' ⟨rfl, ⟨nd, rfl⟩⟩; (try first | exact ⟨rfl, _, World.drewN_drewN _ _ _⟩ | exact ⟨rfl, _, Eq.trans (World.drewN_drewN _ _ _) (congrArg (World.drewN _) (Nat.add_assoc _ _ _))⟩))))
   go_roundg k1
   case measure => have := HK1.out; omega
   case rel => exact ⟨(wrap64 ((wrap64 (Int.tdiv qcs qb7)) * ((qae l0 qcE).f0))), (wrap64 (qcE + 1)), qav, qav, H', ⟨qc9⟩, ⟨qmt⟩⟩
def qcb.f (k : Nat) (l0 : List (qac)) : Option (Int × Bool) := (qa9.f l0).bind fun qas => (if qas = true then ((qcV.f k l0).bind fun qeN => (some (qeN.1, qeN.2))) else (some (0, false)))
theorem qcb.calls (k : Nat) (A0 : Option Addr) (c0 : Nat) (l0 : List (qac)) (r1 : Int) (r2 : Bool) (w : World) (hr0 : Kd.C qaN w A0 l0.length l0) (hc0 : l0.length ≤ c0) (h : qcb.f k l0 = some (r1, r2)) :
  Calls Tryz.prog 140 #[.slice A0 l0.length c0] w fun e w' => e = .returned (.tuple #[.int .i64 r1, .bool r2]) ∧ Below w.heap.size w w' := by
 have HR0 := ak_ hr0; have HC0 := ak_ hc0; clear hr0 hc0; have HB := ak_ (Below.refl w.heap.size w); have H : ((qa9.f l0).bind fun qas => (if qas = true then ((qcV.f k l0).bind fun qeN => (some (qeN.1, qeN.2))) else (some (0, false)))) = some (r1, r2) := h; clear h; obtain ⟨qas, A2, H⟩ := qaw H; (try dsimp only at H); by_cases c3 : qas = true
 ·subst c3; rw [if_pos rfl] at H; obtain ⟨⟨qaI, qb7⟩, A4, H⟩ := qaw H; (try dsimp only at H); obtain ⟨rfl, rfl⟩ := qdI H; go_enter Tryz.func140, Tryz.ntmps140
  go_wp2_with (first | (refine gl_ 5 Tryz.func53 #[.slice A0 l0.length c0] rfl qbK ?_; (with_reducible refine (qa9.calls _ _ l0 true _ ?qay ?qaz A2.out).mono ?_); (case qay => exact qfM); (case qaz => exact qb6); rintro e w5 ⟨rfl, hb⟩; refine ⟨_, rfl, ?_⟩; replace HB := HB.mw hb; (try clear hb)) | (refine gl_ 8 Tryz.func200 #[.slice A0 l0.length c0] rfl qbK ?_; (with_reducible refine (qcV.calls k _ _ l0 qaI qb7 _ ?qay ?qaz A4.out).mono ?_); (case qay => exact qg3); (case qaz => exact qb6); rintro e w6 ⟨rfl, hb⟩; refine ⟨_, rfl, ?_⟩; replace HB := HB.mw hb; (try clear hb)))
  go_ret2
  exact ⟨qce, qam⟩
 replace c3 := Bool.eq_false_iff.mpr c3; subst c3; rw [if_neg (show ¬ (false = true) by decide)] at H; obtain ⟨rfl, rfl⟩ := qdI H; go_enter Tryz.func140, Tryz.ntmps140
 go_wp2_with (first | (refine gl_ 5 Tryz.func53 #[.slice A0 l0.length c0] rfl qbK ?_; (with_reducible refine (qa9.calls _ _ l0 false _ ?qay ?qaz A2.out).mono ?_); (case qay => exact qfM); (case qaz => exact qb6); rintro e w7 ⟨rfl, hb⟩; refine ⟨_, rfl, ?_⟩; replace HB := HB.mw hb; (try clear hb)))
 go_ret2
 exact ⟨qce, qam⟩
def qbS.f (k : Nat) (l0 : List (qac)) : Option (Int × List Int × Bool) := (qcb.f k l0).bind fun qeN => (if qeN.2 = true then (if qeN.1 > 5000 then (some (0, ([] : List Int), false)) else ((qaA.f k l0 1 qeN.1).bind fun qcf => (some (qeN.1, qcf, decide ((qcf.length : Int) > 0))))) else (some (0, ([] : List Int), false)))
theorem qbS.calls (k : Nat) (A0 : Option Addr) (c0 : Nat) (l0 : List (qac)) (r1 : Int) (r2 : List Int) (r3 : Bool) (w : World) (hr0 : Kd.C qaN w A0 l0.length l0) (hc0 : l0.length ≤ c0) (h : qbS.f k l0 = some (r1, r2, r3)) :
  Calls Tryz.prog 187 #[.slice A0 l0.length c0] w fun e w' => ∃ v1_ : Value, e = .returned (.tuple #[.agg #[.int .i64 r1, v1_], .bool r3]) ∧ Kd.R (Kd.int .i64) 3 w' w.heap.size (fun _ => True) v1_ r2 ∧ Below w.heap.size w w' := by
 have hu169 := Tryz.underlying169; have HR0 := ak_ hr0; have HC0 := ak_ hc0; clear hr0 hc0; have HB := ak_ (Below.refl w.heap.size w); have H : ((qcb.f k l0).bind fun qeN => (if qeN.2 = true then (if qeN.1 > 5000 then (some (0, ([] : List Int), false)) else ((qaA.f k l0 1 qeN.1).bind fun qcf => (some (qeN.1, qcf, decide ((qcf.length : Int) > 0))))) else (some (0, ([] : List Int), false)))) = some (r1, r2, r3) := h; clear h; obtain ⟨⟨qaI, qb7⟩, A2, H⟩ := qaw H; (try dsimp only at H); by_cases c3 : qb7 = true; rotate_left
 ·replace c3 := Bool.eq_false_iff.mpr c3; subst c3; rw [if_neg (show ¬ (false = true) by decide)] at H; obtain ⟨rfl, rfl, rfl⟩ := qfI H; go_enter Tryz.func187, Tryz.ntmps187
  go_wp2_with (first | ((with_reducible refine qak (N := 2) rfl ?_); refine bx_ 2 rfl (cs := #[.int .i64 0, .slice none 0 0]) (t := 169) qbb ?_; intro qb8 hg w20 hbox hb; have qaF := ak_ (hbox); have qeJ := ak_ (HB.ge hg); have qen := ak_ (HB.ge hg); replace HB := HB.mw hb; clear hb hbox hg) | (refine gl_ 9 Tryz.func140 #[.slice A0 l0.length c0] rfl qbK ?_; (with_reducible refine (qcb.calls k _ _ l0 qaI false _ ?qay ?qaz A2.out).mono ?_); (case qay => exact qg3); (case qaz => exact qb6); rintro e w21 ⟨rfl, hb⟩; refine ⟨_, rfl, ?_⟩; replace qaF := qaF.mw hb; replace HB := ak_ (qaa qdt hb); (try clear hb); obtain ⟨hcz22_0, hcz22_1, hfz22_0, hfz22_1⟩ := qbG qaF.out))
  refine bodyPost_ret (qf0 rfl _ _ qb8 169 #[.int .i64 0, .slice none 0 0] (0, 0) _ rfl k7_ Tryz.underlying169 rfl (by kernel_rfl)) rfl ?_; exact ⟨_, qce, qg4, qdt⟩
 subst c3; rw [if_pos rfl] at H; by_cases c4 : qaI > 5000
 ·rw [if_pos c4] at H; have qfx : decide (5000 < qaI) = true := decide_eq_true c4; clear c4; obtain ⟨rfl, rfl, rfl⟩ := qfI H; go_enter Tryz.func187, Tryz.ntmps187
  go_wp2_with (first | ((with_reducible refine qak (N := 2) rfl ?_); refine bx_ 2 rfl (cs := #[.int .i64 0, .slice none 0 0]) (t := 169) qbb ?_; intro qb8 hg w5 hbox hb; have qaF := ak_ (hbox); have qeJ := ak_ (HB.ge hg); have qen := ak_ (HB.ge hg); replace HB := HB.mw hb; clear hb hbox hg) | (refine gl_ 9 Tryz.func140 #[.slice A0 l0.length c0] rfl qbK ?_; (with_reducible refine (qcb.calls k _ _ l0 qaI true _ ?qay ?qaz A2.out).mono ?_); (case qay => exact qg3); (case qaz => exact qb6); rintro e w6 ⟨rfl, hb⟩; refine ⟨_, rfl, ?_⟩; replace qaF := qaF.mw hb; replace HB := ak_ (qaa qdt hb); (try clear hb); obtain ⟨qm4, qm5, qm8, qm9⟩ := qbG qaF.out))
  refine bodyPost_ret (qf0 rfl _ _ qb8 169 #[.int .i64 0, .slice none 0 0] (0, 0) _ rfl k7_ Tryz.underlying169 rfl (by kernel_rfl)) rfl ?_; exact ⟨_, qce, qg4, qdt⟩
 rw [if_neg c4] at H; have qfx : decide (5000 < qaI) = false := decide_eq_false c4; clear c4; obtain ⟨qcf, A8, H⟩ := qaw H; (try dsimp only at H); obtain ⟨rfl, rfl, rfl⟩ := qfI H; go_enter Tryz.func187, Tryz.ntmps187
 try go_wp2_with (first | ((with_reducible refine qak (N := 2) rfl ?_); refine bx_ 2 rfl (cs := #[.int .i64 0, .slice none 0 0]) (t := 169) qbb ?_; intro qb8 hg w9 hbox hb; have qaF := ak_ (hbox); have qeJ := ak_ (HB.ge hg); have qen := ak_ (HB.ge hg); replace HB := HB.mw hb; clear hb hbox hg) | (refine gl_ 9 Tryz.func140 #[.slice A0 l0.length c0] rfl qbK ?_; (with_reducible refine (qcb.calls k _ _ l0 qaI true _ ?qay ?qaz A2.out).mono ?_); (case qay => exact qg3); (case qaz => exact qb6); rintro e w10 ⟨rfl, hb⟩; refine ⟨_, rfl, ?_⟩; replace qaF := qaF.mw hb; replace HB := ak_ (qaa qdt hb); (try clear hb)) | (refine gl_ 22 Tryz.func139 #[.slice A0 l0.length c0, .int .i64 1, .int .i64 qaI] rfl qbK ?_; (with_reducible refine (qaA.calls k _ _ l0 1 qaI qcf _ ?qay ?qaz A8.out).mono ?_); (case qay => exact qg3); (case qaz => exact qb6); rintro e w11 ⟨v105, rfl, ho0, hb⟩; refine ⟨_, rfl, ?_⟩; have qeK := ak_ (Kd.qau ho0 (qab qdt)); replace qaF := qaF.mw hb; replace HB := ak_ (qaa qdt hb); (try clear hb ho0); obtain ⟨qkM, qkQ, qqK⟩ := Kd.qaJ qeK.out; subst qqK) | ((with_reducible refine qak (N := 6) rfl ?_); refine bx_ 6 rfl (cs := #[.int .i64 0, .slice none 0 0]) (t := 169) qbb ?_; intro qeD hg w13 hbox hb; replace qeK := qeK.mw hb; have qfi := ak_ (hbox); have GW107 := ak_ ((by rw [hg]; exact (qab qdt) : w.heap.size ≤ qeD)); have qnN := ak_ ((by rw [hg]; exact (qab qdt) : w.heap.size ≤ qeD)); replace HB := ak_ (qaa qdt hb); have qhh := ak_ (qaF.ne hg); have qf2 := ak_ (qaF.ne hg).symm; replace qaF := qaF.mw hb; clear hb hbox hg; have hnb14 := qf2.out; have hnc14 := qhh.out; obtain ⟨qoq, qor, qow, qox⟩ := qbG qfi.out))
 have n0_ : qag (Kd.R (Kd.int .i64) 3 ((w13.setCell ⟨qeD, 0, none⟩ (.int .i64 qaI)).setCell ⟨qeD, 1, none⟩ (.slice qkM qcf.length qkQ)) w.heap.size (fun _ => True) (.slice qkM qcf.length qkQ) qcf) := ⟨by (with_reducible repeat (first | apply Kd.qaq | apply Kd.qar | apply Kd.qaC)); exact Kd.qa8 (Kd.qc7 (p := ⟨qeD, 1, none⟩) (Kd.qc7 (p := ⟨qeD, 0, none⟩) (Kd.qcH qeK.out qfi.out (by decide)) (fun _ hk => hk.2) (.int .i64 qaI)) (fun _ hk => hk.2) (.slice qkM qcf.length qkQ)) (fun _ hk => trivial)⟩
 have n1_ : qag (((w13.setCell ⟨qeD, 0, none⟩ (.int .i64 qaI)).setCell ⟨qeD, 1, none⟩ (.slice qkM qcf.length qkQ)).heap[qb8]? = some (.cells #[.int .i64 0, .slice none 0 0] 169 (0, 0))) := ⟨by (with_reducible repeat (first | refine qal ?_ _ | refine qan ?_ | refine qaj ?_ _)); refine qcY ?_ qhh.out _; (with_reducible repeat (first | refine qal ?_ _ | refine qan ?_ | refine qaj ?_ _)); refine qcY ?_ qhh.out _; apply_rules only [qaF.out, qal, qan, qaj]⟩
 have n2_ : qag (((w13.setCell ⟨qeD, 0, none⟩ (.int .i64 qaI)).setCell ⟨qeD, 1, none⟩ (.slice qkM qcf.length qkQ)).heap[qeD]? = some (.cells #[.int .i64 qaI, .slice qkM qcf.length qkQ] 169 (0, 0))) := ⟨by (with_reducible repeat (first | refine qal ?_ _ | refine qan ?_ | refine qaj ?_ _)); refine qbp (cs := #[.int .i64 qaI, .slice none 0 0]) ?_ 1 _ rfl; (with_reducible repeat (first | refine qal ?_ _ | refine qan ?_ | refine qaj ?_ _)); refine qbp (cs := #[.int .i64 0, .slice none 0 0]) ?_ 0 _ rfl; apply_rules only [qfi.out, qal, qan, qaj]⟩
 have n3_ : qag (Below w.heap.size w ((w13.setCell ⟨qeD, 0, none⟩ (.int .i64 qaI)).setCell ⟨qeD, 1, none⟩ (.slice qkM qcf.length qkQ))) := ⟨by apply_rules only [HB.out, qai, qaf, qah, qap, qen.out, qnN.out]⟩
 (try clear qeK); (try clear qaF); (try clear qfi); (try clear HB)
 generalize ((w13.setCell ⟨qeD, 0, none⟩ (.int .i64 qaI)).setCell ⟨qeD, 1, none⟩ (.slice qkM qcf.length qkQ)) = w16 at n0_ n1_ n2_ n3_ ⊢
 have qeK := n0_; have qaF := n1_; have qfi := n2_; have HB := n3_; clear n0_ n1_ n2_ n3_; replace qeK := ak_ (Kd.qaC qeK.out); replace qaF := ak_ (qan qaF.out); replace qfi := ak_ (qan qfi.out); replace HB := ak_ (qah HB.out); refine qeQ (n := 7) (S := fun w' => w'.cell? ⟨qeD, 0, none⟩ = some (.int .i64 qaI) ∧ w'.cell? ⟨qeD, 1, none⟩ = some (.slice qkM qcf.length qkQ)) (ds := []) #[false, false, false, false, false, false, false] (by kernel_rfl) rfl rfl ⟨qed qfi.out, qbB qfi.out⟩ (fun hHeld => ?_)
 generalize w16.drew = w17 at qeK qaF qfi HB hHeld ⊢
 refine qe8 (i := 1) (N := some 25) (v := ?_) (a' := ?_) #[false, true, false, false, false, false, false] rfl rfl (by kernel_rfl) (fun _ _ _ h => h) (Or.inl ⟨by rfl, ?_⟩) ?_ ?_; rotate_left
 ·intro w'; go_simp
  with_reducible rfl
 rotate_left
 ·simp only [Act.put, List.setIfInBounds_toArray, List.set_cons_zero, List.set_cons_succ, qcF, qcO]; rfl
 refine qkH (i := 0) (N := some 24) (v := ?_) (a' := ?_) #[true, true, false, false, false, false, false] rfl rfl (by kernel_rfl) (fun _ _ _ h => h) (Or.inl ⟨by rfl, ?_⟩) hHeld ?_ ?_; rotate_left
 ·rintro w' ⟨s0, s1⟩; go_simp
  with_reducible rfl
 rotate_left
 ·simp only [Act.put, List.setIfInBounds_toArray, List.set_cons_zero, List.set_cons_succ, qcF, qcO]; rfl
 refine qkH (i := 2) (N := some 26) (v := ?_) (a' := ?_) #[true, true, true, false, false, false, false] rfl rfl (by kernel_rfl) (fun _ _ _ h => h) (Or.inl ⟨by rfl, ?_⟩) hHeld ?_ ?_; rotate_left
 ·rintro w' ⟨s0, s1⟩; go_simp
  with_reducible rfl
 rotate_left
 ·simp only [Act.put, List.setIfInBounds_toArray, List.set_cons_zero, List.set_cons_succ, qcF, qcO]; rfl
 refine qe8 (i := 3) (N := some 27) (v := ?_) (a' := ?_) #[true, true, true, true, false, false, false] rfl rfl (by kernel_rfl) (fun _ _ _ h => h) (Or.inl ⟨by rfl, ?_⟩) ?_ ?_; rotate_left
 ·intro w'; go_simp
  with_reducible rfl
 rotate_left
 ·simp only [Act.put, List.setIfInBounds_toArray, List.set_cons_zero, List.set_cons_succ, qcF, qcO]; rfl
 refine qe8 (i := 4) (N := some 28) (v := ?_) (a' := ?_) #[true, true, true, true, true, false, false] rfl rfl (by kernel_rfl) (fun _ _ _ h => h) (Or.inl ⟨by rfl, ?_⟩) ?_ ?_; rotate_left
 ·intro w'; go_simp
  with_reducible rfl
 rotate_left
 ·simp only [Act.put, List.setIfInBounds_toArray, List.set_cons_zero, List.set_cons_succ, qcF, qcO]; rfl
 refine qfA (i := 5) (N := none) #[true, true, true, true, true, true, false] rfl rfl (by kernel_rfl) (by decide) (fun K hK => ?_); obtain ⟨hs18, hfs18⟩ := qcv qaF.out; have hns18_1 := qf2.out; have hms18_1 := qhh.out; have hs19 := qbB qaF.out; have hfs19 := qad qaF.out 1; have hns19_1 := qf2.out; have hms19_1 := qhh.out; refine skip_ (w1 := ?_) (by rfl) rfl ?_ ?_; rotate_left
 ·go_simp; rfl
 refine hK.out _ _ ⟨((cell_far (p := ⟨qb8, _, none⟩) qf2.out _).trans (((cell_far (p := ⟨qb8, _, none⟩) qf2.out _).trans (hHeld.1)))), ((cell_far (p := ⟨qb8, _, none⟩) qf2.out _).trans (((cell_far (p := ⟨qb8, _, none⟩) qf2.out _).trans (hHeld.2))))⟩ (fun hHeld => ?_); clear hK K; refine qe8 (i := 6) (N := some 3) (v := ?_) (a' := ?_) #[true, true, true, true, true, true, true] rfl rfl (by kernel_rfl) (fun _ _ _ h => h) (Or.inl ⟨by rfl, ?_⟩) ?_ ?_; rotate_left
 ·intro w'; go_simp
  with_reducible rfl
 rotate_left
 ·simp only [Act.put, List.setIfInBounds_toArray, List.set_cons_zero, List.set_cons_succ, qcF, qcO]; rfl
 refine qf4 (by kernel_rfl) ?_
 try go_wp2
 refine bodyPost_ret (qf0 rfl _ _ qb8 169 #[.int .i64 qaI, .slice qkM qcf.length qkQ] (0, 0) _ rfl (by (with_reducible repeat (first | refine qal ?_ _ | refine qan ?_ | refine qaj ?_ _)); refine qbp (cs := #[.int .i64 qaI, .slice none 0 0]) ?_ 1 _ rfl; (with_reducible repeat (first | refine qal ?_ _ | refine qan ?_ | refine qaj ?_ _)); refine qbp (cs := #[.int .i64 0, .slice none 0 0]) ?_ 0 _ rfl; apply_rules only [qaF.out, qal, qan, qaj]) Tryz.underlying169 rfl (by kernel_rfl)) rfl ?_; exact ⟨_, qce, by (with_reducible repeat (first | apply Kd.qaq | apply Kd.qar | apply Kd.qaC)); exact Kd.qa8 (Kd.qc7 (p := ⟨qb8, 1, none⟩) (Kd.qc7 (p := ⟨qb8, 0, none⟩) (Kd.qcH qeK.out qaF.out (by decide)) (fun _ hk => hk.2) (.int .i64 qaI)) (fun _ hk => hk.2) (.slice qkM qcf.length qkQ)) (fun _ hk => trivial), by apply_rules only [HB.out, qai, qaf, qah, qap, qen.out, qnN.out]⟩
def qeV.f (a0 : Int) : Option (Bool) := if a0 ≥ 0 then (some (decide (a0 ≤ 1000000000))) else (some false)
theorem qeV.calls (a0 : Int) (r : Bool) (w : World) (h : qeV.f a0 = some r) :
  Calls Tryz.prog 188 #[.int .i64 a0] w fun e w' => e = .returned (.bool r) ∧ qcX w w' := by
 have H : (if a0 ≥ 0 then (some (decide (a0 ≤ 1000000000))) else (some false)) = some r := h; clear h; by_cases c2 : a0 ≥ 0
 ·rw [if_pos c2] at H; have qfe : decide (0 ≤ a0) = true := decide_eq_true c2; clear c2; obtain rfl := Option.some.inj H; go_enter Tryz.func188, Tryz.ntmps188; go_wp2
  go_ret
  exact ⟨qav, qc2⟩
 rw [if_neg c2] at H; have qfe : decide (0 ≤ a0) = false := decide_eq_false c2; clear c2; obtain rfl := Option.some.inj H; go_enter Tryz.func188, Tryz.ntmps188; go_wp2
 go_ret
 exact ⟨qav, qc2⟩
end
end Go.Proofs.YtjeoabbnalamcaaGreatDoor.P
