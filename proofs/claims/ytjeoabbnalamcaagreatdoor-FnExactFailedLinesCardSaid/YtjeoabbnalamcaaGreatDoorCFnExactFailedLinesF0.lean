/- What functions of the program answer. Proved in this text: its theorems. Conditions: as each theorem states them. -/
import Derived.Test.YtjeoabbnalamcaaGreatDoorCFnExactFailedLinesP
namespace Go.Proofs.YtjeoabbnalamcaaGreatDoor.P
open Go.RowKit Go.Proofs.YtjeoabbnalamcaaGreatDoorW.qa0 Go.Proofs.YtjeoabbnalamcaaGreatDoorW.PrintLast Go.Proofs.YtjeoabbnalamcaaGreatDoorW.PrintMore
set_option linter.unusedVariables false
set_option linter.unusedSimpArgs false
set_option maxHeartbeats 8000000
set_option maxRecDepth 100000
section
attribute [local go_sem] qg2 qg4 qij qik qgg qgh qg3 qg5
def PredR (g : Nat) (lb : Array Value) (p : qac → Bool) (l : List qac) (w : World) : Prop :=
  ∀ (W : World) (x : qac), x ∈ l → Below w.heap.size w W → Calls Tryz.prog g (#[.agg #[.int .i64 x.f0, .int .i64 x.f1]] ++ lb) W fun e w' => e = .returned (.bool (p x)) ∧ Below w.heap.size w w'
def qd5 (p : qac → Bool) : List qac → Int → Int
  | [], _ => -1
  | x :: l, i => if p x = true then i else qd5 p l (i + 1)
theorem qkc (l : List qac) (k : Nat) (h : k < l.length) : l.drop k = qae l k :: l.drop (k + 1) := by
  rw [List.drop_eq_getElem_cons h]
  simp [qae, List.getD, h]
theorem qnI (l : List qac) (k : Nat) (h : k < l.length) : qae l k ∈ l := by
  simp [qae, List.getD, h]
theorem qoy {p : qac → Bool} {l : List qac} {k : Nat} (h : k < l.length) (hp : p (qae l k) = true) : qd5 p (l.drop k) k = k := by
  rw [qkc l k h, qd5, if_pos hp]
theorem qni {p : qac → Bool} {l : List qac} {k : Nat} (h : k < l.length) (hp : p (qae l k) = false) : qd5 p (l.drop k) k = qd5 p (l.drop (k + 1)) ((k + 1 : Nat) : Int) := by
  rw [qkc l k h, qd5, if_neg (by simp [hp])]; rfl
theorem qox {p : qac → Bool} {l : List qac} {k : Nat} (h : l.length ≤ k) : qd5 p (l.drop k) k = -1 := by
  rw [List.drop_eq_nil_of_le h]; rfl
set_option maxHeartbeats 2000000 in
theorem qnw (p : qac → Bool) (g : Nat) (lb : Array Value) (eg : ∀ args w, (callFunc g args).run Tryz.prog w = .ok (.enter g args) w)
    (A0 : Option Addr) (c0 : Nat) (l0 : List qac) (w : World) (hp : PredR g lb p l0 w) (hr0 : Kd.C qaL w A0 l0.length l0) :
    Calls Tryz.prog 145 #[.slice A0 l0.length c0, .func (.func g) #[] lb] w fun e w' => e = .returned (.int .i64 (qd5 p l0 0)) ∧ Below w.heap.size w w' := by
  have hu := Tryz.underlying85; have hm : l0.length ≤ 9223372036854775807 := Kd.C_max hr0; have HR0 := ak_ hr0; have HP := ak_ hp; clear hr0 hp; have HB := br_ w; have H0 := ak_ (show qd5 p l0 0 = qd5 p (l0.drop 0) ((0 : Nat) : Int) from rfl); go_enter Tryz.func145, Tryz.ntmps145; go_wp2
  go_loopg [5, 8] l0.length (fun gg _ s8 wr => ∃ kk : Nat, kk ≤ l0.length ∧ l0.length - kk ≤ gg ∧ s8 = .int .i64 kk ∧ qag (Below w.heap.size w wr) ∧ qag (qd5 p l0 0 = qd5 p (l0.drop kk) kk))
  case atStart => exact ⟨0, Nat.zero_le _, by omega, rfl, HB, H0⟩
  case round =>
    clear HB H0; obtain ⟨kk, hkk, hg, rfl, HB, HI⟩ := hrel; by_cases hlt : kk < l0.length; rotate_left
    ·have hltz : ¬ (kk : Int) < (l0.length : Int) := by omega
     have HQ := ak_ (qox (p := p) (l := l0) (k := kk) (by omega)); go_wp2
     go_ret
     exact ⟨by rw [HI.out, HQ.out]; rfl, HB.out⟩
    have hltz : (kk : Int) < (l0.length : Int) := by omega
    obtain ⟨ad, e, hx0, hx1⟩ := qdW HR0.out (kk : Int) (by omega) hltz
    cases e
    replace hx0 := (HB.out.cell (World.block_lt_of_cell? w _ hx0)).trans hx0; replace hx1 := (HB.out.cell (World.block_lt_of_cell? w _ hx1)).trans hx1; simp only [Int.toNat_natCast] at hx0 hx1; have hcall := HP.out wr (qae l0 (kk : Int)) (qnI l0 kk hlt) HB.out
    cases hq : p (qae l0 (kk : Int)) with
    | true =>
      rw [hq] at hcall; have HQ := ak_ (qoy hlt hq); clear hq
      go_wp2_with (go_at_fn g; refine hcall.mono ?_; rintro e w' ⟨rfl, hb'⟩)
      go_ret
      exact ⟨by rw [HI.out, HQ.out]; rfl, hb'⟩
    | false =>
      rw [hq] at hcall; have HQ := ak_ (qni hlt hq); clear hq
      go_wp2_with (go_at_fn g; refine hcall.mono ?_; rintro e w' ⟨rfl, hb'⟩)
      go_roundg (l0.length - (kk + 1))
      case measure => omega
      case rel => exact ⟨kk + 1, by omega, by omega, by go_num, ⟨hb'⟩, ⟨by rw [HI.out, HQ.out]⟩⟩
theorem qcY : (Tryz.prog.info? 85).map (fun i => (i.zero, i.size, i.bytes)) = some (some (.agg #[(.int .i64 0), (.int .i64 0)]), 2, 16) := by kernel_rfl
def qeF (w0 w : World) (vo v : Value) (o : List (List qac)) (W : World) : Prop :=
  Kd.S (Kd.slice 85 qaL) 26 W w0.heap.size (fun _ => True) v o ∧ Below w0.heap.size w0 W ∧ w.grownBy W vo.ownBlock ∧ (v.ownBlock = vo.ownBlock ∨ ∃ b, v.ownBlock = some b ∧ w.heap.size ≤ b)
theorem qgZ {w w1 w2 : World} {r r' : Option Nat} (h : w.grownBy w1 r) (h2 : w1.grownBy w2 r') (hr : r' = r ∨ ∃ b, r' = some b ∧ w.heap.size ≤ b) : w.grownBy w2 r :=
  ⟨h2.os.trans h.os, h2.tape.trans h.tape, h2.output.trans h.output, Nat.le_trans h.size h2.size, fun k hk hne => (h2.block k (Nat.lt_of_lt_of_le hk h.size) (fun e => by
    rcases hr with hr | ⟨b, hr, hb⟩
    ·exact hne (e.trans hr)
    rw [hr] at e; injection e with e; omega)).trans (h.block k hk hne)⟩
theorem qm0 {w w1 w2 : World} {r : Option Nat} (h : Below w.heap.size w w1) (h2 : w1.grownBy w2 r) : w.grownBy w2 r := qgZ (qd6 h r) h2 (.inl rfl)
theorem qeF.refl {w0 w : World} {v : Value} {o : List (List qac)} (hS : Kd.S (Kd.slice 85 qaL) 26 w w0.heap.size (fun _ => True) v o) (hB : Below w0.heap.size w0 w) : qeF w0 w v v o w :=
  ⟨hS, hB, qd6 (Below.refl _ _) _, .inl rfl⟩
theorem qeF.below {w0 w : World} {vo v : Value} {o : List (List qac)} {W W1 : World} (h : qeF w0 w vo v o W) (hb : Below W.heap.size W W1) : qeF w0 w vo v o W1 :=
  ⟨Kd.qgR h.1 hb, qaa h.2.1 hb, qgZ h.2.2.1 (qd6 hb vo.ownBlock) (.inl rfl), h.2.2.2⟩
theorem qeF.trans {w0 w : World} {vo v v1 : Value} {o o1 : List (List qac)} {W W1 : World} (h : qeF w0 w vo v o W) (h2 : qeF w0 W v v1 o1 W1) : qeF w0 w vo v1 o1 W1 := by
  refine ⟨h2.1, h2.2.1, qgZ h.2.2.1 h2.2.2.1 h.2.2.2, ?_⟩
  rcases h2.2.2.2 with e | ⟨b, e, hb⟩
  ·rw [e]; exact h.2.2.2
  exact .inr ⟨b, e, Nat.le_trans h.2.2.1.size hb⟩
theorem qos {P : Program} {n : Nat} (w : World) (t e ty : TypeId) (z : Value) (ht : P.underlying t = some (.slice e)) (hv : ∀ w, (zeroValue e).run P w = .ok z w) (hz : ∀ u ∈ (Builtin.zeroCells z.cells n).toList, u.oneCell' = true) (b o c : Nat) (hn : 0 < n) (hne : 0 < z.cells.size)
    (hc : ∀ j, j < n * z.cells.size → (w.cell? ⟨b, o + j, none⟩).isSome = true) (hf : ∀ j, j < n * z.cells.size → w.frozen? ⟨b, o + j, none⟩ = false) :
    (Builtin.clear_ #[t] ty #[.slice (some ⟨b, o, none⟩) n c]).run P w = .ok (.tuple #[]) (w.setCells b o (Builtin.zeroCells z.cells n).toList) := by
  have hl : (Builtin.zeroCells z.cells n).toList.length = n * z.cells.size := by simp [Builtin.zeroCells]
  have hst := run_storeCells_cells (P := P) b o (Builtin.zeroCells z.cells n).toList 0 w (by rw [hl]; simpa using hc) (by rw [hl]; simpa using hf) hz; simp only [Nat.add_zero] at hst
  obtain ⟨m, rfl⟩ : ∃ m, n = m + 1 := ⟨n - 1, by omega⟩
  simp [Builtin.clear_, run_underlying ht, hv, hst]
theorem qiE (b : Nat) : ∀ (vs : List Value) (o : Nat) (w : World) (cur : Array Value) (e : TypeId) (fr : Nat × Nat), w.heap[b]? = some (.cells cur e fr) → ∃ cur', (w.setCells b o vs).heap[b]? = some (.cells cur' e fr) ∧ cur'.size = cur.size ∧ ∀ j, j < o → cur'[j]? = cur[j]?
  | [], _, _, cur, _, _, h => ⟨cur, h, rfl, fun _ _ => rfl⟩
  | v :: r, o, w, cur, e, fr, h => by
    have h1 : (w.setCell ⟨b, o, none⟩ v).heap[b]? = some (.cells (cur.setIfInBounds o v) e fr) := by simp [World.setCell, Array.getElem?_modify, h]
    obtain ⟨cur', h2, h3, h4⟩ := qiE b r (o + 1) _ _ _ _ h1; refine ⟨cur', h2, by simpa using h3, fun j hj => ?_⟩; rw [h4 j (by omega), Array.getElem?_setIfInBounds, if_neg (by omega)]
theorem R_clear {α : Type} {d : Kd α} {e base g n c : Nat} {ok : Nat → Prop} {w : World} {xs : List α} (h : d.R e w base ok (.slice (some ⟨g, 0, none⟩) n c) xs) (o : Nat) (vs : List Value) (ho : xs.length * d.sz ≤ o) : d.R e (w.setCells g o vs) base ok (.slice (some ⟨g, 0, none⟩) n c) xs := by
  obtain ⟨h0, inner, hown, hr⟩ := h; refine ⟨h0, inner, ⟨hown.1, ?_⟩, hr.qlB (fun p cs hp => d.M_move (fun k hk => qhG vs o k (fun e_ => hk.2 (by rw [e_]; rfl))) hp)⟩
  rcases hown.2 with ⟨hv, _⟩ | ⟨g', cap, cur, hv, hb, hh, hnc, hcm, hcs, ht⟩
  ·cases hv
  injection hv with ha hn hc
  injection ha with ha
  injection ha with hg
  subst hg; subst hc; obtain ⟨cur', h2, h3, h4⟩ := qiE g vs o w cur e (0, 0) hh; refine .inr ⟨g, c, cur', by rw [hn], hb, h2, hnc, hcm, by rw [h3]; exact hcs, ?_⟩; rw [← ht]; apply List.ext_getElem?; intro j; simp only [List.getElem?_take, Array.getElem?_toList]; split
  ·next hj => exact h4 j (by omega)
  rfl
theorem qh2 (w : World) (g o : Nat) (vs : List Value) : w.grownBy (w.setCells g o vs) (some g) :=
  ⟨(qfq g vs o w).1, (qfq g vs o w).2.1, (qfq g vs o w).2.2.1, Nat.le_of_eq (qfq g vs o w).2.2.2.symm, fun k _ hk => qhG vs o k (fun e => hk (by rw [e]))⟩
theorem qoj (g o n : Nat) : (⟨g, o, none⟩ : Addr).add n = ⟨g, o + n, none⟩ := add_at g o n
theorem zero_run {P : Program} {e : TypeId} {z : Value} {size bytes : Nat} (h : (P.info? e).map (fun i => (i.zero, i.size, i.bytes)) = some (some z, size, bytes)) (w : World) : (zeroValue e).run P w = .ok z w := by
  obtain ⟨i, hi, hz⟩ := Option.map_eq_some_iff.1 h; simp only [Prod.mk.injEq] at hz
  simp [zeroValue, typeInfo, hi, hz.1]
def qkB : Go.Shelf.Ren := ⟨fun | 171 => 87 | 243 => 146 | 246 => 203 | 283 => 240 | 284 => 241 | 285 => 242 | 286 => 243 | 129 => 259 | 317 => 258 | 318 => 260 | 319 => 261 | 320 => 262 | 337 => 277 | 338 => 278 | n => n, fun | 3 => 3 | 9 => 9 | 2 => 2 | 4 => 4 | 171 => 200 | 0 => 0 | 53 => 68 | 37 => 35 | 5 => 5 | 173 => 203 | 212 => 219 | 51 => 179 | 20 => 20 | 213 => 220 | 46 => 165 | 232 => 246 | 233 => 247 | n => n, fun | 17 => 3 | 18 => 6 | 19 => 7 | n => n⟩
theorem qsO : Go.Proofs.LaysM.n171 Tryz.prog qkB := {
  mixed := by kernel_rfl
  f129 := cs_ Tryz.func259
  f171 := cs_ Tryz.func87
  f243 := cs_ Tryz.func146
  f246 := cs_ Tryz.func203
  f283 := cs_ Tryz.func240
  f284 := cs_ Tryz.func241
  f285 := cs_ Tryz.func242
  f286 := cs_ Tryz.func243
  f317 := cs_ Tryz.func258
  f318 := cs_ Tryz.func260
  f319 := cs_ Tryz.func261
  f320 := cs_ Tryz.func262
  f337 := cs_ Tryz.func277
  f338 := cs_ Tryz.func278
  t0 := Tryz.underlying0
  a0 := Tryz.isAgg0
  z0 := Tryz.sizeOf0
  v0 := Tryz.zeroValue0
  t2 := Tryz.underlying2
  a2 := Tryz.isAgg2
  z2 := Tryz.sizeOf2
  v2 := Tryz.zeroValue2
  t3 := Tryz.underlying3
  a3 := Tryz.isAgg3
  z3 := Tryz.sizeOf3
  v3 := Tryz.zeroValue3
  t4 := Tryz.underlying4
  a4 := Tryz.isAgg4
  z4 := Tryz.sizeOf4
  v4 := Tryz.zeroValue4
  t5 := Tryz.underlying5
  a5 := Tryz.isAgg5
  z5 := Tryz.sizeOf5
  v5 := Tryz.zeroValue5
  t9 := Tryz.underlying9
  a9 := Tryz.isAgg9
  z9 := Tryz.sizeOf9
  v9 := Tryz.zeroValue9
  t20 := Tryz.underlying20
  a20 := Tryz.isAgg20
  z20 := Tryz.sizeOf20
  v20 := Tryz.zeroValue20
  t37 := Tryz.underlying35
  a37 := Tryz.isAgg35
  z37 := Tryz.sizeOf35
  v37 := Tryz.zeroValue35
  t46 := Tryz.underlying165
  a46 := Tryz.isAgg165
  z46 := Tryz.sizeOf165
  v46 := Tryz.zeroValue165
  t51 := Tryz.underlying179
  a51 := Tryz.isAgg179
  z51 := Tryz.sizeOf179
  v51 := Tryz.zeroValue179
  t53 := Tryz.underlying68
  a53 := Tryz.isAgg68
  z53 := Tryz.sizeOf68
  v53 := Tryz.zeroValue68
  t171 := Tryz.underlying200
  a171 := Tryz.isAgg200
  z171 := Tryz.sizeOf200
  v171 := Tryz.zeroValue200
  t173 := Tryz.underlying203
  a173 := Tryz.isAgg203
  z173 := Tryz.sizeOf203
  v173 := Tryz.zeroValue203
  t212 := Tryz.underlying219
  a212 := Tryz.isAgg219
  z212 := Tryz.sizeOf219
  v212 := Tryz.zeroValue219
  t213 := Tryz.underlying220
  a213 := Tryz.isAgg220
  z213 := Tryz.sizeOf220
  t232 := Tryz.underlying246
  a232 := Tryz.isAgg246
  z232 := Tryz.sizeOf246
  v232 := Tryz.zeroValue246
  t233 := Tryz.underlying247
  a233 := Tryz.isAgg247
  z233 := Tryz.sizeOf247
  v233 := Tryz.zeroValue247
  g17 := by kernel_rfl
  g18 := by kernel_rfl
  g19 := by kernel_rfl
  i0 := by kernel_rfl
  i2 := by kernel_rfl
  i3 := by kernel_rfl
  i4 := by kernel_rfl
  i5 := by kernel_rfl
  i9 := by kernel_rfl
  i20 := by kernel_rfl
  i37 := by kernel_rfl
  i46 := by kernel_rfl
  i51 := by kernel_rfl
  i53 := by kernel_rfl
  i171 := by kernel_rfl
  i173 := by kernel_rfl
  i212 := by kernel_rfl
  i232 := by kernel_rfl
  i233 := by kernel_rfl
  m17 := by kernel_rfl
  m18 := by kernel_rfl
  m19 := by kernel_rfl }
def strconv_Itoa.f (a0 : Int) : Option ByteArray := if 0 ≤ a0 ∧ a0 < 100 then some ⟨(Lib.decDigits a0.toNat).toArray⟩ else none
theorem strconv_Itoa.calls (a0 : Int) (r : ByteArray) (w : World) (h : strconv_Itoa.f a0 = some r) :
    Calls Tryz.prog 87 #[.int .i64 a0] w fun e w' => e = .returned (.string r) ∧ Below w.heap.size w w' := by
  unfold strconv_Itoa.f at h; by_cases hc : 0 ≤ a0 ∧ a0 < 100; rotate_left
  ·rw [if_neg hc] at h; exact absurd h (by simp)
  rw [if_pos hc] at h; obtain rfl := Option.some.inj h
  obtain ⟨n, rfl⟩ : ∃ n : Nat, a0 = (n : Int) := ⟨a0.toNat, by omega⟩
  rw [Int.toNat_natCast]
  exact (Any.strconv_Itoa_small (show Lays.n171 Tryz.prog qkB from { qsO with }) n (by omega) w).mono fun e w' ⟨he, hw⟩ => ⟨he, hw ▸ Below.refl _ _⟩
def qkA : Go.Shelf.Ren := ⟨fun | 156 => 88 | 165 => 147 | 166 => 148 | 169 => 149 | 240 => 204 | 241 => 205 | 276 => 244 | 277 => 245 | n => n, fun | 31 => 43 | 9 => 9 | 3 => 3 | 4 => 4 | 0 => 0 | 20 => 20 | 72 => 154 | 76 => 138 | 70 => 152 | 37 => 35 | 75 => 137 | 127 => 176 | 164 => 205 | 5 => 5 | 80 => 72 | n => n, fun | n => n⟩
theorem lays156 : Go.Proofs.Lays.n156 Tryz.prog qkA := {
  mixed := by kernel_rfl
  f156 := cs_ Tryz.func88
  f165 := cs_ Tryz.func147
  f166 := cs_ Tryz.func148
  f169 := cs_ Tryz.func149
  f240 := cs_ Tryz.func204
  f241 := cs_ Tryz.func205
  f276 := cs_ Tryz.func244
  f277 := cs_ Tryz.func245
  t0 := Tryz.underlying0
  a0 := Tryz.isAgg0
  z0 := Tryz.sizeOf0
  v0 := Tryz.zeroValue0
  t3 := Tryz.underlying3
  a3 := Tryz.isAgg3
  z3 := Tryz.sizeOf3
  v3 := Tryz.zeroValue3
  t4 := Tryz.underlying4
  a4 := Tryz.isAgg4
  z4 := Tryz.sizeOf4
  v4 := Tryz.zeroValue4
  t9 := Tryz.underlying9
  a9 := Tryz.isAgg9
  z9 := Tryz.sizeOf9
  v9 := Tryz.zeroValue9
  t20 := Tryz.underlying20
  a20 := Tryz.isAgg20
  z20 := Tryz.sizeOf20
  v20 := Tryz.zeroValue20
  t31 := Tryz.underlying43
  a31 := Tryz.isAgg43
  z31 := Tryz.sizeOf43
  v31 := Tryz.zeroValue43
  t37 := Tryz.underlying35
  a37 := Tryz.isAgg35
  z37 := Tryz.sizeOf35
  v37 := Tryz.zeroValue35
  t70 := Tryz.underlying152
  a70 := Tryz.isAgg152
  z70 := Tryz.sizeOf152
  v70 := Tryz.zeroValue152
  t72 := Tryz.underlying154
  a72 := Tryz.isAgg154
  z72 := Tryz.sizeOf154
  v72 := Tryz.zeroValue154
  t75 := Tryz.underlying137
  a75 := Tryz.isAgg137
  z75 := Tryz.sizeOf137
  v75 := Tryz.zeroValue137
  t76 := Tryz.underlying138
  a76 := Tryz.isAgg138
  z76 := Tryz.sizeOf138
  v76 := Tryz.zeroValue138
  t127 := Tryz.underlying176
  a127 := Tryz.isAgg176
  z127 := Tryz.sizeOf176
  v127 := Tryz.zeroValue176
  t164 := Tryz.underlying205
  a164 := Tryz.isAgg205
  z164 := Tryz.sizeOf205
  v164 := Tryz.zeroValue205 }
theorem extra156 : Builder.Extra Tryz.prog qkA where
  sizeBuilder := by kernel_rfl
  liesBuilder := by kernel_rfl
  t5 := by kernel_rfl
  a5 := fun _ => by kernel_rfl
  z5 := fun _ => by kernel_rfl
  v5 := fun _ => by kernel_rfl
  infoByte := by kernel_rfl
  cellsByte := by kernel_rfl
  sizeByte := by kernel_rfl
  neB5 := by decide
def strings_Join.f (l0 : List ByteArray) (a1 : ByteArray) : Option ByteArray := if 0 < l0.length ∧ l0.length ≤ 140737488355328 ∧ (Lib.join (l0.map (·.data.toList)) a1.data.toList).length ≤ 281474976710656 then some ⟨(Lib.join (l0.map (·.data.toList)) a1.data.toList).toArray⟩ else none
theorem strings_Join.calls (A0 : Option Addr) (c0 : Nat) (l0 : List ByteArray) (a1 : ByteArray) (r : ByteArray) (w : World) (hr0 : Kd.C Kd.string w A0 l0.length l0) (hc0 : l0.length ≤ c0) (h : strings_Join.f l0 a1 = some r) :
    Calls Tryz.prog 88 #[.slice A0 l0.length c0, .string a1] w fun e w' => e = .returned (.string r) ∧ Below w.heap.size w w' := by
  unfold strings_Join.f at h; by_cases hc : 0 < l0.length ∧ l0.length ≤ 140737488355328 ∧ (Lib.join (l0.map (·.data.toList)) a1.data.toList).length ≤ 281474976710656; rotate_left
  ·rw [if_neg hc] at h; exact absurd h (by simp)
  rw [if_pos hc] at h; obtain rfl := Option.some.inj h; obtain ⟨hp, hn, hl⟩ := hc; obtain ⟨-, -, hA⟩ := hr0; obtain ⟨⟨bk, o, p⟩, rfl, hcc⟩ := hA hp
  have hcell : ∀ (j : Nat) x, l0[j]? = some x → w.cell? (Addr.add ⟨bk, o, p⟩ j) = some (.string x) := by
    intro j x hx; obtain ⟨c, -, hM, hg⟩ := hcc j x hx
    cases (show c = [Value.string x] from hM)
    simpa [Kd.string, Kd.scalar] using hg 0 _ rfl
  have hp0 : p = none := by
    obtain ⟨x, hx⟩ : ∃ x, l0[0]? = some x := ⟨l0[0], by simp [hp]⟩
    have h0 := hcell 0 x hx
    cases p with
    | none => rfl
    | some q => exact absurd h0 (by simp [Addr.add, World.cell?]; split <;> simp)
  subst hp0
  have hbk : bk < w.heap.size := by
    obtain ⟨x, hx⟩ : ∃ x, l0[0]? = some x := ⟨l0[0], by simp [hp]⟩
    exact World.block_lt_of_cell? w _ (hcell 0 x hx)
  exact Any.strings_Join_48 lays156 extra156 bk o c0 l0 a1 w (fun j x hx => by have h_ := hcell j x hx; unfold Addr.add at h_; split at h_ <;> simp_all) hbk hn hc0 hl
def qaF.l0 : Nat → List ByteArray → List (qac) → Int → Int → Option (ByteArray)
 | 0, _, _, _, _ => none
 | k + 1, x3, x7, x8, x9 => if x9 < x8 then (if 0 ≤ x9 then (if x9 < (x7.length : Int) then ((strconv_Itoa.f ((qae x7 x9).f0)).bind fun qf4 => (if qf4.size + 1 ≤ 9223372036854775807 then ((strconv_Itoa.f ((qae x7 x9).f1)).bind fun t107 => (if (qf4 ++ (⟨#[58]⟩ : ByteArray)).size + t107.size ≤ 9223372036854775807 then (if x3.length < 8796093022208 then (qaF.l0 k (x3 ++ [(qf4 ++ (⟨#[58]⟩ : ByteArray)) ++ t107]) x7 x8 (wrap64 (x9 + 1))) else (none)) else (none))) else (none))) else (none)) else (none)) else (if (x3.length : Int) = 0 then (some (⟨#[45]⟩ : ByteArray)) else ((strings_Join.f x3 (⟨#[44]⟩ : ByteArray)).bind fun qlX => (some qlX)))
def qaF.f (k : Nat) (l0 : List (qac)) : Option (ByteArray) := qaF.l0 k (([] : List ByteArray)) l0 (l0.length : Int) 0
def qaF.T5 : Bool × List (List Nat × List Nat) := (true, [([], []), ([], []), ([1], [1]), ([2], [2]), ([3], [3]), ([], []), ([5], [5]), ([6, 3], [6]), ([4, 7], [4, 7]), ([8], [8]), ([0, 9, 7], [0, 9]), ([10, 10, 0, 1, 2, 3, 4, 5, 6, 7, 8, 9, 10], [0, 10])])
def qaF.B5 : List Nat := [0, 0, 2, 6, 14, 0, 32, 110, 254, 510, 1023, 2047]
theorem qaF.tab5 : qhS .any (opsOf Tryz.f54 5) = qaF.T5 := by kernel_rfl
theorem qaF.bits5 : qeU qaF.T5.2 qaF.B5 = true := by kernel_rfl
theorem qaF.calls (k : Nat) (A0 : Option Addr) (c0 : Nat) (l0 : List (qac)) (r : ByteArray) (w : World) (hr0 : Kd.C qaL w A0 l0.length l0) (hc0 : l0.length ≤ c0) (h : qaF.f k l0 = some r) :
  Calls Tryz.prog 54 #[.slice A0 l0.length c0] w fun e w' => e = .returned (.string r) ∧ Below w.heap.size w w' := by
 have qmM := Tryz.underlying85; have HR0 := ak_ hr0; have HC0 := ak_ hc0; clear hr0 hc0; have HB := br_ w; have H : (qaF.l0 k (([] : List ByteArray)) l0 (l0.length : Int) 0) = some r := h; clear h
 obtain ⟨qff, hy_⟩ : ∃ y_ : List ByteArray, y_ = (([] : List ByteArray)) := ⟨_, rfl⟩
 replace H : (qaF.l0 k qff l0 (l0.length : Int) 0) = some r := qe1; have qei := ak_ hy_; clear hy_; have H' := ak_ H; clear H; go_enter Tryz.func54, Tryz.ntmps54
 go_wp2_with (first | ((with_reducible refine qal (N := 6) rfl ?_); refine li_ Kd.string 9 6 rfl (xs := ([] : List ByteArray)) qbe ?_; intro qit w2 ho3 hb; (first | rw [← qei.out] at ho3 | (simp only [Int.reduceToNat] at ho3; rw [← qei.out] at ho3)); have qc6 := ak_ (Kd.qax ho3 (qab qan)); replace HB := HB.mw hb; clear hb ho3))
 go_loopg [3, 9] k (fun kq v3 v9 w' => ∃ (qbx : List ByteArray) (qdp : Int), v9 = .int .i64 qdp ∧ qag (qaF.l0 kq qbx l0 (l0.length : Int) qdp = some r) ∧ qag (kq ≤ k) ∧ qag (Kd.R Kd.string 9 w' w.heap.size (fun _ => True) v3 qbx) ∧ qag (Below w.heap.size w w'))
 case atStart => exact ⟨(qff), (0), qav, H', ⟨Nat.le_refl _⟩, ⟨qo0⟩, ⟨qan⟩⟩
 case round =>
  clear H'; obtain ⟨qbx, qdp, rfl, HA, HK1, qdq, HB⟩ := hrel
  cases gk with
  | zero => exact absurd HA.out (by simp [qaF.l0])
  | succ k1 =>
   have H := HA.out; clear HA; simp only [qaF.l0] at H; by_cases c4 : qdp < (l0.length : Int); rotate_left
   ·rw [if_neg c4] at H; have qfx := decide_eq_false c4; clear c4; by_cases c19 : (qbx.length : Int) = 0
    ·rw [if_pos c19] at H; have c19b0 : ((qbx.length : Int) == 0) = true := beq_iff_eq.mpr c19; have c19b1 : ((qbx.length : Int) != 0) = false := bne_eq_false_iff_eq.mpr c19; clear c19; obtain rfl := sj_ H; obtain ⟨Ao20, co20, eo20⟩ := Kd.qaI qdq.out; subst eo20; go_wp2
     go_ret
     exact ⟨qcf, qan⟩
    rw [if_neg c19] at H; have c19b0 : ((qbx.length : Int) == 0) = false := beq_eq_false_iff_ne.mpr c19; have c19b1 : ((qbx.length : Int) != 0) = true := bne_iff_ne.mpr c19
    have c19b2 : ¬ (qbx = []) := fun h_ => c19 (by rw [h_]; rfl)
    obtain ⟨qlX, A21, H⟩ := qay H; (try dsimp only at H); obtain rfl := sj_ H; obtain ⟨Ao22, co22, eo22⟩ := Kd.qaI qdq.out; subst eo22
    go_wp2_with (first | (refine gl_ 29 Tryz.func88 #[.slice Ao22 qbx.length co22, .string (⟨#[44]⟩ : ByteArray)] rfl qbK ?_; (with_reducible refine (strings_Join.calls _ _ qbx (⟨#[44]⟩ : ByteArray) qlX _ ?qaA ?qaB A21.out).mono ?_); (case qaA => exact k41_); (case qaB => exact (Kd.qao qdq.out).2.1); rintro e w23 ⟨rfl, hb⟩; refine ⟨_, rfl, ?_⟩; replace qdq := qdq.mw hb; replace HB := HB.mw hb; (try clear hb)))
    go_ret
    exact ⟨qcf, qan⟩
   rw [if_pos c4] at H; have qfx := decide_eq_true c4; clear c4; obtain ⟨c5, H⟩ := qck H; have qgJ := decide_eq_true c5; clear c5; obtain ⟨c6, H⟩ := qck H; have qgk := decide_eq_true c6; clear c6; obtain ⟨qf4, A7, H⟩ := qay H; (try dsimp only at H); obtain ⟨c8, H⟩ := qck H; have qm4 := eq_true c8; have c8b1 := decide_eq_true c8
   try have c8b2 : (9223372036854775807 < qf4.size + 1) = False := eq_false (Nat.not_lt.2 c8)
   obtain ⟨t107, A9, H⟩ := qay H; (try dsimp only at H); obtain ⟨c10, H⟩ := qck H; have qgt := eq_true c10; have c10b1 := decide_eq_true c10
   try have c10b2 : (9223372036854775807 < (qf4 ++ (⟨#[58]⟩ : ByteArray)).size + t107.size) = False := eq_false (Nat.not_lt.2 c10)
   have c10b3 := c10b2; simp only [ByteArray.size_append, show (⟨#[44]⟩ : ByteArray).size = 1 from rfl, show (⟨#[47]⟩ : ByteArray).size = 1 from rfl, show (⟨#[58]⟩ : ByteArray).size = 1 from rfl] at c10b3; obtain ⟨c11, H⟩ := qck H; have qoa := ak_ c11; clear c11
   obtain ⟨qiO, hy_⟩ : ∃ y_ : List ByteArray, y_ = (qbx ++ [(qf4 ++ (⟨#[58]⟩ : ByteArray)) ++ t107]) := ⟨_, rfl⟩
   replace H : (qaF.l0 k1 qiO l0 (l0.length : Int) (wrap64 (qdp + 1))) = some r := qe1; have qoe := ak_ hy_; clear hy_; have H' := ak_ H; clear H; have qhj : 0 ≤ (qdp : Int) := of_decide_eq_true qaO; have qhk : qdp < (l0.length : Int) := of_decide_eq_true qaO; obtain ⟨qhW, qne, qdX, qif⟩ := qdW HR0.out qdp qhj qhk
   cases qne
   replace qdX := (HB.out.cell (World.block_lt_of_cell? w _ qdX)).trans qdX; replace qif := (HB.out.cell (World.block_lt_of_cell? w _ qif)).trans qif; replace qhj := eq_true qhj; replace qhk := eq_true qhk
   try go_wp2_with (first | ((with_reducible refine qal (N := 5) rfl ?_); refine bx_ 5 rfl (cs := #[.int .i64 0, .int .i64 0]) (t := 85) qbe ?_; intro qiD hg w12 hbox hb; replace qdq := qdq.mw hb; have qfO := ak_ (hbox); have GW105 := ak_ (HB.ge hg); have GE105 := ak_ (HB.ge hg); replace HB := HB.mw hb; clear hb hbox hg; obtain ⟨qmh, qmi, qmj, qmk⟩ := qbG qfO.out))
   have n0_ : qag (Kd.R Kd.string 9 ((w12.setCell ⟨qiD, 0, none⟩ (.int .i64 ((qae l0 qdp).f0))).setCell ⟨qiD, 1, none⟩ (.int .i64 ((qae l0 qdp).f1))) w.heap.size (fun _ => True) u3 qbx) := ⟨by (with_reducible repeat (first | apply Kd.qap | apply Kd.qaq | apply Kd.qaw)); exact Kd.qa9 (Kd.qcV (p := ⟨qiD, 1, none⟩) (Kd.qcV (p := ⟨qiD, 0, none⟩) (Kd.qcw qdq.out qfO.out (by decide)) (fun _ hk => hk.2) (.int .i64 ((qae l0 qdp).f0))) (fun _ hk => hk.2) (.int .i64 ((qae l0 qdp).f1))) (fun _ hk => trivial)⟩
   have n1_ : qag (((w12.setCell ⟨qiD, 0, none⟩ (.int .i64 ((qae l0 qdp).f0))).setCell ⟨qiD, 1, none⟩ (.int .i64 ((qae l0 qdp).f1))).heap[qiD]? = some (.cells #[.int .i64 ((qae l0 qdp).f0), .int .i64 ((qae l0 qdp).f1)] 85 (0, 0))) := ⟨by (with_reducible repeat (first | refine qak ?_ _ | refine qam ?_ | refine qaj ?_ _)); refine qbl (cs := #[.int .i64 ((qae l0 qdp).f0), .int .i64 0]) ?_ 1 _ rfl; (with_reducible repeat (first | refine qak ?_ _ | refine qam ?_ | refine qaj ?_ _)); refine qbl (cs := #[.int .i64 0, .int .i64 0]) ?_ 0 _ rfl; apply_rules only [qfO.out, qak, qam, qaj]⟩
   have n2_ : qag (Below w.heap.size w ((w12.setCell ⟨qiD, 0, none⟩ (.int .i64 ((qae l0 qdp).f0))).setCell ⟨qiD, 1, none⟩ (.int .i64 ((qae l0 qdp).f1)))) := ⟨k75_⟩
   (try clear qdq); (try clear qfO); (try clear HB)
   generalize ((w12.setCell ⟨qiD, 0, none⟩ (.int .i64 ((qae l0 qdp).f0))).setCell ⟨qiD, 1, none⟩ (.int .i64 ((qae l0 qdp).f1))) = w14 at n0_ n1_ n2_ ⊢
   have qdq := n0_; have qfO := n1_; have HB := n2_; clear n0_ n1_ n2_; replace qdq := ak_ (Kd.qaw qdq.out); replace qfO := ak_ (qam qfO.out); replace HB := ak_ (qah HB.out); refine qe6 (n := 12) (S := fun w' => w'.cell? ⟨qiD, 0, none⟩ = some (.int .i64 ((qae l0 qdp).f0)) ∧ w'.cell? ⟨qiD, 1, none⟩ = some (.int .i64 ((qae l0 qdp).f1))) (ds := []) (rA_ [0, 12]) (by kernel_rfl) rfl rfl ⟨qed qfO.out, qbC qfO.out⟩ (fun hHeld => ?_); refine qdn qaF.tab5 qaF.bits5 (fun HT_ HW_ => ?_)
   generalize w14.drew = w15 at qdq qfO HB hHeld ⊢
   refine pu_ 0 13 [1, 11] ?_; refine pu_ 1 14 [2, 10] ?_; refine pu_ 5 18 [2, 3, 1, 6] ?_; refine qis 2 15 [3, 2, 1, 6] ?_; refine qis 6 19 [3, 2, 2, 5] ?_; refine qfH (i := 3) (N := some 16) (rA_ [4, 1, 2, 5]) rfl rfl (qc4 HT_.out (by kernel_rfl)) (by decide) (fun K hK => ?_); refine qfR Tryz.func87 (by kernel_rfl) rfl #[.int .i64 ((qae l0 qdp).f0)] (by rfl) rfl rfl qbK ?_
   with_reducible refine (strconv_Itoa.calls ((qae l0 qdp).f0) qf4 _ A7.out).mono ?_
   rintro e w16 ⟨rfl, hb⟩; refine ⟨_, rfl, ?_⟩; replace qdq := qdq.mw hb; replace qfO := qfO.mw hb; replace HB := ak_ (qaa k75_ hb); (try clear hb); (try clear hb2); (try clear hk); (try clear hi); refine hK.out _ _ ⟨qed qfO.out, qbC qfO.out⟩ (fun hHeld => ?_); clear hK K; refine nm_ 16 ?_; refine pu_ 4 17 [7, 5] ?_; refine qfH (i := 7) (N := some 20) (rA_ [8, 4]) rfl rfl (qc4 HT_.out (by kernel_rfl)) (by decide) (fun K hK => ?_); refine qfR Tryz.func87 (by kernel_rfl) rfl #[.int .i64 ((qae l0 qdp).f1)] (by rfl) rfl rfl qbK ?_
   with_reducible refine (strconv_Itoa.calls ((qae l0 qdp).f1) t107 _ A9.out).mono ?_
   rintro e w17 ⟨rfl, hb⟩; refine ⟨_, rfl, ?_⟩; replace qdq := qdq.mw hb; replace qfO := qfO.mw hb; replace HB := ak_ (qaa k75_ hb); (try clear hb); (try clear hb2); (try clear hk); (try clear hi); refine hK.out _ _ ⟨qed qfO.out, qbC qfO.out⟩ (fun hHeld => ?_); clear hK K; refine nm_ 20 ?_; refine pu_ 8 21 [9, 3] ?_; refine qfH (i := 9) (N := some 22) (rA_ [10, 2]) rfl rfl (qc4 HT_.out (by kernel_rfl)) (by decide) (fun K hK => ?_); refine qiL (w1 := ?_) (v := ?_) (by rfl) rfl ?_ ?_; rotate_left 2
   ·go_simp; constructor
    ·rfl
    rfl
   refine hK.out _ _ ⟨(qba (qaj qfO.out _) 0).trans rfl, (qba (qaj qfO.out _) 1).trans rfl⟩ (fun hHeld => ?_); clear hK K; refine nm_ 22 ?_; refine qfH (i := 10) (N := some 23) (rA_ [11, 1]) rfl rfl (qc4 HT_.out (by kernel_rfl)) (by decide) (fun K hK => ?_); refine Kd.qeV Kd.string (w0 := w) w.heap.size (by rfl) (.tmp 13) (.tmp 22) 43 9 (.string ⟨#[]⟩) 16 rfl Tryz.underlying43 qml rfl (by decide) (by omega) u3 qbx ((qf4 ++ (⟨#[58]⟩ : ByteArray)) ++ t107) [.string ((qf4 ++ (⟨#[58]⟩ : ByteArray)) ++ t107)] (fun _ => True) (fun _ => False) rfl rfl ?aP (fun _ hk => hk.elim) ?aF ?aO ?aB ?aS ?aL ?_
   (case aP => exact rfl)
   (case aB => exact k75_)
   (case aF => exact (fun _ _ => trivial))
   (case aO => exact qhX)
   (case aS => exact (qab k75_))
   (case aL => have := qoa.out; omega)
   intro v109 w18 ho hb hg hat; rw [← qoe.out] at ho; replace qfO := ak_ (qdH (g := qiD) (o := .cells #[.int .i64 ((qae l0 qdp).f0), .int .i64 ((qae l0 qdp).f1)] 85 (0, 0)) (by apply_rules only [qfO.out, qak, qam, qaj]) hg (Kd.qpw qdq.out qfO.out (by decide))); replace HB := ak_ (hb); have qmU := ak_ (ho); clear qdq; clear ho hb hg hat; refine hK.out _ _ ⟨qed qfO.out, qbC qfO.out⟩ (fun hHeld => ?_); clear hK K; refine nm_ 23 ?_; refine pu_ 11 3 [12] ?_; refine qgu (qeC HT_.out (by kernel_rfl)) ?_
   try go_wp2
   go_roundg k1
   case measure => have := HK1.out; omega
   case rel => exact ⟨(qiO), (wrap64 (qdp + 1)), qav, H', ⟨qcW⟩, ⟨by apply_rules only [qmU.out, Kd.qap, Kd.qaq, Kd.qaw]⟩, ⟨k75_⟩⟩
def qo3 : Go.Shelf.Ren := ⟨fun | 160 => 196 | 232 => 229 | 231 => 228 | 227 => 230 | 234 => 232 | 233 => 231 | 236 => 234 | 235 => 233 | 228 => 254 | 271 => 256 | 151 => 255 | 197 => 218 | 120 => 276 | 152 => 275 | 260 => 248 | 137 => 285 | 119 => 286 | 224 => 178 | 225 => 177 | 217 => 176 | 266 => 215 | n => n, fun | 9 => 9 | 4 => 4 | 3 => 3 | 5 => 5 | 117 => 194 | 116 => 193 | 0 => 0 | 124 => 197 | 21 => 21 | 105 => 182 | 46 => 165 | 119 => 221 | 139 => 224 | 138 => 223 | n => n, fun | 3 => 4 | 4 => 5 | n => n⟩
theorem lays160 : Go.Proofs.Lays.n160 Tryz.prog qo3 := {
  mixed := by kernel_rfl
  f119 := cs_ Tryz.func286
  f120 := cs_ Tryz.func276
  f137 := cs_ Tryz.func285
  f151 := cs_ Tryz.func255
  f152 := cs_ Tryz.func275
  f160 := cs_ Tryz.func196
  f197 := cs_ Tryz.func218
  f217 := cs_ Tryz.func176
  f224 := cs_ Tryz.func178
  f225 := cs_ Tryz.func177
  f227 := cs_ Tryz.func230
  f228 := cs_ Tryz.func254
  f231 := cs_ Tryz.func228
  f232 := cs_ Tryz.func229
  f233 := cs_ Tryz.func231
  f234 := cs_ Tryz.func232
  f235 := cs_ Tryz.func233
  f236 := cs_ Tryz.func234
  f260 := cs_ Tryz.func248
  f266 := cs_ Tryz.func215
  f271 := cs_ Tryz.func256
  t0 := Tryz.underlying0
  a0 := Tryz.isAgg0
  z0 := Tryz.sizeOf0
  v0 := Tryz.zeroValue0
  t3 := Tryz.underlying3
  a3 := Tryz.isAgg3
  z3 := Tryz.sizeOf3
  v3 := Tryz.zeroValue3
  t4 := Tryz.underlying4
  a4 := Tryz.isAgg4
  z4 := Tryz.sizeOf4
  v4 := Tryz.zeroValue4
  t5 := Tryz.underlying5
  a5 := Tryz.isAgg5
  z5 := Tryz.sizeOf5
  v5 := Tryz.zeroValue5
  t9 := Tryz.underlying9
  a9 := Tryz.isAgg9
  z9 := Tryz.sizeOf9
  v9 := Tryz.zeroValue9
  t21 := Tryz.underlying21
  a21 := Tryz.isAgg21
  z21 := Tryz.sizeOf21
  v21 := Tryz.zeroValue21
  t46 := Tryz.underlying165
  a46 := Tryz.isAgg165
  z46 := Tryz.sizeOf165
  v46 := Tryz.zeroValue165
  t105 := Tryz.underlying182
  a105 := Tryz.isAgg182
  z105 := Tryz.sizeOf182
  v105 := Tryz.zeroValue182
  t116 := Tryz.underlying193
  a116 := Tryz.isAgg193
  z116 := Tryz.sizeOf193
  t117 := Tryz.underlying194
  a117 := Tryz.isAgg194
  z117 := Tryz.sizeOf194
  v117 := Tryz.zeroValue194
  t119 := Tryz.underlying221
  a119 := Tryz.isAgg221
  z119 := Tryz.sizeOf221
  t124 := Tryz.underlying197
  a124 := Tryz.isAgg197
  z124 := Tryz.sizeOf197
  v124 := Tryz.zeroValue197
  t138 := Tryz.underlying223
  a138 := Tryz.isAgg223
  z138 := Tryz.sizeOf223
  v138 := Tryz.zeroValue223
  t139 := Tryz.underlying224
  a139 := Tryz.isAgg224
  z139 := Tryz.sizeOf224
  v139 := Tryz.zeroValue224
  g3 := by kernel_rfl
  g4 := by kernel_rfl }
def qdR.f (a0 a1 : ByteArray) : Option ByteArray := if a0.size ≤ 9223372036854775807 ∧ a1 = (⟨#[111, 120, 63]⟩ : ByteArray) then some ⟨(Lib.trimS a0.data.toList [111, 120, 63]).toArray⟩ else none
theorem qdR.calls (a0 : ByteArray) (a1 : ByteArray) (r : ByteArray) (w : World) (h : qdR.f a0 a1 = some r) :
    Calls Tryz.prog 196 #[.string a0, .string a1] w fun e w' => e = .returned (.string r) ∧ Below w.heap.size w w' := by
  unfold qdR.f at h; by_cases hc : a0.size ≤ 9223372036854775807 ∧ a1 = (⟨#[111, 120, 63]⟩ : ByteArray)
  ·rw [if_pos hc] at h; obtain rfl := Option.some.inj h; obtain ⟨hs, rfl⟩ := hc; exact Any.strings_Trim_laid lays160 (by kernel_rfl) a0 ⟨#[111, 120, 63]⟩ w hs (by decide) (ascii_of_all (by decide))
  rw [if_neg hc] at h; exact absurd h (by simp)
def qcC.f (qbP : ByteArray) (qcz : Int) : Option (Bool) := if (qbP.size : Int) ≥ 1 then (if (qbP.size : Int) ≤ 48 then ((qdR.f qbP (⟨#[111, 120, 63]⟩ : ByteArray)).bind fun qaR => (if qaR.toList = ([] : List UInt8) then (if qcz ≥ 0 then (some (decide (qcz ≤ 3))) else (some false)) else (some false))) else (some false)) else (some false)
theorem qcC.calls (qbP : ByteArray) (qcz : Int) (r : Bool) (w : World) (h : qcC.f qbP qcz = some r) :
  Calls Tryz.prog 134 #[.agg #[.string qbP, .int .i64 qcz]] w fun e w' => e = .returned (.bool r) ∧ Below w.heap.size w w' := by
 have hu99 := Tryz.underlying99; have HB := br_ w; have H : (if (qbP.size : Int) ≥ 1 then (if (qbP.size : Int) ≤ 48 then ((qdR.f qbP (⟨#[111, 120, 63]⟩ : ByteArray)).bind fun qaR => (if qaR.toList = ([] : List UInt8) then (if qcz ≥ 0 then (some (decide (qcz ≤ 3))) else (some false)) else (some false))) else (some false)) else (some false)) = some r := h; clear h; by_cases c2 : (qbP.size : Int) ≥ 1; rotate_left
 ·rw [if_neg c2] at H; have qfr : decide (1 ≤ (qbP.size : Int)) = false := decide_eq_false c2; have qm3 : decide (1 ≤ qbP.size) = false := decide_eq_false (by omega); clear c2; obtain rfl := sj_ H; go_enter Tryz.func134, Tryz.ntmps134
  go_wp2_with (first | ((with_reducible refine qal (N := 1) rfl ?_); refine bx_ 1 rfl (cs := #[.string qbP, .int .i64 qcz]) (t := 99) qbe ?_; intro qb6 hg w20 hbox hb; have qaG := ak_ (hbox); have qeO := ak_ (HB.ge hg); have qem := ak_ (HB.ge hg); replace HB := HB.mw hb; clear hb hbox hg; obtain ⟨hcz21_0, hcz21_1, hfz21_0, hfz21_1⟩ := qbG qaG.out))
  go_ret
  exact ⟨qcf, qds⟩
 rw [if_pos c2] at H; have qfr : decide (1 ≤ (qbP.size : Int)) = true := decide_eq_true c2; have qm3 : decide (1 ≤ qbP.size) = true := decide_eq_true (by omega); clear c2; by_cases c3 : (qbP.size : Int) ≤ 48; rotate_left
 ·rw [if_neg c3] at H; have qfk := decide_eq_false c3; have qmb : decide (qbP.size ≤ 48) = false := decide_eq_false (by omega); clear c3; obtain rfl := sj_ H; go_enter Tryz.func134, Tryz.ntmps134
  go_wp2_with (first | ((with_reducible refine qal (N := 1) rfl ?_); refine bx_ 1 rfl (cs := #[.string qbP, .int .i64 qcz]) (t := 99) qbe ?_; intro qb6 hg w18 hbox hb; have qaG := ak_ (hbox); have qeO := ak_ (HB.ge hg); have qem := ak_ (HB.ge hg); replace HB := HB.mw hb; clear hb hbox hg; obtain ⟨hcz19_0, hcz19_1, hfz19_0, hfz19_1⟩ := qbG qaG.out))
  go_ret
  exact ⟨qcf, qds⟩
 rw [if_pos c3] at H; have qfk := decide_eq_true c3; have qmb : decide (qbP.size ≤ 48) = true := decide_eq_true (by omega); clear c3; obtain ⟨qaR, A4, H⟩ := qay H; (try dsimp only at H); by_cases c5 : qaR.toList = ([] : List UInt8); rotate_left
 ·rw [if_neg c5] at H; have qgJ : (qaR.toList == ([] : List UInt8)) = false := beq_eq_false_iff_ne.mpr c5; have qrG : (qaR.toList != ([] : List UInt8)) = true := bne_iff_ne.mpr c5; obtain rfl := sj_ H; go_enter Tryz.func134, Tryz.ntmps134
  go_wp2_with (first | ((with_reducible refine qal (N := 1) rfl ?_); refine bx_ 1 rfl (cs := #[.string qbP, .int .i64 qcz]) (t := 99) qbe ?_; intro qb6 hg w15 hbox hb; have qaG := ak_ (hbox); have qeO := ak_ (HB.ge hg); have qem := ak_ (HB.ge hg); replace HB := HB.mw hb; clear hb hbox hg; obtain ⟨qr9, qsa, qsh, qsi⟩ := qbG qaG.out) | (go_at_call 196; (with_reducible refine (qdR.calls qbP (⟨#[111, 120, 63]⟩ : ByteArray) qaR _ A4.out).mono ?_); rintro e w17 ⟨rfl, hb⟩; replace qaG := qaG.mw hb; replace HB := ak_ (qaa qds hb); (try clear hb)))
  go_ret
  exact ⟨qcf, qds⟩
 rw [if_pos c5] at H; have qgJ : (qaR.toList == ([] : List UInt8)) = true := beq_iff_eq.mpr c5; have qrG : (qaR.toList != ([] : List UInt8)) = false := bne_eq_false_iff_eq.mpr c5; clear c5; by_cases c6 : qcz ≥ 0
 ·rw [if_pos c6] at H; have qgk : decide (0 ≤ qcz) = true := decide_eq_true c6; clear c6; obtain rfl := sj_ H; go_enter Tryz.func134, Tryz.ntmps134
  go_wp2_with (first | ((with_reducible refine qal (N := 1) rfl ?_); refine bx_ 1 rfl (cs := #[.string qbP, .int .i64 qcz]) (t := 99) qbe ?_; intro qb6 hg w7 hbox hb; have qaG := ak_ (hbox); have qeO := ak_ (HB.ge hg); have qem := ak_ (HB.ge hg); replace HB := HB.mw hb; clear hb hbox hg; obtain ⟨qno, qnp, qnq, qnr⟩ := qbG qaG.out) | (go_at_call 196; (with_reducible refine (qdR.calls qbP (⟨#[111, 120, 63]⟩ : ByteArray) qaR _ A4.out).mono ?_); rintro e w9 ⟨rfl, hb⟩; replace qaG := qaG.mw hb; replace HB := ak_ (qaa qds hb); (try clear hb); obtain ⟨qoB, qoC, qoI, qoJ⟩ := qbG qaG.out))
  go_ret
  exact ⟨qcf, qds⟩
 rw [if_neg c6] at H; have qgk : decide (0 ≤ qcz) = false := decide_eq_false c6; clear c6; obtain rfl := sj_ H; go_enter Tryz.func134, Tryz.ntmps134
 go_wp2_with (first | ((with_reducible refine qal (N := 1) rfl ?_); refine bx_ 1 rfl (cs := #[.string qbP, .int .i64 qcz]) (t := 99) qbe ?_; intro qb6 hg w11 hbox hb; have qaG := ak_ (hbox); have qeO := ak_ (HB.ge hg); have qem := ak_ (HB.ge hg); replace HB := HB.mw hb; clear hb hbox hg; obtain ⟨qoD, qoE, qoK, qoL⟩ := qbG qaG.out) | (go_at_call 196; (with_reducible refine (qdR.calls qbP (⟨#[111, 120, 63]⟩ : ByteArray) qaR _ A4.out).mono ?_); rintro e w13 ⟨rfl, hb⟩; replace qaG := qaG.mw hb; replace HB := ak_ (qaa qds hb); (try clear hb); obtain ⟨hcz14_0, hcz14_1, hfz14_0, hfz14_1⟩ := qbG qaG.out))
 go_ret
 exact ⟨qcf, qds⟩
def qbJ.f (qbP : ByteArray) (qcz : Int) : Option (ByteArray) := if qbP.size + 1 ≤ 9223372036854775807 then ((strconv_Itoa.f qcz).bind fun qaR => (if (qbP ++ (⟨#[58]⟩ : ByteArray)).size + qaR.size ≤ 9223372036854775807 then (some ((qbP ++ (⟨#[58]⟩ : ByteArray)) ++ qaR)) else (none))) else (none)
def qbJ.T1 : Bool × List (List Nat × List Nat) := (true, [([], []), ([0], [0]), ([1], [1]), ([], []), ([3], [3]), ([4], [4]), ([2, 5], [2, 5]), ([6, 5, 0, 1, 2, 3, 4, 5, 6], [6])])
def qbJ.B1 : List Nat := [0, 1, 3, 0, 8, 24, 63, 127]
theorem qbJ.tab1 : qhS .any (opsOf Tryz.f135 1) = qbJ.T1 := by kernel_rfl
theorem qbJ.bits1 : qeU qbJ.T1.2 qbJ.B1 = true := by kernel_rfl
theorem qbJ.calls (qbP : ByteArray) (qcz : Int) (r : ByteArray) (w : World) (h : qbJ.f qbP qcz = some r) :
  Calls Tryz.prog 135 #[.agg #[.string qbP, .int .i64 qcz]] w fun e w' => e = .returned (.string r) ∧ Below w.heap.size w w' := by
 have hu99 := Tryz.underlying99; have HB := br_ w; have H : (if qbP.size + 1 ≤ 9223372036854775807 then ((strconv_Itoa.f qcz).bind fun qaR => (if (qbP ++ (⟨#[58]⟩ : ByteArray)).size + qaR.size ≤ 9223372036854775807 then (some ((qbP ++ (⟨#[58]⟩ : ByteArray)) ++ qaR)) else (none))) else (none)) = some r := h; clear h; obtain ⟨c2, H⟩ := qck H; have qfr := eq_true c2; have qm3 := decide_eq_true c2
 try have c2b2 : (9223372036854775807 < qbP.size + 1) = False := eq_false (Nat.not_lt.2 c2)
 obtain ⟨qaR, A3, H⟩ := qay H; (try dsimp only at H); obtain ⟨c4, H⟩ := qck H; have qfx := eq_true c4; have qmK := decide_eq_true c4
 try have c4b2 : (9223372036854775807 < (qbP ++ (⟨#[58]⟩ : ByteArray)).size + qaR.size) = False := eq_false (Nat.not_lt.2 c4)
 have c4b3 : (9223372036854775807 < qbP.size + 1 + qaR.size) = False := by have e_ : (qbP ++ (⟨#[58]⟩ : ByteArray)).size = qbP.size + 1 := (ByteArray.size_append).trans rfl; rw [← e_]; exact c4b2
 obtain rfl := sj_ H; go_enter Tryz.func135, Tryz.ntmps135
 try go_wp2_with (first | ((with_reducible refine qal (N := 1) rfl ?_); refine bx_ 1 rfl (cs := #[.string qbP, .int .i64 qcz]) (t := 99) qbe ?_; intro qb6 hg w5 hbox hb; have qaG := ak_ (hbox); have qeO := ak_ (HB.ge hg); have qem := ak_ (HB.ge hg); replace HB := HB.mw hb; clear hb hbox hg))
 replace qaG := ak_ (qam qaG.out); replace HB := ak_ (qah HB.out); refine qe6 (n := 8) (S := fun w' => w'.cell? ⟨qb6, 0, none⟩ = some (.string qbP) ∧ w'.cell? ⟨qb6, 1, none⟩ = some (.int .i64 qcz)) (ds := []) (rA_ [0, 8]) (by kernel_rfl) rfl rfl ⟨qed qaG.out, qbC qaG.out⟩ (fun hHeld => ?_); refine qdn qbJ.tab1 qbJ.bits1 (fun HT_ HW_ => ?_)
 generalize w5.drew = w6 at qaG HB hHeld ⊢
 refine pu_ 0 3 [1, 7] ?_; refine pu_ 3 6 [1, 2, 1, 4] ?_; refine qis 1 4 [2, 1, 1, 4] ?_; refine pu_ 2 5 [4, 4] ?_; refine qis 4 7 [5, 3] ?_; refine qfH (i := 5) (N := some 8) (rA_ [6, 2]) rfl rfl (qc4 HT_.out (by kernel_rfl)) (by decide) (fun K hK => ?_); refine qfR Tryz.func87 (by kernel_rfl) rfl #[.int .i64 qcz] (by rfl) rfl rfl qbK ?_
 with_reducible refine (strconv_Itoa.calls qcz qaR _ A3.out).mono ?_
 rintro e w7 ⟨rfl, hb⟩; refine ⟨_, rfl, ?_⟩; replace qaG := qaG.mw hb; replace HB := ak_ (qaa qds hb); (try clear hb); (try clear hb2); (try clear hk); (try clear hi); refine hK.out _ _ ⟨qed qaG.out, qbC qaG.out⟩ (fun hHeld => ?_); clear hK K; refine nm_ 8 ?_; refine pu_ 6 9 [7, 1] ?_; refine pu_ 7 2 [8] ?_; refine qgu (qeC HT_.out (by kernel_rfl)) ?_
 try go_wp2
 go_ret
 exact ⟨qcf, qds⟩
def qkz : Go.Shelf.Ren := ⟨fun | 145 => 90 | 220 => 150 | 219 => 120 | 217 => 176 | 225 => 177 | 224 => 178 | 267 => 179 | 266 => 215 | 314 => 216 | n => n, fun | 9 => 9 | 4 => 4 | 59 => 113 | 3 => 3 | 5 => 5 | 46 => 165 | 146 => 180 | 51 => 179 | n => n, fun | 1 => 0 | n => n⟩
theorem qsN : Go.Proofs.Lays.n145 Tryz.prog qkz := {
  mixed := by kernel_rfl
  f145 := cs_ Tryz.func90
  f217 := cs_ Tryz.func176
  f219 := cs_ Tryz.func120
  f220 := cs_ Tryz.func150
  f224 := cs_ Tryz.func178
  f225 := cs_ Tryz.func177
  f266 := cs_ Tryz.func215
  f267 := cs_ Tryz.func179
  f314 := cs_ Tryz.func216
  t3 := Tryz.underlying3
  a3 := Tryz.isAgg3
  z3 := Tryz.sizeOf3
  v3 := Tryz.zeroValue3
  t4 := Tryz.underlying4
  a4 := Tryz.isAgg4
  z4 := Tryz.sizeOf4
  v4 := Tryz.zeroValue4
  t5 := Tryz.underlying5
  a5 := Tryz.isAgg5
  z5 := Tryz.sizeOf5
  v5 := Tryz.zeroValue5
  t9 := Tryz.underlying9
  a9 := Tryz.isAgg9
  z9 := Tryz.sizeOf9
  v9 := Tryz.zeroValue9
  t46 := Tryz.underlying165
  a46 := Tryz.isAgg165
  z46 := Tryz.sizeOf165
  v46 := Tryz.zeroValue165
  t51 := Tryz.underlying179
  a51 := Tryz.isAgg179
  z51 := Tryz.sizeOf179
  v51 := Tryz.zeroValue179
  t59 := Tryz.underlying113
  a59 := Tryz.isAgg113
  z59 := Tryz.sizeOf113
  v59 := Tryz.zeroValue113
  t146 := Tryz.underlying180
  a146 := Tryz.isAgg180
  z146 := Tryz.sizeOf180
  v146 := Tryz.zeroValue180
  g1 := by kernel_rfl }
def qii : Go.Shelf.Ren := ⟨fun | 172 => 122 | 244 => 182 | 245 => 183 | 247 => 220 | 279 => 221 | 280 => 222 | 281 => 223 | 282 => 224 | 287 => 249 | 316 => 250 | 171 => 87 | 205 => 251 | 321 => 263 | 322 => 264 | 243 => 146 | 246 => 203 | 283 => 240 | 284 => 241 | 285 => 242 | 286 => 243 | 129 => 259 | 317 => 258 | 318 => 260 | 319 => 261 | 320 => 262 | 337 => 277 | 338 => 278 | n => n, fun | 9 => 9 | 3 => 3 | 75 => 137 | 76 => 138 | 4 => 4 | 5 => 5 | 167 => 184 | 37 => 35 | 0 => 0 | 85 => 185 | 2 => 2 | 168 => 187 | 53 => 68 | 175 => 209 | 46 => 165 | 210 => 212 | 127 => 176 | 145 => 228 | 143 => 226 | 21 => 21 | 171 => 200 | 173 => 203 | 212 => 219 | 51 => 179 | 20 => 20 | 213 => 220 | 232 => 246 | 233 => 247 | 80 => 72 | n => n, fun | 15 => 1 | 16 => 2 | 17 => 3 | 18 => 6 | 19 => 7 | n => n⟩
theorem qo4 : Go.Proofs.LaysC.n172 Tryz.prog qii := {
  mixed := by kernel_rfl
  f129 := cs_ Tryz.func259
  f171 := cs_ Tryz.func87
  f172 := cs_ Tryz.func122
  f205 := cs_ Tryz.func251
  f243 := cs_ Tryz.func146
  f244 := cs_ Tryz.func182
  f245 := cs_ Tryz.func183
  f246 := cs_ Tryz.func203
  f247 := cs_ Tryz.func220
  f279 := cs_ Tryz.func221
  f280 := cs_ Tryz.func222
  f281 := cs_ Tryz.func223
  f282 := cs_ Tryz.func224
  f283 := cs_ Tryz.func240
  f284 := cs_ Tryz.func241
  f285 := cs_ Tryz.func242
  f286 := cs_ Tryz.func243
  f287 := cs_ Tryz.func249
  f316 := cs_ Tryz.func250
  f317 := cs_ Tryz.func258
  f318 := cs_ Tryz.func260
  f319 := cs_ Tryz.func261
  f320 := cs_ Tryz.func262
  f321 := cs_ Tryz.func263
  f322 := cs_ Tryz.func264
  f337 := cs_ Tryz.func277
  f338 := cs_ Tryz.func278
  t0 := Tryz.underlying0
  a0 := Tryz.isAgg0
  z0 := Tryz.sizeOf0
  v0 := Tryz.zeroValue0
  t2 := Tryz.underlying2
  a2 := Tryz.isAgg2
  z2 := Tryz.sizeOf2
  v2 := Tryz.zeroValue2
  t3 := Tryz.underlying3
  a3 := Tryz.isAgg3
  z3 := Tryz.sizeOf3
  v3 := Tryz.zeroValue3
  t4 := Tryz.underlying4
  a4 := Tryz.isAgg4
  z4 := Tryz.sizeOf4
  v4 := Tryz.zeroValue4
  t5 := Tryz.underlying5
  a5 := Tryz.isAgg5
  z5 := Tryz.sizeOf5
  v5 := Tryz.zeroValue5
  t9 := Tryz.underlying9
  a9 := Tryz.isAgg9
  z9 := Tryz.sizeOf9
  v9 := Tryz.zeroValue9
  t20 := Tryz.underlying20
  a20 := Tryz.isAgg20
  z20 := Tryz.sizeOf20
  v20 := Tryz.zeroValue20
  t21 := Tryz.underlying21
  a21 := Tryz.isAgg21
  z21 := Tryz.sizeOf21
  v21 := Tryz.zeroValue21
  t37 := Tryz.underlying35
  a37 := Tryz.isAgg35
  z37 := Tryz.sizeOf35
  v37 := Tryz.zeroValue35
  t46 := Tryz.underlying165
  a46 := Tryz.isAgg165
  z46 := Tryz.sizeOf165
  v46 := Tryz.zeroValue165
  t51 := Tryz.underlying179
  a51 := Tryz.isAgg179
  z51 := Tryz.sizeOf179
  v51 := Tryz.zeroValue179
  t53 := Tryz.underlying68
  a53 := Tryz.isAgg68
  z53 := Tryz.sizeOf68
  v53 := Tryz.zeroValue68
  t75 := Tryz.underlying137
  a75 := Tryz.isAgg137
  z75 := Tryz.sizeOf137
  v75 := Tryz.zeroValue137
  t76 := Tryz.underlying138
  a76 := Tryz.isAgg138
  z76 := Tryz.sizeOf138
  v76 := Tryz.zeroValue138
  t85 := Tryz.underlying185
  a85 := Tryz.isAgg185
  z85 := Tryz.sizeOf185
  v85 := Tryz.zeroValue185
  t127 := Tryz.underlying176
  a127 := Tryz.isAgg176
  z127 := Tryz.sizeOf176
  v127 := Tryz.zeroValue176
  t143 := Tryz.underlying226
  a143 := Tryz.isAgg226
  z143 := Tryz.sizeOf226
  v143 := Tryz.zeroValue226
  t145 := Tryz.underlying228
  a145 := Tryz.isAgg228
  z145 := Tryz.sizeOf228
  v145 := Tryz.zeroValue228
  t167 := Tryz.underlying184
  a167 := Tryz.isAgg184
  z167 := Tryz.sizeOf184
  v167 := Tryz.zeroValue184
  t168 := Tryz.underlying187
  a168 := Tryz.isAgg187
  z168 := Tryz.sizeOf187
  v168 := Tryz.zeroValue187
  t171 := Tryz.underlying200
  a171 := Tryz.isAgg200
  z171 := Tryz.sizeOf200
  v171 := Tryz.zeroValue200
  t173 := Tryz.underlying203
  a173 := Tryz.isAgg203
  z173 := Tryz.sizeOf203
  v173 := Tryz.zeroValue203
  t175 := Tryz.underlying209
  a175 := Tryz.isAgg209
  z175 := Tryz.sizeOf209
  v175 := Tryz.zeroValue209
  t210 := Tryz.underlying212
  a210 := Tryz.isAgg212
  z210 := Tryz.sizeOf212
  v210 := Tryz.zeroValue212
  t212 := Tryz.underlying219
  a212 := Tryz.isAgg219
  z212 := Tryz.sizeOf219
  v212 := Tryz.zeroValue219
  t213 := Tryz.underlying220
  a213 := Tryz.isAgg220
  z213 := Tryz.sizeOf220
  t232 := Tryz.underlying246
  a232 := Tryz.isAgg246
  z232 := Tryz.sizeOf246
  v232 := Tryz.zeroValue246
  t233 := Tryz.underlying247
  a233 := Tryz.isAgg247
  z233 := Tryz.sizeOf247
  v233 := Tryz.zeroValue247
  g15 := by kernel_rfl
  g16 := by kernel_rfl
  g17 := by kernel_rfl
  g18 := by kernel_rfl
  g19 := by kernel_rfl
  t80 := Tryz.underlying72
  a80 := Tryz.isAgg72
  z80 := Tryz.sizeOf72
  v80 := Tryz.zeroValue72
  i0 := by kernel_rfl
  i2 := by kernel_rfl
  i3 := by kernel_rfl
  i4 := by kernel_rfl
  i5 := by kernel_rfl
  i9 := by kernel_rfl
  i20 := by kernel_rfl
  i21 := by kernel_rfl
  i37 := by kernel_rfl
  i46 := by kernel_rfl
  i51 := by kernel_rfl
  i53 := by kernel_rfl
  i75 := by kernel_rfl
  i76 := by kernel_rfl
  i80 := by kernel_rfl
  i85 := by kernel_rfl
  i127 := by kernel_rfl
  i143 := by kernel_rfl
  i145 := by kernel_rfl
  i167 := by kernel_rfl
  i168 := by kernel_rfl
  i171 := by kernel_rfl
  i173 := by kernel_rfl
  i175 := by kernel_rfl
  i210 := by kernel_rfl
  i212 := by kernel_rfl
  i232 := by kernel_rfl
  i233 := by kernel_rfl
  m15 := by kernel_rfl
  m16 := by kernel_rfl
  m17 := by kernel_rfl
  m18 := by kernel_rfl
  m19 := by kernel_rfl
  c0 := by kernel_rfl
  c2 := by kernel_rfl
  c3 := by kernel_rfl
  c4 := by kernel_rfl
  c5 := by kernel_rfl
  c9 := by kernel_rfl
  c20 := by kernel_rfl
  c21 := by kernel_rfl
  c37 := by kernel_rfl
  c46 := by kernel_rfl
  c51 := by kernel_rfl
  c53 := by kernel_rfl
  c75 := by kernel_rfl
  c76 := by kernel_rfl
  c80 := by kernel_rfl
  c85 := by kernel_rfl
  c127 := by kernel_rfl
  c143 := by kernel_rfl
  c145 := by kernel_rfl
  c167 := by kernel_rfl
  c168 := by kernel_rfl
  c171 := by kernel_rfl
  c173 := by kernel_rfl
  c175 := by kernel_rfl
  c210 := by kernel_rfl
  c212 := by kernel_rfl
  c213 := by kernel_rfl
  c232 := by kernel_rfl
  c233 := by kernel_rfl }
def qfi (w : World) : Prop := (∃ m : Int, w.cell? ⟨qkz.g 1, 0, none⟩ = some (.int .i64 m)) ∧ (∃ ev : Value, w.cell? ⟨qii.g 15, 0, none⟩ = some ev ∧ (ev = .nilIface ∨ ∃ te pe, ev = .iface te pe)) ∧ (∃ ev : Value, w.cell? ⟨qii.g 16, 0, none⟩ = some ev ∧ (ev = .nilIface ∨ ∃ te pe, ev = .iface te pe))
theorem qfi.below {w w' : World} (h : qfi w) (hb : Below w.heap.size w w') : qfi w' := by
  obtain ⟨⟨m, h1⟩, ⟨e1, h2, h3⟩, ⟨e2, h4, h5⟩⟩ := h; exact ⟨⟨m, (hb.cell (World.block_lt_of_cell? w _ h1)).trans h1⟩, ⟨e1, (hb.cell (World.block_lt_of_cell? w _ h2)).trans h2, h3⟩, ⟨e2, (hb.cell (World.block_lt_of_cell? w _ h4)).trans h4, h5⟩⟩
def qb7.f (a0 : ByteArray) : Option (ByteArray × Int × Bool) := if a0.size ≤ 1048576 then (match Lib.atoiAll (Lib.cut a0.data.toList [58]).2.1 with
  | .ok v => (qcC.f ⟨(Lib.cut a0.data.toList [58]).1.toArray⟩ v).bind fun t => if t = true then ((qbJ.f ⟨(Lib.cut a0.data.toList [58]).1.toArray⟩ v).bind fun txt => if txt.toList = a0.toList then some (⟨(Lib.cut a0.data.toList [58]).1.toArray⟩, v, true) else some ((⟨#[]⟩ : ByteArray), 0, false)) else some ((⟨#[]⟩ : ByteArray), 0, false)
  | _ => some ((⟨#[]⟩ : ByteArray), 0, false)) else none
theorem qot (s : List UInt8) (sep : List UInt8) : (Lib.cut s sep).2.1.length ≤ s.length := by
  unfold Lib.cut; split
  ·simp only [List.length_drop]; omega
  simp
theorem qf0 (s : ByteArray) (w : World) (hs : s.size ≤ 281474976710656) (hG : qfi w) :
    Calls Tryz.prog 122 #[.string s] w fun e w' => ∃ (n : Int) (ev : Value), e = .returned (.tuple #[.int .i64 n, ev]) ∧ ((Lib.atoiAll s.data.toList = .ok n ∧ ev = .nilIface) ∨ ((∀ v, Lib.atoiAll s.data.toList ≠ .ok v) ∧ ∃ te pe, ev = .iface te pe)) ∧ Below w.heap.size w w' := by
  obtain ⟨-, ⟨e1, h2, h3⟩, ⟨e2, h4, h5⟩⟩ := hG
  cases h : Lib.atoiAll s.data.toList with
  | ok v =>
    refine (Any.strconv_Atoi_ok qo4 s (by omega) v h w).mono ?_; rintro e w' ⟨rfl, hw⟩; refine ⟨v, .nilIface, rfl, .inl ⟨rfl, rfl⟩, ?_⟩
    rcases hw with rfl | ⟨t, rfl⟩
    ·exact Below.refl _ _
    exact Lib.bytesWorld_below _ _ _
  | range =>
    refine (Any.strconv_Atoi_range qo4 s hs h e2 w h4 h5).mono ?_; rintro e w' ⟨N, rfl, -, -, hb⟩; exact ⟨_, _, rfl, .inr ⟨fun v hv => (by cases hv), _, _, rfl⟩, hb⟩
  | _ =>
    refine (Any.strconv_Atoi_syntax qo4 s hs h e1 w h2 h3).mono ?_; rintro e w' ⟨N, rfl, -, -, hb⟩; exact ⟨_, _, rfl, .inr ⟨fun v hv => (by cases hv), _, _, rfl⟩, hb⟩
theorem qme (s : ByteArray) (w : World) (hs : s.size < 4294967281) (hG : qfi w) :
    Calls Tryz.prog 90 #[.string s, .string ⟨#[58]⟩] w fun e w' => e = .returned (.tuple #[.string ⟨(Lib.cut s.data.toList [58]).1.toArray⟩, .string ⟨(Lib.cut s.data.toList [58]).2.1.toArray⟩, .bool (Lib.cut s.data.toList [58]).2.2]) ∧ Below w.heap.size w w' := by
  obtain ⟨⟨m, hm⟩, -⟩ := hG; refine (Any.strings_Cut qsN s ⟨#[58]⟩ m w hs hm).mono ?_; rintro e w' ⟨rfl, n, rfl⟩; exact ⟨rfl, qaf (Below.refl _ _) _⟩
theorem qb7.calls (a0 : ByteArray) (r1 : ByteArray) (r2 : Int) (r3 : Bool) (w : World) (h : qb7.f a0 = some (r1, r2, r3)) (hG : qfi w) :
    Calls Tryz.prog 74 #[.string a0] w fun e w' => e = .returned (.tuple #[.agg #[.string r1, .int .i64 r2], .bool r3]) ∧ Below w.heap.size w w' := by
  have hu := Tryz.underlying99; have HG := ak_ hG; clear hG; unfold qb7.f at h; by_cases hs : a0.size ≤ 1048576; rotate_left
  ·rw [if_neg hs] at h; exact absurd h (by simp)
  rw [if_pos hs] at h; have HS := ak_ hs; have hnl := qot a0.data.toList [58]
  obtain ⟨bf, hbf⟩ : ∃ x : ByteArray, x = ⟨(Lib.cut a0.data.toList [58]).1.toArray⟩ := ⟨_, rfl⟩
  obtain ⟨nb, hnb⟩ : ∃ x : ByteArray, x = ⟨(Lib.cut a0.data.toList [58]).2.1.toArray⟩ := ⟨_, rfl⟩
  have hnd : nb.data.toList = (Lib.cut a0.data.toList [58]).2.1 := by rw [hnb]
  rw [← hnd, ← hbf] at h; have HNL := ak_ (show nb.size ≤ a0.size by rw [← hnd] at hnl; simpa using hnl); have HBF := ak_ hbf; have HNB := ak_ hnb; clear hbf hnb hnl hnd hs; by_cases hv : ∃ v, Lib.atoiAll nb.data.toList = .ok v; rotate_left
  ·have he : ∀ v, Lib.atoiAll nb.data.toList ≠ .ok v := fun v h_ => hv ⟨v, h_⟩
   have h2 : some ((⟨#[]⟩ : ByteArray), (0 : Int), false) = some (r1, r2, r3) := by
     cases hc : Lib.atoiAll nb.data.toList with
     | ok v => exact absurd hc (he v)
     | _ => rw [hc] at h; exact h
   have HE := ak_ he; clear he hv h; obtain ⟨rfl, rfl, rfl⟩ := qfJ h2; go_enter Tryz.func74, Tryz.ntmps74
   go_wp2_with (first | ((with_reducible refine qal (N := 2) rfl ?_); refine bx_ 2 rfl (cs := #[.string (⟨#[]⟩ : ByteArray), .int .i64 0]) (t := 99) qbe ?_; intro gQ hg w1 hbox hb; have BQ1 := ak_ hbox; have HB1 := ak_ hb; have GQ := ak_ (show w.heap.size ≤ gQ by rw [hg]; exact Nat.le_refl _); have HG1 := ak_ (qfi.below HG.out hb); clear hbox hb hg) | (refine gl_ 12 Tryz.func90 #[.string a0, .string ⟨#[58]⟩] rfl qbZ ?_; (refine (qme a0 _ (by have := HS.out; omega) HG1.out).mono ?_); rintro e w2 ⟨rfl, hb⟩; refine ⟨_, rfl, ?_⟩; have BQ2 := ak_ (qar BQ1.out hb); have HB2 := ak_ (qaa HB1.out hb); have HG2 := ak_ (qfi.below HG1.out hb); clear hb BQ1 HB1 HG1; rw [← HBF.out, ← HNB.out]) | (refine gl_ 18 Tryz.func122 #[.string nb] rfl qbZ ?_; (refine (qf0 nb _ (by have := HS.out; have := HNL.out; omega) HG2.out).mono ?_); rintro e w4 ⟨n, ev, rfl, hc_, hb⟩; refine ⟨_, rfl, ?_⟩; have BQ4 := ak_ (qar BQ2.out hb); have HB4 := ak_ (qaa HB2.out hb); obtain ⟨te, pe, rfl⟩ : ∃ te pe, ev = .iface te pe := (by rcases hc_ with ⟨h1_, -⟩ | ⟨-, h2_⟩; exact absurd h1_ (HE.out n); exact h2_); clear hc_; clear hb BQ2 HB2 HG2) | ((with_reducible refine qal (N := 9) rfl ?_); refine bx_ 9 rfl (cs := #[.string (⟨#[]⟩ : ByteArray), .int .i64 0]) (t := 99) qbe ?_; intro g9 hg w9 hbox hb; have B9_ := ak_ (show ((w9.setCell ⟨g9, 0, none⟩ (.string bf)).setCell ⟨g9, 1, none⟩ (.int .i64 n)).heap[g9]? = _ from qbl (cs' := #[.string bf, .int .i64 n]) (qbl (cs' := #[.string bf, .int .i64 0]) hbox 0 (.string bf) rfl) 1 (.int .i64 n) rfl); have HB9 := ak_ (show Below w4.heap.size w4 ((w9.setCell ⟨g9, 0, none⟩ (.string bf)).setCell ⟨g9, 1, none⟩ (.int .i64 n)) from qas (qas hb (Nat.le_of_eq hg.symm)) (Nat.le_of_eq hg.symm)); have BQ9 := ak_ (qar BQ4.out HB9.out); have hz0 : w9.cell? ⟨g9, 0, none⟩ = some (.string (⟨#[]⟩ : ByteArray)) := (qba hbox 0).trans rfl; have hz1 : w9.cell? ⟨g9, 1, none⟩ = some (.int .i64 0) := (qba hbox 1).trans rfl; have hf0 := qad hbox 0; have hf1 := qad hbox 1; have hne : gQ ≠ g9 := (by rw [hg]; exact Nat.ne_of_lt (qdU BQ4.out)); have hne' : ¬ g9 = gQ := fun e_ => hne e_.symm; have qqF : w9.cell? ⟨gQ, 0, none⟩ = some (.string (⟨#[]⟩ : ByteArray)) := (qba (qar BQ4.out hb) 0).trans rfl; have qqG : w9.cell? ⟨gQ, 1, none⟩ = some (.int .i64 0) := (qba (qar BQ4.out hb) 1).trans rfl; have qqD := qad (qar BQ4.out hb) 0; have qqE := qad (qar BQ4.out hb) 1; clear hbox hb hg))
   refine bodyPost_ret (qb4 (rs := [.cell 2 99, .tmp 3]) rfl (by simp) (.cell gQ 99 #[.string (⟨#[]⟩ : ByteArray), .int .i64 0] (0, 0) _ rfl (qbl (cs' := #[.string (⟨#[]⟩ : ByteArray), .int .i64 0]) (qbl (cs' := #[.string (⟨#[]⟩ : ByteArray), .int .i64 0]) BQ9.out 0 _ rfl) 1 _ rfl) Tryz.underlying99 rfl (by kernel_rfl) (.tmp .nil))) rfl ?_; exact ⟨rfl, qas (qas (qaa HB4.out HB9.out) (by have h_ := GQ.out; omega)) (by have h_ := GQ.out; omega)⟩
  obtain ⟨v, hv⟩ := hv; rw [hv] at h; replace h : ((qcC.f bf v).bind fun t => if t = true then ((qbJ.f bf v).bind fun txt => if txt.toList = a0.toList then some (bf, v, true) else some ((⟨#[]⟩ : ByteArray), 0, false)) else some ((⟨#[]⟩ : ByteArray), 0, false)) = some (r1, r2, r3) := h; have HV := ak_ hv; clear hv; replace h := Option.bind_eq_some_iff.mp h; obtain ⟨t, A0_, h⟩ := h; have A1 := ak_ A0_; clear A0_
  cases t with
  | false =>
    rw [if_neg (by decide)] at h; obtain ⟨rfl, rfl, rfl⟩ := qfJ h; go_enter Tryz.func74, Tryz.ntmps74
    go_wp2_with (first | ((with_reducible refine qal (N := 2) rfl ?_); refine bx_ 2 rfl (cs := #[.string (⟨#[]⟩ : ByteArray), .int .i64 0]) (t := 99) qbe ?_; intro gQ hg w1 hbox hb; have BQ1 := ak_ hbox; have HB1 := ak_ hb; have GQ := ak_ (show w.heap.size ≤ gQ by rw [hg]; exact Nat.le_refl _); have HG1 := ak_ (qfi.below HG.out hb); clear hbox hb hg) | (refine gl_ 12 Tryz.func90 #[.string a0, .string ⟨#[58]⟩] rfl qbZ ?_; (refine (qme a0 _ (by have := HS.out; omega) HG1.out).mono ?_); rintro e w2 ⟨rfl, hb⟩; refine ⟨_, rfl, ?_⟩; have BQ2 := ak_ (qar BQ1.out hb); have HB2 := ak_ (qaa HB1.out hb); have HG2 := ak_ (qfi.below HG1.out hb); clear hb BQ1 HB1 HG1; rw [← HBF.out, ← HNB.out]) | (refine gl_ 18 Tryz.func122 #[.string nb] rfl qbZ ?_; (refine (qf0 nb _ (by have := HS.out; have := HNL.out; omega) HG2.out).mono ?_); rintro e w4 ⟨n, ev, rfl, hc_, hb⟩; refine ⟨_, rfl, ?_⟩; have BQ4 := ak_ (qar BQ2.out hb); have HB4 := ak_ (qaa HB2.out hb); obtain ⟨rfl, rfl⟩ : n = v ∧ ev = .nilIface := (by rcases hc_ with ⟨h1_, h2_⟩ | ⟨h1_, -⟩; exact ⟨by rw [HV.out] at h1_; injection h1_ with h1_; exact h1_.symm, h2_⟩; exact absurd HV.out (h1_ v)); clear hc_; clear hb BQ2 HB2 HG2) | ((with_reducible refine qal (N := 9) rfl ?_); refine bx_ 9 rfl (cs := #[.string (⟨#[]⟩ : ByteArray), .int .i64 0]) (t := 99) qbe ?_; intro g9 hg w9 hbox hb; have B9_ := ak_ (show ((w9.setCell ⟨g9, 0, none⟩ (.string bf)).setCell ⟨g9, 1, none⟩ (.int .i64 n)).heap[g9]? = _ from qbl (cs' := #[.string bf, .int .i64 n]) (qbl (cs' := #[.string bf, .int .i64 0]) hbox 0 (.string bf) rfl) 1 (.int .i64 n) rfl); have HB9 := ak_ (show Below w4.heap.size w4 ((w9.setCell ⟨g9, 0, none⟩ (.string bf)).setCell ⟨g9, 1, none⟩ (.int .i64 n)) from qas (qas hb (Nat.le_of_eq hg.symm)) (Nat.le_of_eq hg.symm)); have BQ9 := ak_ (qar BQ4.out HB9.out); have hz0 : w9.cell? ⟨g9, 0, none⟩ = some (.string (⟨#[]⟩ : ByteArray)) := (qba hbox 0).trans rfl; have hz1 : w9.cell? ⟨g9, 1, none⟩ = some (.int .i64 0) := (qba hbox 1).trans rfl; have hf0 := qad hbox 0; have hf1 := qad hbox 1; have hne : gQ ≠ g9 := (by rw [hg]; exact Nat.ne_of_lt (qdU BQ4.out)); have hne' : ¬ g9 = gQ := fun e_ => hne e_.symm; have qqF : w9.cell? ⟨gQ, 0, none⟩ = some (.string (⟨#[]⟩ : ByteArray)) := (qba (qar BQ4.out hb) 0).trans rfl; have qqG : w9.cell? ⟨gQ, 1, none⟩ = some (.int .i64 0) := (qba (qar BQ4.out hb) 1).trans rfl; have qqD := qad (qar BQ4.out hb) 0; have qqE := qad (qar BQ4.out hb) 1; clear hbox hb hg) | (refine gl_ 28 Tryz.func134 #[.agg #[.string bf, .int .i64 n]] rfl qbZ ?_; (refine (qcC.calls bf n false _ A1.out).mono ?_); rintro e w10 ⟨rfl, hb⟩; refine ⟨_, rfl, ?_⟩; have B10 := ak_ (qar B9_.out hb); have BQ10 := ak_ (qar BQ9.out hb); have HB10 := ak_ (qaa (qaa HB4.out HB9.out) hb); clear hz0 hz1 hf0 hf1 qqF qqG qqD qqE B9_ BQ9 HB9 hb; have hz0 := qed B10.out; have hz1 := qbC B10.out; obtain ⟨qqF, qqG, qqD, qqE⟩ := qbG BQ10.out))
    refine bodyPost_ret (qb4 (rs := [.cell 2 99, .tmp 3]) rfl (by simp) (.cell gQ 99 #[.string (⟨#[]⟩ : ByteArray), .int .i64 0] (0, 0) _ rfl (qbl (cs' := #[.string (⟨#[]⟩ : ByteArray), .int .i64 0]) (qbl (cs' := #[.string (⟨#[]⟩ : ByteArray), .int .i64 0]) BQ10.out 0 _ rfl) 1 _ rfl) Tryz.underlying99 rfl (by kernel_rfl) (.tmp .nil))) rfl ?_; exact ⟨rfl, qas (qas HB10.out (by have h_ := GQ.out; omega)) (by have h_ := GQ.out; omega)⟩
  | true =>
    rw [if_pos rfl] at h; replace h := Option.bind_eq_some_iff.mp h; obtain ⟨txt, A0_, h⟩ := h; have A2 := ak_ A0_; clear A0_; by_cases hx : txt.toList = a0.toList
    ·rw [if_pos hx] at h; obtain ⟨rfl, rfl, rfl⟩ := qfJ h; have hxb : (txt.toList != a0.toList) = false := bne_eq_false_iff_eq.2 hx; have hxc : (txt.toList == a0.toList) = true := beq_iff_eq.2 hx; clear hx; go_enter Tryz.func74, Tryz.ntmps74
     go_wp2_with (first | ((with_reducible refine qal (N := 2) rfl ?_); refine bx_ 2 rfl (cs := #[.string (⟨#[]⟩ : ByteArray), .int .i64 0]) (t := 99) qbe ?_; intro gQ hg w1 hbox hb; have BQ1 := ak_ hbox; have HB1 := ak_ hb; have GQ := ak_ (show w.heap.size ≤ gQ by rw [hg]; exact Nat.le_refl _); have HG1 := ak_ (qfi.below HG.out hb); clear hbox hb hg) | (refine gl_ 12 Tryz.func90 #[.string a0, .string ⟨#[58]⟩] rfl qbZ ?_; (refine (qme a0 _ (by have := HS.out; omega) HG1.out).mono ?_); rintro e w2 ⟨rfl, hb⟩; refine ⟨_, rfl, ?_⟩; have BQ2 := ak_ (qar BQ1.out hb); have HB2 := ak_ (qaa HB1.out hb); have HG2 := ak_ (qfi.below HG1.out hb); clear hb BQ1 HB1 HG1; rw [← HBF.out, ← HNB.out]) | (refine gl_ 18 Tryz.func122 #[.string nb] rfl qbZ ?_; (refine (qf0 nb _ (by have := HS.out; have := HNL.out; omega) HG2.out).mono ?_); rintro e w4 ⟨n, ev, rfl, hc_, hb⟩; refine ⟨_, rfl, ?_⟩; have BQ4 := ak_ (qar BQ2.out hb); have HB4 := ak_ (qaa HB2.out hb); obtain ⟨rfl, rfl⟩ : n = v ∧ ev = .nilIface := (by rcases hc_ with ⟨h1_, h2_⟩ | ⟨h1_, -⟩; exact ⟨by rw [HV.out] at h1_; injection h1_ with h1_; exact h1_.symm, h2_⟩; exact absurd HV.out (h1_ v)); clear hc_; clear hb BQ2 HB2 HG2) | ((with_reducible refine qal (N := 9) rfl ?_); refine bx_ 9 rfl (cs := #[.string (⟨#[]⟩ : ByteArray), .int .i64 0]) (t := 99) qbe ?_; intro g9 hg w9 hbox hb; have B9_ := ak_ (show ((w9.setCell ⟨g9, 0, none⟩ (.string bf)).setCell ⟨g9, 1, none⟩ (.int .i64 n)).heap[g9]? = _ from qbl (cs' := #[.string bf, .int .i64 n]) (qbl (cs' := #[.string bf, .int .i64 0]) hbox 0 (.string bf) rfl) 1 (.int .i64 n) rfl); have HB9 := ak_ (show Below w4.heap.size w4 ((w9.setCell ⟨g9, 0, none⟩ (.string bf)).setCell ⟨g9, 1, none⟩ (.int .i64 n)) from qas (qas hb (Nat.le_of_eq hg.symm)) (Nat.le_of_eq hg.symm)); have BQ9 := ak_ (qar BQ4.out HB9.out); have hz0 : w9.cell? ⟨g9, 0, none⟩ = some (.string (⟨#[]⟩ : ByteArray)) := (qba hbox 0).trans rfl; have hz1 : w9.cell? ⟨g9, 1, none⟩ = some (.int .i64 0) := (qba hbox 1).trans rfl; have hf0 := qad hbox 0; have hf1 := qad hbox 1; have hne : gQ ≠ g9 := (by rw [hg]; exact Nat.ne_of_lt (qdU BQ4.out)); have hne' : ¬ g9 = gQ := fun e_ => hne e_.symm; have qqF : w9.cell? ⟨gQ, 0, none⟩ = some (.string (⟨#[]⟩ : ByteArray)) := (qba (qar BQ4.out hb) 0).trans rfl; have qqG : w9.cell? ⟨gQ, 1, none⟩ = some (.int .i64 0) := (qba (qar BQ4.out hb) 1).trans rfl; have qqD := qad (qar BQ4.out hb) 0; have qqE := qad (qar BQ4.out hb) 1; clear hbox hb hg) | (refine gl_ 28 Tryz.func134 #[.agg #[.string bf, .int .i64 n]] rfl qbZ ?_; (refine (qcC.calls bf n true _ A1.out).mono ?_); rintro e w10 ⟨rfl, hb⟩; refine ⟨_, rfl, ?_⟩; have B10 := ak_ (qar B9_.out hb); have BQ10 := ak_ (qar BQ9.out hb); have HB10 := ak_ (qaa (qaa HB4.out HB9.out) hb); clear hz0 hz1 hf0 hf1 qqF qqG qqD qqE B9_ BQ9 HB9 hb; have hz0 := qed B10.out; have hz1 := qbC B10.out; obtain ⟨qqF, qqG, qqD, qqE⟩ := qbG BQ10.out) | (refine gl_ 33 Tryz.func135 #[.agg #[.string bf, .int .i64 n]] rfl qbZ ?_; (refine (qbJ.calls bf n txt _ A2.out).mono ?_); rintro e w11 ⟨rfl, hb⟩; refine ⟨_, rfl, ?_⟩; have B11 := ak_ (qar B10.out hb); have BQ11 := ak_ (qar BQ10.out hb); have HB11 := ak_ (qaa HB10.out hb); clear hz0 hz1 qqF qqG qqD qqE hb; have hz0 := qed B11.out; have hz1 := qbC B11.out; obtain ⟨qqF, qqG, qqD, qqE⟩ := qbG BQ11.out))
     refine bodyPost_ret (qb4 (rs := [.cell 2 99, .tmp 3]) rfl (by simp) (.cell gQ 99 #[.string bf, .int .i64 n] (0, 0) _ rfl (qbl (cs' := #[.string bf, .int .i64 n]) (qbl (cs' := #[.string bf, .int .i64 0]) BQ11.out 0 _ rfl) 1 _ rfl) Tryz.underlying99 rfl (by kernel_rfl) (.tmp .nil))) rfl ?_; exact ⟨rfl, qas (qas HB11.out (by have h_ := GQ.out; omega)) (by have h_ := GQ.out; omega)⟩
    rw [if_neg hx] at h; obtain ⟨rfl, rfl, rfl⟩ := qfJ h; have hxb : (txt.toList != a0.toList) = true := bne_iff_ne.2 hx; have hxc : (txt.toList == a0.toList) = false := beq_eq_false_iff_ne.2 hx; clear hx; go_enter Tryz.func74, Tryz.ntmps74
    go_wp2_with (first | ((with_reducible refine qal (N := 2) rfl ?_); refine bx_ 2 rfl (cs := #[.string (⟨#[]⟩ : ByteArray), .int .i64 0]) (t := 99) qbe ?_; intro gQ hg w1 hbox hb; have BQ1 := ak_ hbox; have HB1 := ak_ hb; have GQ := ak_ (show w.heap.size ≤ gQ by rw [hg]; exact Nat.le_refl _); have HG1 := ak_ (qfi.below HG.out hb); clear hbox hb hg) | (refine gl_ 12 Tryz.func90 #[.string a0, .string ⟨#[58]⟩] rfl qbZ ?_; (refine (qme a0 _ (by have := HS.out; omega) HG1.out).mono ?_); rintro e w2 ⟨rfl, hb⟩; refine ⟨_, rfl, ?_⟩; have BQ2 := ak_ (qar BQ1.out hb); have HB2 := ak_ (qaa HB1.out hb); have HG2 := ak_ (qfi.below HG1.out hb); clear hb BQ1 HB1 HG1; rw [← HBF.out, ← HNB.out]) | (refine gl_ 18 Tryz.func122 #[.string nb] rfl qbZ ?_; (refine (qf0 nb _ (by have := HS.out; have := HNL.out; omega) HG2.out).mono ?_); rintro e w4 ⟨n, ev, rfl, hc_, hb⟩; refine ⟨_, rfl, ?_⟩; have BQ4 := ak_ (qar BQ2.out hb); have HB4 := ak_ (qaa HB2.out hb); obtain ⟨rfl, rfl⟩ : n = v ∧ ev = .nilIface := (by rcases hc_ with ⟨h1_, h2_⟩ | ⟨h1_, -⟩; exact ⟨by rw [HV.out] at h1_; injection h1_ with h1_; exact h1_.symm, h2_⟩; exact absurd HV.out (h1_ v)); clear hc_; clear hb BQ2 HB2 HG2) | ((with_reducible refine qal (N := 9) rfl ?_); refine bx_ 9 rfl (cs := #[.string (⟨#[]⟩ : ByteArray), .int .i64 0]) (t := 99) qbe ?_; intro g9 hg w9 hbox hb; have B9_ := ak_ (show ((w9.setCell ⟨g9, 0, none⟩ (.string bf)).setCell ⟨g9, 1, none⟩ (.int .i64 n)).heap[g9]? = _ from qbl (cs' := #[.string bf, .int .i64 n]) (qbl (cs' := #[.string bf, .int .i64 0]) hbox 0 (.string bf) rfl) 1 (.int .i64 n) rfl); have HB9 := ak_ (show Below w4.heap.size w4 ((w9.setCell ⟨g9, 0, none⟩ (.string bf)).setCell ⟨g9, 1, none⟩ (.int .i64 n)) from qas (qas hb (Nat.le_of_eq hg.symm)) (Nat.le_of_eq hg.symm)); have BQ9 := ak_ (qar BQ4.out HB9.out); have hz0 : w9.cell? ⟨g9, 0, none⟩ = some (.string (⟨#[]⟩ : ByteArray)) := (qba hbox 0).trans rfl; have hz1 : w9.cell? ⟨g9, 1, none⟩ = some (.int .i64 0) := (qba hbox 1).trans rfl; have hf0 := qad hbox 0; have hf1 := qad hbox 1; have hne : gQ ≠ g9 := (by rw [hg]; exact Nat.ne_of_lt (qdU BQ4.out)); have hne' : ¬ g9 = gQ := fun e_ => hne e_.symm; have qqF : w9.cell? ⟨gQ, 0, none⟩ = some (.string (⟨#[]⟩ : ByteArray)) := (qba (qar BQ4.out hb) 0).trans rfl; have qqG : w9.cell? ⟨gQ, 1, none⟩ = some (.int .i64 0) := (qba (qar BQ4.out hb) 1).trans rfl; have qqD := qad (qar BQ4.out hb) 0; have qqE := qad (qar BQ4.out hb) 1; clear hbox hb hg) | (refine gl_ 28 Tryz.func134 #[.agg #[.string bf, .int .i64 n]] rfl qbZ ?_; (refine (qcC.calls bf n true _ A1.out).mono ?_); rintro e w10 ⟨rfl, hb⟩; refine ⟨_, rfl, ?_⟩; have B10 := ak_ (qar B9_.out hb); have BQ10 := ak_ (qar BQ9.out hb); have HB10 := ak_ (qaa (qaa HB4.out HB9.out) hb); clear hz0 hz1 hf0 hf1 qqF qqG qqD qqE B9_ BQ9 HB9 hb; have hz0 := qed B10.out; have hz1 := qbC B10.out; obtain ⟨qqF, qqG, qqD, qqE⟩ := qbG BQ10.out) | (refine gl_ 33 Tryz.func135 #[.agg #[.string bf, .int .i64 n]] rfl qbZ ?_; (refine (qbJ.calls bf n txt _ A2.out).mono ?_); rintro e w11 ⟨rfl, hb⟩; refine ⟨_, rfl, ?_⟩; have B11 := ak_ (qar B10.out hb); have BQ11 := ak_ (qar BQ10.out hb); have HB11 := ak_ (qaa HB10.out hb); clear hz0 hz1 qqF qqG qqD qqE hb; have hz0 := qed B11.out; have hz1 := qbC B11.out; obtain ⟨qqF, qqG, qqD, qqE⟩ := qbG BQ11.out))
    refine bodyPost_ret (qb4 (rs := [.cell 2 99, .tmp 3]) rfl (by simp) (.cell gQ 99 #[.string (⟨#[]⟩ : ByteArray), .int .i64 0] (0, 0) _ rfl (qbl (cs' := #[.string (⟨#[]⟩ : ByteArray), .int .i64 0]) (qbl (cs' := #[.string (⟨#[]⟩ : ByteArray), .int .i64 0]) BQ11.out 0 _ rfl) 1 _ rfl) Tryz.underlying99 rfl (by kernel_rfl) (.tmp .nil))) rfl ?_; exact ⟨rfl, qas (qas HB11.out (by have h_ := GQ.out; omega)) (by have h_ := GQ.out; omega)⟩
def qo2 : Go.Shelf.Ren := ⟨fun | 146 => 68 | 221 => 121 | 268 => 180 | 138 => 181 | 143 => 67 | 195 => 217 | 197 => 218 | 218 => 219 | 219 => 120 | 260 => 248 | 217 => 176 | 225 => 177 | 224 => 178 | 267 => 179 | 266 => 215 | 314 => 216 | n => n, fun | 9 => 9 | 31 => 43 | 3 => 3 | 4 => 4 | 0 => 0 | 105 => 182 | 21 => 21 | 5 => 5 | 46 => 165 | 119 => 221 | 139 => 224 | 138 => 223 | 146 => 180 | 51 => 179 | n => n, fun | 1 => 0 | 3 => 4 | 4 => 5 | n => n⟩
theorem lays146 : Go.Proofs.Lays.n146 Tryz.prog qo2 := {
  mixed := by kernel_rfl
  f138 := cs_ Tryz.func181
  f143 := cs_ Tryz.func67
  f146 := cs_ Tryz.func68
  f195 := cs_ Tryz.func217
  f197 := cs_ Tryz.func218
  f217 := cs_ Tryz.func176
  f218 := cs_ Tryz.func219
  f219 := cs_ Tryz.func120
  f221 := cs_ Tryz.func121
  f224 := cs_ Tryz.func178
  f225 := cs_ Tryz.func177
  f260 := cs_ Tryz.func248
  f266 := cs_ Tryz.func215
  f267 := cs_ Tryz.func179
  f268 := cs_ Tryz.func180
  f314 := cs_ Tryz.func216
  t0 := Tryz.underlying0
  a0 := Tryz.isAgg0
  z0 := Tryz.sizeOf0
  v0 := Tryz.zeroValue0
  t3 := Tryz.underlying3
  a3 := Tryz.isAgg3
  z3 := Tryz.sizeOf3
  v3 := Tryz.zeroValue3
  t4 := Tryz.underlying4
  a4 := Tryz.isAgg4
  z4 := Tryz.sizeOf4
  v4 := Tryz.zeroValue4
  t5 := Tryz.underlying5
  a5 := Tryz.isAgg5
  z5 := Tryz.sizeOf5
  v5 := Tryz.zeroValue5
  t9 := Tryz.underlying9
  a9 := Tryz.isAgg9
  z9 := Tryz.sizeOf9
  v9 := Tryz.zeroValue9
  t21 := Tryz.underlying21
  a21 := Tryz.isAgg21
  z21 := Tryz.sizeOf21
  v21 := Tryz.zeroValue21
  t31 := Tryz.underlying43
  a31 := Tryz.isAgg43
  z31 := Tryz.sizeOf43
  v31 := Tryz.zeroValue43
  t46 := Tryz.underlying165
  a46 := Tryz.isAgg165
  z46 := Tryz.sizeOf165
  v46 := Tryz.zeroValue165
  t51 := Tryz.underlying179
  a51 := Tryz.isAgg179
  z51 := Tryz.sizeOf179
  v51 := Tryz.zeroValue179
  t105 := Tryz.underlying182
  a105 := Tryz.isAgg182
  z105 := Tryz.sizeOf182
  v105 := Tryz.zeroValue182
  t119 := Tryz.underlying221
  a119 := Tryz.isAgg221
  z119 := Tryz.sizeOf221
  t138 := Tryz.underlying223
  a138 := Tryz.isAgg223
  z138 := Tryz.sizeOf223
  v138 := Tryz.zeroValue223
  t139 := Tryz.underlying224
  a139 := Tryz.isAgg224
  z139 := Tryz.sizeOf224
  v139 := Tryz.zeroValue224
  t146 := Tryz.underlying180
  a146 := Tryz.isAgg180
  z146 := Tryz.sizeOf180
  v146 := Tryz.zeroValue180
  g1 := by kernel_rfl
  g3 := by kernel_rfl
  g4 := by kernel_rfl }
def qbb (w : World) : Prop := qfi w ∧ Lib.TabIs Tryz.prog w "internal/strconv.uint64pow10" .u64 Lib.pow10Tab
theorem qbb.below {w w' : World} (h : qbb w) (hb : Below w.heap.size w w') : qbb w' := by
  refine ⟨h.1.below hb, ?_⟩; have h2 := h.2; unfold Lib.TabIs World.var? at h2 ⊢
  cases hg : Tryz.prog.globalNamed "internal/strconv.uint64pow10" with
  | none => rw [hg] at h2; cases h2
  | some g =>
    rw [hg] at h2; simp only [Option.bind_some] at h2 ⊢
    have hlt : g < w.heap.size := by
      rcases Nat.lt_or_ge g w.heap.size with h' | h'
      ·exact h'
      rw [Array.getElem?_eq_none h'] at h2; cases h2
    rw [hb.block g hlt]; exact h2
theorem qqq (xs : List ByteArray) (w : World) (hl : xs.length ≤ 9223372036854775807) :
    Kd.R Kd.string 9 (w.alloc (.cells (xs.map Value.string).toArray 9)) w.heap.size (fun _ => True) (.slice (some ⟨w.heap.size, 0, none⟩) xs.length xs.length) xs :=
  Kd.qpx (qqT (enc := Value.string) w w.heap.size 9 xs (Nat.le_refl _) hl) (fun _ _ => trivial)
theorem qdd (s : ByteArray) (sep : ByteArray) (w : World) (hs : s.size < 4294967281) (h1 : sep.size = 1) (hG : qbb w) :
    Calls Tryz.prog 68 #[.string s, .string sep] w fun e w' => ∃ v_, e = .returned v_ ∧ Kd.R Kd.string 9 w' w.heap.size (fun _ => True) v_ (Lib.splitB sep 0 (Lib.countB s sep) s) ∧ Below w.heap.size w w' := by
  obtain ⟨⟨⟨m, hm⟩, -⟩, -⟩ := hG; refine (Any.strings_Split lays146 (by kernel_rfl) s sep m w hs hm (by omega)).mono ?_; rintro e w' ⟨rfl, rfl⟩; have hle := Lib.countB_le sep (by omega) s.size s (Nat.le_refl _); have hlen := Lib.splitB_all sep (by omega) 0 _ s rfl; have h := qqq (Lib.splitB sep 0 (Lib.countB s sep) s) w (by omega); rw [hlen] at h; exact ⟨_, rfl, h, qai (Below.refl _ _) _⟩
def qbm.f (a0 : Int) : Option ByteArray := if -9223372036854775808 ≤ a0 ∧ a0 ≤ 9223372036854775807 then some ⟨(Lib.itoa a0).toArray⟩ else none
theorem qbm.calls (a0 : Int) (r : ByteArray) (w : World) (h : qbm.f a0 = some r) (hG : qbb w) :
    Calls Tryz.prog 87 #[.int .i64 a0] w fun e w' => e = .returned (.string r) ∧ Below w.heap.size w w' := by
  unfold qbm.f at h; by_cases hc : -9223372036854775808 ≤ a0 ∧ a0 ≤ 9223372036854775807; rotate_left
  ·rw [if_neg hc] at h; exact absurd h (by simp)
  rw [if_pos hc] at h; obtain rfl := Option.some.inj h; refine (Any.strconv_Itoa qsO a0 hc.1 hc.2 w hG.2).mono ?_; rintro e w' ⟨rfl, k, os, rfl⟩; exact ⟨rfl, ⟨rfl, rfl, rfl, by simp [Go.Sort.grow], fun i hi => by simp only [Go.Sort.grow]; rw [Array.getElem?_append_left (by exact hi)]; rfl⟩⟩
inductive Cmd
  | cMirror
  | cTidy
  | cShow
  | cLeft
  | cCount
  | cPeriod
  | cSpokes
  | cSteps
  | cDrop
  | cMost
  | cMove
  | cPrimes
  | cRank
  | cFactors
  | cPi
  | cDivisors
  | cTotient
  | cPattern
  | cRules
  | cAdd
  | cAnswer
def Cmd.bytes : Cmd → List UInt8
  | .cMirror => [109, 105, 114, 114, 111, 114]
  | .cTidy => [116, 105, 100, 121]
  | .cShow => [115, 104, 111, 119]
  | .cLeft => [108, 101, 102, 116]
  | .cCount => [99, 111, 117, 110, 116]
  | .cPeriod => [112, 101, 114, 105, 111, 100]
  | .cSpokes => [115, 112, 111, 107, 101, 115]
  | .cSteps => [115, 116, 101, 112, 115]
  | .cDrop => [100, 114, 111, 112]
  | .cMost => [109, 111, 115, 116]
  | .cMove => [109, 111, 118, 101]
  | .cPrimes => [112, 114, 105, 109, 101, 115]
  | .cRank => [114, 97, 110, 107]
  | .cFactors => [102, 97, 99, 116, 111, 114, 115]
  | .cPi => [112, 105]
  | .cDivisors => [100, 105, 118, 105, 115, 111, 114, 115]
  | .cTotient => [116, 111, 116, 105, 101, 110, 116]
  | .cPattern => [112, 97, 116, 116, 101, 114, 110]
  | .cRules => [114, 117, 108, 101, 115]
  | .cAdd => [97, 100, 100]
  | .cAnswer => [97, 110, 115, 119, 101, 114]
def Cmd.word (c : Cmd) : ByteArray := ⟨c.bytes.toArray⟩
def Cmd.kind : Cmd → List UInt8
  | .cMirror => []
  | .cTidy => []
  | .cShow => []
  | .cLeft => []
  | .cCount => []
  | .cPeriod => []
  | .cSpokes => []
  | .cSteps => []
  | .cDrop => [110]
  | .cMost => [110]
  | .cMove => [110]
  | .cPrimes => [110]
  | .cRank => [110]
  | .cFactors => [110]
  | .cPi => [110]
  | .cDivisors => [110]
  | .cTotient => [110]
  | .cPattern => [110]
  | .cRules => [114]
  | .cAdd => [114]
  | .cAnswer => [115]
def Cmd.all : List Cmd := [.cMirror, .cTidy, .cShow, .cLeft, .cCount, .cPeriod, .cSpokes, .cSteps, .cDrop, .cMost, .cMove, .cPrimes, .cRank, .cFactors, .cPi, .cDivisors, .cTotient, .cPattern, .cRules, .cAdd, .cAnswer]
theorem Cmd.mem (c : Cmd) : c ∈ Cmd.all := by cases c <;> simp [Cmd.all]
def qht (x : ByteArray) : Option Cmd := Cmd.all.find? fun c => c.bytes == x.data.toList
theorem word_eq (c : Cmd) (x : ByteArray) (h : c.bytes = x.data.toList) : x = c.word := by
  unfold Cmd.word; rw [h]
theorem qhM {x : ByteArray} {c : Cmd} (h : qht x = some c) : x = c.word := word_eq c x (beq_iff_eq.1 (List.find?_some (p := fun c : Cmd => c.bytes == x.data.toList) h))
theorem qlo {x : ByteArray} (h : qht x = none) (c : Cmd) : (x.toList == c.bytes) = false := by
  have := List.find?_eq_none.1 h c (Cmd.mem c); rw [Lib.toList_data]
  exact beq_eq_false_iff_ne.2 fun e => this (beq_iff_eq.2 e.symm)
def qbF.f (x : ByteArray) : Option (ByteArray × Bool) := match qht x with
  | some c => some (⟨c.kind.toArray⟩, true)
  | none => some (⟨#[]⟩, false)
theorem qbF.calls (x : ByteArray) (r1 : ByteArray) (r2 : Bool) (w : World) (h : qbF.f x = some (r1, r2)) :
    Calls Tryz.prog 69 #[.string x] w fun e w' => e = .returned (.tuple #[.string r1, .bool r2]) ∧ Below w.heap.size w w' := by
  unfold qbF.f at h
  cases hc : qht x with
  | some c =>
    rw [hc] at h; obtain ⟨rfl, rfl⟩ := qdF h; obtain rfl := qhM hc; clear hc
    cases c <;> (simp only [Cmd.word, Cmd.bytes, Cmd.kind]; go_enter Tryz.func69, Tryz.ntmps69; go_wp2; go_ret2; exact ⟨rfl, Below.refl _ _⟩)
  | none =>
    rw [hc] at h; obtain ⟨rfl, rfl⟩ := qdF h; have HN := qlo hc; clear hc; have n0 : (x.toList == ([109, 105, 114, 114, 111, 114] : List UInt8)) = false := HN .cMirror; have n1 : (x.toList == ([116, 105, 100, 121] : List UInt8)) = false := HN .cTidy; have n2 : (x.toList == ([115, 104, 111, 119] : List UInt8)) = false := HN .cShow; have n3 : (x.toList == ([108, 101, 102, 116] : List UInt8)) = false := HN .cLeft; have n4 : (x.toList == ([99, 111, 117, 110, 116] : List UInt8)) = false := HN .cCount; have n5 : (x.toList == ([112, 101, 114, 105, 111, 100] : List UInt8)) = false := HN .cPeriod; have n6 : (x.toList == ([115, 112, 111, 107, 101, 115] : List UInt8)) = false := HN .cSpokes; have n7 : (x.toList == ([115, 116, 101, 112, 115] : List UInt8)) = false := HN .cSteps; have n8 : (x.toList == ([100, 114, 111, 112] : List UInt8)) = false := HN .cDrop; have n9 : (x.toList == ([109, 111, 115, 116] : List UInt8)) = false := HN .cMost; have n10 : (x.toList == ([109, 111, 118, 101] : List UInt8)) = false := HN .cMove; have n11 : (x.toList == ([112, 114, 105, 109, 101, 115] : List UInt8)) = false := HN .cPrimes; have n12 : (x.toList == ([114, 97, 110, 107] : List UInt8)) = false := HN .cRank; have n13 : (x.toList == ([102, 97, 99, 116, 111, 114, 115] : List UInt8)) = false := HN .cFactors; have n14 : (x.toList == ([112, 105] : List UInt8)) = false := HN .cPi; have n15 : (x.toList == ([100, 105, 118, 105, 115, 111, 114, 115] : List UInt8)) = false := HN .cDivisors; have n16 : (x.toList == ([116, 111, 116, 105, 101, 110, 116] : List UInt8)) = false := HN .cTotient; have n17 : (x.toList == ([112, 97, 116, 116, 101, 114, 110] : List UInt8)) = false := HN .cPattern; have n18 : (x.toList == ([114, 117, 108, 101, 115] : List UInt8)) = false := HN .cRules; have n19 : (x.toList == ([97, 100, 100] : List UInt8)) = false := HN .cAdd; have n20 : (x.toList == ([97, 110, 115, 119, 101, 114] : List UInt8)) = false := HN .cAnswer; clear HN; go_enter Tryz.func69, Tryz.ntmps69; go_wp2
    go_ret2
    exact ⟨rfl, Below.refl _ _⟩
theorem qib (p : qac → Bool) : ∀ (l : List qac) (i : Int), 0 ≤ i → decide (0 ≤ qd5 p l i) = l.any p
  | [], _, _ => by simp [qd5]
  | x :: l, i, hi => by
    rw [qd5, List.any_cons]
    cases hx : p x with
    | true => simp [hi]
    | false => simpa using qib p l (i + 1) (by omega)
set_option maxHeartbeats 2000000 in
theorem qrL (p : qac → Bool) (g : Nat) (lb : Array Value) (eg : ∀ args w, (callFunc g args).run Tryz.prog w = .ok (.enter g args) w)
    (A0 : Option Addr) (c0 : Nat) (l0 : List qac) (w : World) (hp : PredR g lb p l0 w) (hr0 : Kd.C qaL w A0 l0.length l0) :
    Calls Tryz.prog 84 #[.slice A0 l0.length c0, .func (.func g) #[] lb] w fun e w' => e = .returned (.bool (l0.any p)) ∧ Below w.heap.size w w' := by
  rw [← qib p l0 0 (by omega)]; have hcall := qnw p g lb eg A0 c0 l0 w hp hr0; go_enter Tryz.func84, Tryz.ntmps84
  go_wp2_with (go_at_call 145; refine hcall.mono ?_; rintro e w' ⟨rfl, hb'⟩)
  go_ret
  exact ⟨rfl, hb'⟩
def qfa.f (qbP : Int) (qcz : Int) : Option (Bool) := if qbP ≥ 2 then (if qbP ≤ 60 then (if qcz ≥ 0 then (some (decide (qcz < qbP))) else (some false)) else (some false)) else (some false)
theorem qfa.calls (qbP : Int) (qcz : Int) (r : Bool) (w : World) (h : qfa.f qbP qcz = some r) :
  Calls Tryz.prog 86 #[.agg #[.int .i64 qbP, .int .i64 qcz]] w fun e w' => e = .returned (.bool r) ∧ Below w.heap.size w w' := by
 have qmM := Tryz.underlying85; have HB := br_ w; have H : (if qbP ≥ 2 then (if qbP ≤ 60 then (if qcz ≥ 0 then (some (decide (qcz < qbP))) else (some false)) else (some false)) else (some false)) = some r := h; clear h; by_cases c2 : qbP ≥ 2; rotate_left
 ·rw [if_neg c2] at H; have qfr : decide (2 ≤ qbP) = false := decide_eq_false c2; clear c2; obtain rfl := sj_ H; go_enter Tryz.func86, Tryz.ntmps86
  go_wp2_with (first | ((with_reducible refine qal (N := 1) rfl ?_); refine bx_ 1 rfl (cs := #[.int .i64 qbP, .int .i64 qcz]) (t := 85) qbe ?_; intro qb6 hg w11 hbox hb; have qaG := ak_ (hbox); have qeO := ak_ (HB.ge hg); have qem := ak_ (HB.ge hg); replace HB := HB.mw hb; clear hb hbox hg; obtain ⟨qoD, qoE, qoK, qoL⟩ := qbG qaG.out))
  go_ret
  exact ⟨qcf, qds⟩
 rw [if_pos c2] at H; have qfr : decide (2 ≤ qbP) = true := decide_eq_true c2; clear c2; by_cases c3 : qbP ≤ 60; rotate_left
 ·rw [if_neg c3] at H; have qfk := decide_eq_false c3; clear c3; obtain rfl := sj_ H; go_enter Tryz.func86, Tryz.ntmps86
  go_wp2_with (first | ((with_reducible refine qal (N := 1) rfl ?_); refine bx_ 1 rfl (cs := #[.int .i64 qbP, .int .i64 qcz]) (t := 85) qbe ?_; intro qb6 hg w9 hbox hb; have qaG := ak_ (hbox); have qeO := ak_ (HB.ge hg); have qem := ak_ (HB.ge hg); replace HB := HB.mw hb; clear hb hbox hg; obtain ⟨qoB, qoC, qoI, qoJ⟩ := qbG qaG.out))
  go_ret
  exact ⟨qcf, qds⟩
 rw [if_pos c3] at H; have qfk := decide_eq_true c3; clear c3; by_cases c4 : qcz ≥ 0
 ·rw [if_pos c4] at H; have qfx : decide (0 ≤ qcz) = true := decide_eq_true c4; clear c4; obtain rfl := sj_ H; go_enter Tryz.func86, Tryz.ntmps86
  go_wp2_with (first | ((with_reducible refine qal (N := 1) rfl ?_); refine bx_ 1 rfl (cs := #[.int .i64 qbP, .int .i64 qcz]) (t := 85) qbe ?_; intro qb6 hg w5 hbox hb; have qaG := ak_ (hbox); have qeO := ak_ (HB.ge hg); have qem := ak_ (HB.ge hg); replace HB := HB.mw hb; clear hb hbox hg; obtain ⟨qkg, qkh, qkm, qkn⟩ := qbG qaG.out))
  go_ret
  exact ⟨qcf, qds⟩
 rw [if_neg c4] at H; have qfx : decide (0 ≤ qcz) = false := decide_eq_false c4; clear c4; obtain rfl := sj_ H; go_enter Tryz.func86, Tryz.ntmps86
 go_wp2_with (first | ((with_reducible refine qal (N := 1) rfl ?_); refine bx_ 1 rfl (cs := #[.int .i64 qbP, .int .i64 qcz]) (t := 85) qbe ?_; intro qb6 hg w7 hbox hb; have qaG := ak_ (hbox); have qeO := ak_ (HB.ge hg); have qem := ak_ (HB.ge hg); replace HB := HB.mw hb; clear hb hbox hg; obtain ⟨qno, qnp, qnq, qnr⟩ := qbG qaG.out))
 go_ret
 exact ⟨qcf, qds⟩
def qeS.f (qbP : Int) (qcz : Int) : Option (Bool) := (qfa.f qbP qcz).bind fun qaR => (some (!qaR))
theorem qeS.calls (qbP : Int) (qcz : Int) (r : Bool) (w : World) (h : qeS.f qbP qcz = some r) :
  Calls Tryz.prog 85 #[.agg #[.int .i64 qbP, .int .i64 qcz]] w fun e w' => e = .returned (.bool r) ∧ Below w.heap.size w w' := by
 have qmM := Tryz.underlying85; have HB := br_ w; have H : ((qfa.f qbP qcz).bind fun qaR => (some (!qaR))) = some r := h; clear h; obtain ⟨qaR, A2, H⟩ := qay H; (try dsimp only at H); obtain rfl := sj_ H; go_enter Tryz.func85, Tryz.ntmps85
 go_wp2_with (first | ((with_reducible refine qal (N := 1) rfl ?_); refine bx_ 1 rfl (cs := #[.int .i64 qbP, .int .i64 qcz]) (t := 85) qbe ?_; intro qb6 hg w3 hbox hb; have qaG := ak_ (hbox); have qeO := ak_ (HB.ge hg); have qem := ak_ (HB.ge hg); replace HB := HB.mw hb; clear hb hbox hg; obtain ⟨hcz4_0, hcz4_1, hfz4_0, hfz4_1⟩ := qbG qaG.out) | (refine gl_ 4 Tryz.func86 #[.agg #[.int .i64 qbP, .int .i64 qcz]] rfl qbK ?_; (with_reducible refine (qfa.calls qbP qcz qaR _ A2.out).mono ?_); rintro e w5 ⟨rfl, hb⟩; refine ⟨_, rfl, ?_⟩; replace qaG := qaG.mw hb; replace HB := ak_ (qaa qds hb); (try clear hb)))
 go_ret
 exact ⟨qcf, qds⟩
def qbD (x : qac) : Bool := decide (2 ≤ x.f0) && (decide (x.f0 ≤ 60) && (decide (0 ≤ x.f1) && decide (x.f1 < x.f0)))
theorem qsI (x : qac) : qfa.f x.f0 x.f1 = some (qbD x) := by
  unfold qfa.f qbD; simp only [ge_iff_le]; by_cases h1 : 2 ≤ x.f0
  ·by_cases h2 : x.f0 ≤ 60
   ·by_cases h3 : 0 ≤ x.f1 <;> simp [h1, h2, h3]
   simp [h1, h2]
  simp [h1]
theorem qll : ∀ l : List qac, l.all qbD = !(l.any fun x => !qbD x)
  | [] => rfl
  | x :: l => by rw [List.all_cons, List.any_cons, qll l]; cases qbD x <;> simp
theorem ql6 (x : qac) : qeS.f x.f0 x.f1 = some (!qbD x) := by
  unfold qeS.f; rw [qsI]
  cases qbD x <;> simp
def qbc.f (l0 : List (qac)) : Option (Bool) := some (decide (l0.length ≤ 12) && l0.all qbD)
set_option maxHeartbeats 2000000 in
theorem qbc.calls (A0 : Option Addr) (c0 : Nat) (l0 : List (qac)) (r : Bool) (w : World) (hr0 : Kd.C qaL w A0 l0.length l0) (hc0 : l0.length ≤ c0) (h : qbc.f l0 = some r) :
    Calls Tryz.prog 53 #[.slice A0 l0.length c0] w fun e w' => e = .returned (.bool r) ∧ Below w.heap.size w w' := by
  obtain rfl := Option.some.inj h; clear h
  have hcall := fun (W : World) (hb : Below w.heap.size w W) => qrL (fun x => !qbD x) 85 #[] (enters_of Tryz.func85 (by kernel_rfl) rfl) A0 c0 l0 W
    (fun W' x _ hb' => (qeS.calls x.f0 x.f1 _ W' (ql6 x)).mono fun e w' ⟨he, hb2⟩ => ⟨he, hb'.trans (hb2.mono hb'.size)⟩) (Kd.qeg hr0 hb)
  have HC := ak_ hcall; have hb0 := Below.refl w.heap.size w; clear hcall hr0; by_cases c2 : l0.length ≤ 12
  ·have d1 := decide_eq_true c2; have d2 : decide ((l0.length : Int) ≤ 12) = true := decide_eq_true (by omega); rw [d1, Bool.true_and, qll]; clear c2; go_enter Tryz.func53, Tryz.ntmps53
   go_wp2_with (go_at_call 84; refine (HC.out _ hb0).mono ?_; rintro e w' ⟨rfl, hb'⟩)
   go_ret
   exact ⟨rfl, hb'⟩
  have d1 := decide_eq_false c2; have d2 : decide ((l0.length : Int) ≤ 12) = false := decide_eq_false (by omega); rw [d1, Bool.false_and]; go_enter Tryz.func53, Tryz.ntmps53; go_wp2
  go_ret
  exact ⟨rfl, hb0⟩
theorem qh9 (s : ByteArray) (c : UInt8) (w : World) (hs : s.size < 4294967281) (hG : qfi w) :
    Calls Tryz.prog 90 #[.string s, .string ⟨#[c]⟩] w fun e w' => e = .returned (.tuple #[.string ⟨(Lib.cut s.data.toList [c]).1.toArray⟩, .string ⟨(Lib.cut s.data.toList [c]).2.1.toArray⟩, .bool (Lib.cut s.data.toList [c]).2.2]) ∧ Below w.heap.size w w' := by
  obtain ⟨⟨m, hm⟩, -⟩ := hG; refine (Any.strings_Cut qsN s ⟨#[c]⟩ m w hs hm).mono ?_; rintro e w' ⟨rfl, n, rfl⟩; exact ⟨rfl, qaf (Below.refl _ _) _⟩
theorem qhr (s : ByteArray) (v : Int) (w : World) (hs : s.size ≤ 281474976710656) (hv : Lib.atoiAll s.data.toList = .ok v) (hG : qfi w) :
    Calls Tryz.prog 122 #[.string s] w fun e w' => e = .returned (.tuple #[.int .i64 v, .nilIface]) ∧ Below w.heap.size w w' := by
  refine (qf0 s w hs hG).mono ?_; rintro e w' ⟨n, ev, rfl, ⟨h1, rfl⟩ | ⟨h1, -⟩, hb⟩
  ·rw [hv] at h1; injection h1 with h1; subst h1; exact ⟨rfl, hb⟩
  exact absurd hv (h1 v)
theorem qj4 (s : ByteArray) (w : World) (hs : s.size ≤ 281474976710656) (hv : ∀ v, Lib.atoiAll s.data.toList ≠ .ok v) (hG : qfi w) :
    Calls Tryz.prog 122 #[.string s] w fun e w' => ∃ (n : Int) (te : TypeId) (pe : Value), e = .returned (.tuple #[.int .i64 n, .iface te pe]) ∧ Below w.heap.size w w' := by
  refine (qf0 s w hs hG).mono ?_; rintro e w' ⟨n, ev, rfl, ⟨h1, -⟩ | ⟨-, te, pe, rfl⟩, hb⟩
  ·exact absurd h1 (hv n)
  exact ⟨n, te, pe, rfl, hb⟩
theorem toList_data (a : ByteArray) : a.toList = a.data.toList := Lib.toList_data a
theorem qmy (a : ByteArray) : a.size = a.data.toList.length := by simp
theorem toList_mk (l : List UInt8) : (⟨l.toArray⟩ : ByteArray).toList = l := by rw [toList_data]
def numOf (s : ByteArray) : Option Int := match Lib.atoiAll s.data.toList with
  | .ok v => if 0 ≤ v ∧ v ≤ 999999 ∧ Lib.itoa v = s.data.toList then some v else none
  | _ => none
theorem qh5 (s : ByteArray) (w : World) (hs : s.size ≤ 281474976710656) (hG : qbb w) :
    Calls Tryz.prog 72 #[.string s] w fun e w' => ∃ (n : Int) (b : Bool), e = .returned (.tuple #[.int .i64 n, .bool b]) ∧ ((b = true ∧ numOf s = some n) ∨ (b = false ∧ numOf s = none)) ∧ Below w.heap.size w w' := by
  have HG := ak_ hG; have HS := ak_ hs; have HB := br_ w; clear hG hs; by_cases hv : ∃ v, Lib.atoiAll s.data.toList = .ok v; rotate_left
  ·have he : ∀ v, Lib.atoiAll s.data.toList ≠ .ok v := fun v h_ => hv ⟨v, h_⟩
   have hn : numOf s = none := by
     unfold numOf
     cases hc : Lib.atoiAll s.data.toList with
     | ok v => exact absurd hc (he v)
     | _ => rfl
   have HV := ak_ he; have HN := ak_ hn; clear he hv hn; go_enter Tryz.func72, Tryz.ntmps72
   go_wp2_with (first | (refine gl_ 8 Tryz.func122 #[.string s] rfl qbZ ?_; (refine (qj4 s _ HS.out HV.out (qbb.below HG.out qan).1).mono ?_); rintro e w2 ⟨n, te, pe, rfl, hb⟩; refine ⟨_, rfl, ?_⟩; replace HB := ak_ (qaa qan hb); clear hb))
   go_ret2
   exact ⟨n, _, rfl, .inr ⟨rfl, HN.out⟩, qan⟩
  obtain ⟨v, hv⟩ := hv
  have hn : numOf s = if 0 ≤ v ∧ v ≤ 999999 ∧ Lib.itoa v = s.data.toList then some v else none := by unfold numOf; rw [hv]
  have HV := ak_ hv; clear hv; by_cases c1 : 0 ≤ v; rotate_left
  ·have c1b := decide_eq_false c1; rw [if_neg (fun h_ => c1 h_.1)] at hn; have HN := ak_ hn; clear hn c1; go_enter Tryz.func72, Tryz.ntmps72
   go_wp2_with (first | (refine gl_ 8 Tryz.func122 #[.string s] rfl qbZ ?_; (refine (qhr s v _ HS.out HV.out (qbb.below HG.out qan).1).mono ?_); rintro e w2 ⟨rfl, hb⟩; refine ⟨_, rfl, ?_⟩; replace HB := ak_ (qaa qan hb); clear hb))
   go_ret2
   exact ⟨v, _, rfl, .inr ⟨rfl, HN.out⟩, qan⟩
  have c1b := decide_eq_true c1; by_cases c2 : v ≤ 999999; rotate_left
  ·have c2b := decide_eq_false c2; rw [if_neg (fun h_ => c2 h_.2.1)] at hn; have HN := ak_ hn; clear hn c2; go_enter Tryz.func72, Tryz.ntmps72
   go_wp2_with (first | (refine gl_ 8 Tryz.func122 #[.string s] rfl qbZ ?_; (refine (qhr s v _ HS.out HV.out (qbb.below HG.out qan).1).mono ?_); rintro e w2 ⟨rfl, hb⟩; refine ⟨_, rfl, ?_⟩; replace HB := ak_ (qaa qan hb); clear hb))
   go_ret2
   exact ⟨v, _, rfl, .inr ⟨rfl, HN.out⟩, qan⟩
  have c2b := decide_eq_true c2; by_cases c3 : Lib.itoa v = s.data.toList
  ·rw [if_pos ⟨c1, c2, c3⟩] at hn; have HN := ak_ hn; clear hn
   obtain ⟨tx, htx⟩ : ∃ x : ByteArray, x = ⟨(Lib.itoa v).toArray⟩ := ⟨_, rfl⟩
   have HT := ak_ (show qbm.f v = some tx from by unfold qbm.f; rw [if_pos (by omega), htx])
   have hxd : tx.toList = Lib.itoa v := by rw [htx]; exact toList_mk _
   have hxc : (tx.toList == s.toList) = true := beq_iff_eq.2 (by rw [hxd, c3, toList_data]); clear c3 htx hxd; go_enter Tryz.func72, Tryz.ntmps72
   go_wp2_with (first | (refine gl_ 8 Tryz.func122 #[.string s] rfl qbZ ?_; (refine (qhr s v _ HS.out HV.out (qbb.below HG.out qan).1).mono ?_); rintro e w2 ⟨rfl, hb⟩; refine ⟨_, rfl, ?_⟩; replace HB := ak_ (qaa qan hb); clear hb) | (refine gl_ 24 Tryz.func87 #[.int .i64 v] rfl qbZ ?_; (refine (qbm.calls v tx _ HT.out (qbb.below HG.out qan)).mono ?_); rintro e w3 ⟨rfl, hb⟩; refine ⟨_, rfl, ?_⟩; replace HB := ak_ (qaa qan hb); clear hb))
   go_ret2
   exact ⟨v, _, rfl, .inl ⟨rfl, HN.out⟩, qan⟩
  rw [if_neg (fun h_ => c3 h_.2.2)] at hn; have HN := ak_ hn; clear hn
  obtain ⟨tx, htx⟩ : ∃ x : ByteArray, x = ⟨(Lib.itoa v).toArray⟩ := ⟨_, rfl⟩
  have HT := ak_ (show qbm.f v = some tx from by unfold qbm.f; rw [if_pos (by omega), htx])
  have hxd : tx.toList = Lib.itoa v := by rw [htx]; exact toList_mk _
  have hxc : (tx.toList == s.toList) = false := beq_eq_false_iff_ne.2 (fun h_ => c3 (by rw [← hxd, h_, toList_data])); clear c3 htx hxd; go_enter Tryz.func72, Tryz.ntmps72
  go_wp2_with (first | (refine gl_ 8 Tryz.func122 #[.string s] rfl qbZ ?_; (refine (qhr s v _ HS.out HV.out (qbb.below HG.out qan).1).mono ?_); rintro e w2 ⟨rfl, hb⟩; refine ⟨_, rfl, ?_⟩; replace HB := ak_ (qaa qan hb); clear hb) | (refine gl_ 24 Tryz.func87 #[.int .i64 v] rfl qbZ ?_; (refine (qbm.calls v tx _ HT.out (qbb.below HG.out qan)).mono ?_); rintro e w3 ⟨rfl, hb⟩; refine ⟨_, rfl, ?_⟩; replace HB := ak_ (qaa qan hb); clear hb))
  go_ret2
  exact ⟨v, _, rfl, .inr ⟨rfl, HN.out⟩, qan⟩
def qfZ (x : ByteArray) : Option qac := match Lib.atoiAll (Lib.cut x.data.toList [58]).1, Lib.atoiAll (Lib.cut x.data.toList [58]).2.1 with
  | .ok a, .ok b => some ⟨a, b⟩
  | _, _ => none
def qdJ : List ByteArray → Option (List qac)
  | [] => some []
  | x :: l => (qfZ x).bind fun r => (qdJ l).bind fun t => some (r :: t)
theorem qh7 : ∀ (l : List ByteArray) (x : ByteArray) (a : List qac) (r : qac), qdJ l = some a → qfZ x = some r → qdJ (l ++ [x]) = some (a ++ [r])
  | [], x, a, r, h, hx => by obtain rfl := Option.some.inj h; simp [qdJ, hx]
  | y :: l, x, a, r, h, hx => by
    obtain ⟨b, hb, h⟩ := Option.bind_eq_some_iff.1 h; obtain ⟨c, hc, h⟩ := Option.bind_eq_some_iff.1 h; obtain rfl := Option.some.inj h
    simp [qdJ, hb, qh7 l x c r hc hx]
theorem qh6 : ∀ (l : List ByteArray) (i : Nat) (x : ByteArray), l[i]? = some x → qfZ x = none → qdJ l = none
  | y :: l, 0, x, h, hx => by obtain rfl : y = x := by simpa using h
                              simp [qdJ, hx]
  | y :: l, i + 1, x, h, hx => by
    have := qh6 l i x (by simpa using h) hx; unfold qdJ; rw [this]
    cases qfZ y <;> rfl
theorem qhc : ∀ (l : List ByteArray) (a : List qac), qdJ l = some a → a.length = l.length
  | [], a, h => by obtain rfl := Option.some.inj h; rfl
  | y :: l, a, h => by
    obtain ⟨b, hb, h⟩ := Option.bind_eq_some_iff.1 h; obtain ⟨c, hc, h⟩ := Option.bind_eq_some_iff.1 h; obtain rfl := Option.some.inj h
    simp [qhc l c hc]
theorem qjb (sep : ByteArray) : ∀ (k : Nat) (s x : ByteArray), x ∈ Lib.splitB sep 0 k s → x.size ≤ s.size
  | 0, s, x, h => by rw [Lib.splitB_zero, List.mem_singleton] at h; rw [h]; exact Nat.le_refl _
  | k + 1, s, x, h => by
    unfold Lib.splitB at h; split at h
    ·rw [List.mem_singleton] at h; rw [h]; exact Nat.le_refl _
    rcases List.mem_cons.1 h with h | h
    ·rw [h, ByteArray.size_extract]; omega
    have := qjb sep k _ x h; rw [ByteArray.size_extract] at this; omega
def qgz (c : UInt8) (s : ByteArray) : List ByteArray := Lib.splitB ⟨#[c]⟩ 0 (Lib.countB s ⟨#[c]⟩) s
theorem qlg (c : UInt8) (s : ByteArray) : (qgz c s).length ≤ s.size + 1 := by
  unfold qgz; rw [Lib.splitB_all ⟨#[c]⟩ (Nat.le_refl 1) 0 _ s rfl]; have := Lib.countB_le ⟨#[c]⟩ (Nat.le_refl 1) s.size s (Nat.le_refl _); omega
def qaW.l0 (k : Nat) (s : ByteArray) (l : List qac) : Option (List qac × Bool) := (qbc.f l).bind fun t => if t = true then ((qaF.f k l).bind fun txt => if txt.toList = s.toList then some (l, true) else some ([], false)) else some ([], false)
def qaW.f (k : Nat) (s : ByteArray) : Option (List qac × Bool) := if s.size ≤ 1048576 then (if s.toList = [45] then qaW.l0 k s [] else (match qdJ (qgz 44 s) with
  | none => some ([], false)
  | some l => qaW.l0 k s l)) else none
theorem cut_len1 (s : List UInt8) (sep : List UInt8) : (Lib.cut s sep).1.length ≤ s.length := by
  unfold Lib.cut; split
  ·simp only [List.length_take]; omega
  simp
theorem qaW.calls (k : Nat) (s : ByteArray) (r1 : List qac) (r2 : Bool) (w : World) (h : qaW.f k s = some (r1, r2)) (hG : qbb w) :
    Calls Tryz.prog 70 #[.string s] w fun e w' => ∃ v0_ : Value, e = .returned (.tuple #[v0_, .bool r2]) ∧ Kd.R qaL 85 w' w.heap.size (fun _ => True) v0_ r1 ∧ Below w.heap.size w w' := by
  have hu50 := Tryz.underlying85; have HG := ak_ hG; have HB := br_ w; clear hG; unfold qaW.f at h; by_cases hs : s.size ≤ 1048576; rotate_left
  ·rw [if_neg hs] at h; exact absurd h (by simp)
  rw [if_pos hs] at h; have HS := ak_ hs; by_cases hd : s.toList = [45]
  ·rw [if_pos hd] at h; have hdb : (s.toList != [45]) = false := bne_eq_false_iff_eq.2 hd; have hdc : (s.toList == [45]) = true := beq_iff_eq.2 hd; clear hd hs
   obtain ⟨l, hl⟩ : ∃ l : List qac, l = [] := ⟨_, rfl⟩
   rw [← hl] at h; have HL := ak_ hl; clear hl; have H : (qaW.l0 k s l) = some (r1, r2) := h; unfold qaW.l0 at H; clear h; obtain ⟨t, A1, H⟩ := qay H
   cases t with
   | false =>
     rw [if_neg (by decide)] at H; obtain ⟨rfl, rfl⟩ := qdF H; go_enter Tryz.func70, Tryz.ntmps70
     go_wp2_with (first | ((with_reducible refine qal (N := 14) rfl ?_); refine li_ qaL 85 14 rfl (xs := ([] : List qac)) qbe ?_; intro vl14 w1 ho hb; have HO4 := ak_ (Kd.qax ho (qab qan)); replace HB := HB.mw hb; clear hb ho; rw [← HL.out] at HO4; obtain ⟨Ar, cr, er⟩ := Kd.qaI HO4.out; subst er) | (refine gl_ 54 Tryz.func53 #[.slice Ar l.length cr] rfl qbZ ?_; (refine (qbc.calls _ _ l false _ k45_ (Kd.qao HO4.out).2.1 A1.out).mono ?_); rintro e wa ⟨rfl, hb⟩; refine ⟨_, rfl, ?_⟩; replace HB := ak_ (qaa qan hb); replace HO4 := HO4.mw hb; clear hb))
     go_ret2
     exact ⟨_, rfl, Kd.qfP _ _ _ _ _, qan⟩
   | true =>
     rw [if_pos rfl] at H; obtain ⟨txt, A2, H⟩ := qay H; by_cases hx : txt.toList = s.toList
     ·rw [if_pos hx] at H; obtain ⟨rfl, rfl⟩ := qdF H; have hxb : (txt.toList != s.toList) = false := bne_eq_false_iff_eq.2 hx; have hxc : (txt.toList == s.toList) = true := beq_iff_eq.2 hx; clear hx; go_enter Tryz.func70, Tryz.ntmps70
      go_wp2_with (first | ((with_reducible refine qal (N := 14) rfl ?_); refine li_ qaL 85 14 rfl (xs := ([] : List qac)) qbe ?_; intro vl14 w1 ho hb; have HO4 := ak_ (Kd.qax ho (qab qan)); replace HB := HB.mw hb; clear hb ho; rw [← HL.out] at HO4; obtain ⟨Ar, cr, er⟩ := Kd.qaI HO4.out; subst er) | (refine gl_ 54 Tryz.func53 #[.slice Ar l.length cr] rfl qbZ ?_; (refine (qbc.calls _ _ l true _ k45_ (Kd.qao HO4.out).2.1 A1.out).mono ?_); rintro e wa ⟨rfl, hb⟩; refine ⟨_, rfl, ?_⟩; replace HB := ak_ (qaa qan hb); replace HO4 := HO4.mw hb; clear hb) | (refine gl_ 58 Tryz.func54 #[.slice Ar l.length cr] rfl qbZ ?_; (refine (qaF.calls k _ _ l txt _ k45_ (Kd.qao HO4.out).2.1 A2.out).mono ?_); rintro e wb ⟨rfl, hb⟩; refine ⟨_, rfl, ?_⟩; replace HB := ak_ (qaa qan hb); replace HO4 := HO4.mw hb; clear hb))
      go_ret2
      exact ⟨_, rfl, (by apply_rules only [HO4.out, Kd.qap, Kd.qaq, Kd.qaw]), qan⟩
     rw [if_neg hx] at H; obtain ⟨rfl, rfl⟩ := qdF H; have hxb : (txt.toList != s.toList) = true := bne_iff_ne.2 hx; have hxc : (txt.toList == s.toList) = false := beq_eq_false_iff_ne.2 hx; clear hx; go_enter Tryz.func70, Tryz.ntmps70
     go_wp2_with (first | ((with_reducible refine qal (N := 14) rfl ?_); refine li_ qaL 85 14 rfl (xs := ([] : List qac)) qbe ?_; intro vl14 w1 ho hb; have HO4 := ak_ (Kd.qax ho (qab qan)); replace HB := HB.mw hb; clear hb ho; rw [← HL.out] at HO4; obtain ⟨Ar, cr, er⟩ := Kd.qaI HO4.out; subst er) | (refine gl_ 54 Tryz.func53 #[.slice Ar l.length cr] rfl qbZ ?_; (refine (qbc.calls _ _ l true _ k45_ (Kd.qao HO4.out).2.1 A1.out).mono ?_); rintro e wa ⟨rfl, hb⟩; refine ⟨_, rfl, ?_⟩; replace HB := ak_ (qaa qan hb); replace HO4 := HO4.mw hb; clear hb) | (refine gl_ 58 Tryz.func54 #[.slice Ar l.length cr] rfl qbZ ?_; (refine (qaF.calls k _ _ l txt _ k45_ (Kd.qao HO4.out).2.1 A2.out).mono ?_); rintro e wb ⟨rfl, hb⟩; refine ⟨_, rfl, ?_⟩; replace HB := ak_ (qaa qan hb); replace HO4 := HO4.mw hb; clear hb))
     go_ret2
     exact ⟨_, rfl, Kd.qfP _ _ _ _ _, qan⟩
  rw [if_neg hd] at h; have hdb : (s.toList != [45]) = true := bne_iff_ne.2 hd; have hdc : (s.toList == [45]) = false := beq_eq_false_iff_ne.2 hd; have hwl := qlg 44 s
  obtain ⟨ws, hws⟩ : ∃ ws, ws = qgz 44 s := ⟨_, rfl⟩
  rw [← hws] at h hwl; have HWL := ak_ (show ws.length ≤ 1048577 from by omega); have HWE := ak_ hws; have HWM := ak_ (show ∀ x ∈ ws, x.size ≤ 1048576 from fun x hx => by have := qjb _ _ s x (by rw [hws] at hx; exact hx); omega); have H' := ak_ h; clear hd hs h hwl hws; go_enter Tryz.func70, Tryz.ntmps70
  go_wp2_with (first | ((with_reducible refine qal (N := 14) rfl ?_); refine li_ qaL 85 14 rfl (xs := ([] : List qac)) qbe ?_; intro vl14 w0 ho hb; have HO4 := ak_ (Kd.qax ho (qab qan)); replace HB := HB.mw hb; clear hb ho) | (refine gl_ 18 Tryz.func68 #[.string s, .string ⟨#[44]⟩] rfl qbZ ?_; (refine (qdd s ⟨#[44]⟩ _ (by have := HS.out; omega) rfl (qbb.below HG.out qan)).mono ?_); rintro e w1 ⟨vw, rfl, how, hb⟩; refine ⟨_, rfl, ?_⟩; have HW := ak_ (show Kd.R Kd.string 9 _ w.heap.size (fun _ => True) vw ws from qp1); replace HO4 := HO4.mw hb; replace HB := ak_ (qaa qan hb); obtain ⟨Aw, cw, ew⟩ := Kd.qaI HW.out; subst ew; clear hb how))
  go_loopg [4, 20] ws.length (fun kq v4 v20 w' => ∃ (qcM : List qac) (qgB : Int), v20 = .int .i64 qgB ∧ qag (0 ≤ qgB ∧ qgB ≤ (ws.length : Int)) ∧ qag (qdJ (ws.take qgB.toNat) = some qcM) ∧ qag (ws.length - qgB.toNat ≤ kq) ∧ qag (Kd.R qaL 85 w' w.heap.size (fun _ => True) v4 qcM) ∧ qag (Kd.R Kd.string 9 w' w.heap.size (fun _ => True) (.slice Aw ws.length cw) ws) ∧ qag (Below w.heap.size w w'))
  case atStart => exact ⟨[], 0, rfl, ⟨by omega⟩, ⟨rfl⟩, ⟨by simp⟩, ⟨(by apply_rules only [HO4.out, Kd.qap, Kd.qaq, Kd.qaw])⟩, ⟨(by apply_rules only [HW.out, Kd.qap, Kd.qaq, Kd.qaw])⟩, ⟨qan⟩⟩
  case round =>
    obtain ⟨qcM, qgB, rfl, HX, HWR, HK, qdk, HW, HB⟩ := hrel; by_cases c1 : qgB < (ws.length : Int); rotate_left
    ·have c1b := decide_eq_false c1; have hE := HWR.out; rw [List.take_of_length_le (by have := HX.out; omega)] at hE; have H := H'.out; rw [hE] at H; replace H : (qaW.l0 k s qcM) = some (r1, r2) := H; unfold qaW.l0 at H; clear c1 hE; have HO4 := qdk; clear qdk
     obtain ⟨l, hl⟩ : ∃ l, l = qcM := ⟨_, rfl⟩
     rw [← hl] at H HO4; clear hl; obtain ⟨Ar, cr, er⟩ := Kd.qaI HO4.out; subst er; obtain ⟨t, A1, H⟩ := qay H
     cases t with
     | false =>
       rw [if_neg (by decide)] at H; obtain ⟨rfl, rfl⟩ := qdF H
       go_wp2_with (first | (refine gl_ 54 Tryz.func53 #[.slice Ar l.length cr] rfl qbZ ?_; (refine (qbc.calls _ _ l false _ k45_ (Kd.qao HO4.out).2.1 A1.out).mono ?_); rintro e wa ⟨rfl, hb⟩; refine ⟨_, rfl, ?_⟩; replace HB := ak_ (qaa qan hb); replace HO4 := HO4.mw hb; clear hb))
       go_ret2
       exact ⟨_, rfl, Kd.qfP _ _ _ _ _, qan⟩
     | true =>
       rw [if_pos rfl] at H; obtain ⟨txt, A2, H⟩ := qay H; by_cases hx : txt.toList = s.toList
       ·rw [if_pos hx] at H; obtain ⟨rfl, rfl⟩ := qdF H; have hxb : (txt.toList != s.toList) = false := bne_eq_false_iff_eq.2 hx; have hxc : (txt.toList == s.toList) = true := beq_iff_eq.2 hx; clear hx
        go_wp2_with (first | (refine gl_ 54 Tryz.func53 #[.slice Ar l.length cr] rfl qbZ ?_; (refine (qbc.calls _ _ l true _ k45_ (Kd.qao HO4.out).2.1 A1.out).mono ?_); rintro e wa ⟨rfl, hb⟩; refine ⟨_, rfl, ?_⟩; replace HB := ak_ (qaa qan hb); replace HO4 := HO4.mw hb; clear hb) | (refine gl_ 58 Tryz.func54 #[.slice Ar l.length cr] rfl qbZ ?_; (refine (qaF.calls k _ _ l txt _ k45_ (Kd.qao HO4.out).2.1 A2.out).mono ?_); rintro e wb ⟨rfl, hb⟩; refine ⟨_, rfl, ?_⟩; replace HB := ak_ (qaa qan hb); replace HO4 := HO4.mw hb; clear hb))
        go_ret2
        exact ⟨_, rfl, (by apply_rules only [HO4.out, Kd.qap, Kd.qaq, Kd.qaw]), qan⟩
       rw [if_neg hx] at H; obtain ⟨rfl, rfl⟩ := qdF H; have hxb : (txt.toList != s.toList) = true := bne_iff_ne.2 hx; have hxc : (txt.toList == s.toList) = false := beq_eq_false_iff_ne.2 hx; clear hx
       go_wp2_with (first | (refine gl_ 54 Tryz.func53 #[.slice Ar l.length cr] rfl qbZ ?_; (refine (qbc.calls _ _ l true _ k45_ (Kd.qao HO4.out).2.1 A1.out).mono ?_); rintro e wa ⟨rfl, hb⟩; refine ⟨_, rfl, ?_⟩; replace HB := ak_ (qaa qan hb); replace HO4 := HO4.mw hb; clear hb) | (refine gl_ 58 Tryz.func54 #[.slice Ar l.length cr] rfl qbZ ?_; (refine (qaF.calls k _ _ l txt _ k45_ (Kd.qao HO4.out).2.1 A2.out).mono ?_); rintro e wb ⟨rfl, hb⟩; refine ⟨_, rfl, ?_⟩; replace HB := ak_ (qaa qan hb); replace HO4 := HO4.mw hb; clear hb))
       go_ret2
       exact ⟨_, rfl, Kd.qfP _ _ _ _ _, qan⟩
    have c1b := decide_eq_true c1; have qeE : 0 ≤ qgB := HX.out.1
    have hp : qgB.toNat < ws.length := by omega
    obtain ⟨qhf, qhh, qbw⟩ := Kd.qeu (Kd.qao HW.out).2.2 qgB qeE c1
    cases qhh
    obtain ⟨x, hx⟩ : ∃ x, x = qeJ ByteArray.empty ws qgB := ⟨_, rfl⟩
    rw [← hx] at qbw
    have hxi : ws[qgB.toNat]? = some x := by rw [hx, qeJ, List.getElem?_eq_getElem hp]; simp [List.getD, hp]
    have HXS := ak_ (HWM.out x (List.mem_of_getElem? hxi)); have hl1 := cut_len1 x.data.toList [58]; have hl2 := qot x.data.toList [58]
    obtain ⟨bf, hbf⟩ : ∃ x_ : ByteArray, x_ = ⟨(Lib.cut x.data.toList [58]).1.toArray⟩ := ⟨_, rfl⟩
    obtain ⟨nb, hnb⟩ : ∃ x_ : ByteArray, x_ = ⟨(Lib.cut x.data.toList [58]).2.1.toArray⟩ := ⟨_, rfl⟩
    have hbd : bf.data.toList = (Lib.cut x.data.toList [58]).1 := by rw [hbf]
    have hnd : nb.data.toList = (Lib.cut x.data.toList [58]).2.1 := by rw [hnb]
    have HbfS := ak_ (show bf.size ≤ 1048576 from by have h_ := HXS.out; rw [qmy] at h_ ⊢; rw [hbd]; omega); have HnbS := ak_ (show nb.size ≤ 1048576 from by have h_ := HXS.out; rw [qmy] at h_ ⊢; rw [hnd]; omega); have HBF := ak_ hbf; have HNB := ak_ hnb
    have hwr : qfZ x = match Lib.atoiAll bf.data.toList, Lib.atoiAll nb.data.toList with
      | .ok a, .ok b => some ⟨a, b⟩
      | _, _ => none := by unfold qfZ; rw [hbd, hnd]
    have qeE := eq_true qeE; have qeN := eq_true c1; have HXI := ak_ hxi; clear hbf hnb hbd hnd hl1 hl2 hx c1 hxi
    have hbad : qfZ x = none → r1 = [] ∧ r2 = false := fun hn => by
      have h_ := H'.out; rw [qh6 ws _ x HXI.out hn] at h_; simp only [Option.some.injEq, Prod.mk.injEq] at h_; exact ⟨h_.1.symm, h_.2.symm⟩
    by_cases ha : ∃ a, Lib.atoiAll bf.data.toList = .ok a; rotate_left
    ·have ha2 : ∀ v, Lib.atoiAll bf.data.toList ≠ .ok v := fun v h_ => ha ⟨v, h_⟩
     obtain ⟨rfl, rfl⟩ := hbad (by rw [hwr]; cases hc : Lib.atoiAll bf.data.toList with | ok v => exact absurd hc (ha2 v) | _ => rfl); have HbfV := ak_ ha2; by_cases hb : ∃ b, Lib.atoiAll nb.data.toList = .ok b
     ·obtain ⟨b, hb⟩ := hb; have HnbV := ak_ hb; clear ha hb ha2 hwr hp
      go_wp2_with (first | (refine gl_ 26 Tryz.func90 #[.string x, .string ⟨#[58]⟩] rfl qbZ ?_; (refine (qh9 x 58 _ (by have := HXS.out; omega) (qbb.below HG.out qan).1).mono ?_); rintro e w2 ⟨rfl, hb⟩; refine ⟨_, rfl, ?_⟩; replace HB := ak_ (qaa qan hb); replace qdk := qdk.mw hb; replace HW := HW.mw hb; clear hb; rw [← HBF.out, ← HNB.out]) | (refine gl_ 32 Tryz.func122 #[.string bf] rfl qbZ ?_; (refine (qj4 bf _ (by have := HbfS.out; omega) HbfV.out (qbb.below HG.out qan).1).mono ?_); rintro e w32 ⟨n32, te32, pe32, rfl, hb⟩; refine ⟨_, rfl, ?_⟩; replace HB := ak_ (qaa qan hb); replace qdk := qdk.mw hb; replace HW := HW.mw hb; clear hb) | (refine gl_ 37 Tryz.func122 #[.string nb] rfl qbZ ?_; (refine (qhr nb b _ (by have := HnbS.out; omega) HnbV.out (qbb.below HG.out qan).1).mono ?_); rintro e w37 ⟨rfl, hb⟩; refine ⟨_, rfl, ?_⟩; replace HB := ak_ (qaa qan hb); replace qdk := qdk.mw hb; replace HW := HW.mw hb; clear hb))
      go_ret2
      exact ⟨_, rfl, Kd.qfP _ _ _ _ _, qan⟩
     have hb2 : ∀ v, Lib.atoiAll nb.data.toList ≠ .ok v := fun v h_ => hb ⟨v, h_⟩
     have HnbV := ak_ hb2; clear ha hb hb2 ha2 hwr hp
     go_wp2_with (first | (refine gl_ 26 Tryz.func90 #[.string x, .string ⟨#[58]⟩] rfl qbZ ?_; (refine (qh9 x 58 _ (by have := HXS.out; omega) (qbb.below HG.out qan).1).mono ?_); rintro e w2 ⟨rfl, hb⟩; refine ⟨_, rfl, ?_⟩; replace HB := ak_ (qaa qan hb); replace qdk := qdk.mw hb; replace HW := HW.mw hb; clear hb; rw [← HBF.out, ← HNB.out]) | (refine gl_ 32 Tryz.func122 #[.string bf] rfl qbZ ?_; (refine (qj4 bf _ (by have := HbfS.out; omega) HbfV.out (qbb.below HG.out qan).1).mono ?_); rintro e w32 ⟨n32, te32, pe32, rfl, hb⟩; refine ⟨_, rfl, ?_⟩; replace HB := ak_ (qaa qan hb); replace qdk := qdk.mw hb; replace HW := HW.mw hb; clear hb) | (refine gl_ 37 Tryz.func122 #[.string nb] rfl qbZ ?_; (refine (qj4 nb _ (by have := HnbS.out; omega) HnbV.out (qbb.below HG.out qan).1).mono ?_); rintro e w37 ⟨n37, te37, pe37, rfl, hb⟩; refine ⟨_, rfl, ?_⟩; replace HB := ak_ (qaa qan hb); replace qdk := qdk.mw hb; replace HW := HW.mw hb; clear hb))
     go_ret2
     exact ⟨_, rfl, Kd.qfP _ _ _ _ _, qan⟩
    obtain ⟨a, ha⟩ := ha; by_cases hb : ∃ b, Lib.atoiAll nb.data.toList = .ok b; rotate_left
    ·have hb2 : ∀ v, Lib.atoiAll nb.data.toList ≠ .ok v := fun v h_ => hb ⟨v, h_⟩
     obtain ⟨rfl, rfl⟩ := hbad (by rw [hwr, ha]; cases hc : Lib.atoiAll nb.data.toList with | ok v => exact absurd hc (hb2 v) | _ => rfl); have HbfV := ak_ ha; have HnbV := ak_ hb2; clear ha hb hb2 hwr hp
     go_wp2_with (first | (refine gl_ 26 Tryz.func90 #[.string x, .string ⟨#[58]⟩] rfl qbZ ?_; (refine (qh9 x 58 _ (by have := HXS.out; omega) (qbb.below HG.out qan).1).mono ?_); rintro e w2 ⟨rfl, hb⟩; refine ⟨_, rfl, ?_⟩; replace HB := ak_ (qaa qan hb); replace qdk := qdk.mw hb; replace HW := HW.mw hb; clear hb; rw [← HBF.out, ← HNB.out]) | (refine gl_ 32 Tryz.func122 #[.string bf] rfl qbZ ?_; (refine (qhr bf a _ (by have := HbfS.out; omega) HbfV.out (qbb.below HG.out qan).1).mono ?_); rintro e w32 ⟨rfl, hb⟩; refine ⟨_, rfl, ?_⟩; replace HB := ak_ (qaa qan hb); replace qdk := qdk.mw hb; replace HW := HW.mw hb; clear hb) | (refine gl_ 37 Tryz.func122 #[.string nb] rfl qbZ ?_; (refine (qj4 nb _ (by have := HnbS.out; omega) HnbV.out (qbb.below HG.out qan).1).mono ?_); rintro e w37 ⟨n37, te37, pe37, rfl, hb⟩; refine ⟨_, rfl, ?_⟩; replace HB := ak_ (qaa qan hb); replace qdk := qdk.mw hb; replace HW := HW.mw hb; clear hb))
     go_ret2
     exact ⟨_, rfl, Kd.qfP _ _ _ _ _, qan⟩
    obtain ⟨b, hb⟩ := hb; rw [ha, hb] at hwr; have HbfV := ak_ ha; have HnbV := ak_ hb; have hlx := qhc _ _ HWR.out; rw [List.length_take, Nat.min_eq_left (Nat.le_of_lt hp)] at hlx; have HLn := ak_ (show qcM.length < 8796093022208 from by have := HWL.out; omega)
    have HWR2 := ak_ (show qdJ (ws.take (wrap64 (qgB + 1)).toNat) = some (qcM ++ [⟨a, b⟩]) by
      have e_ : (wrap64 (qgB + 1)).toNat = qgB.toNat + 1 := by have := HX.out; have := HWL.out; unfold wrap64; omega
      rw [e_, List.take_succ_eq_append_getElem hp]; refine qh7 _ _ _ _ HWR.out ?_; have := HXI.out; rw [List.getElem?_eq_getElem hp] at this; rw [Option.some.inj this]
      exact hwr)
    have HX2 := ak_ (show 0 ≤ wrap64 (qgB + 1) ∧ wrap64 (qgB + 1) ≤ (ws.length : Int) ∧ ws.length - (wrap64 (qgB + 1)).toNat ≤ ws.length - qgB.toNat - 1 from by have := HX.out; have := HWL.out; unfold wrap64; omega); have HPx := ak_ hp; clear ha hb hwr hbad hlx hp
    go_wp2_with (first | (refine gl_ 26 Tryz.func90 #[.string x, .string ⟨#[58]⟩] rfl qbZ ?_; (refine (qh9 x 58 _ (by have := HXS.out; omega) (qbb.below HG.out qan).1).mono ?_); rintro e w2 ⟨rfl, hb⟩; refine ⟨_, rfl, ?_⟩; replace HB := ak_ (qaa qan hb); replace qdk := qdk.mw hb; replace HW := HW.mw hb; clear hb; rw [← HBF.out, ← HNB.out]) | (refine gl_ 32 Tryz.func122 #[.string bf] rfl qbZ ?_; (refine (qhr bf a _ (by have := HbfS.out; omega) HbfV.out (qbb.below HG.out qan).1).mono ?_); rintro e w32 ⟨rfl, hb⟩; refine ⟨_, rfl, ?_⟩; replace HB := ak_ (qaa qan hb); replace qdk := qdk.mw hb; replace HW := HW.mw hb; clear hb) | (refine gl_ 37 Tryz.func122 #[.string nb] rfl qbZ ?_; (refine (qhr nb b _ (by have := HnbS.out; omega) HnbV.out (qbb.below HG.out qan).1).mono ?_); rintro e w37 ⟨rfl, hb⟩; refine ⟨_, rfl, ?_⟩; replace HB := ak_ (qaa qan hb); replace qdk := qdk.mw hb; replace HW := HW.mw hb; clear hb) | ((with_reducible refine qa2 (b := .append) (xs := #[.tmp 46, .tmp 50]) rfl ?_); at_builtin; refine Kd.qcH qaL (w0 := w) w.heap.size rfl (.tmp 46) (.tmp 50) 26 85 (.agg #[(.int .i64 0), (.int .i64 0)]) 16 rfl Tryz.underlying26 qcY rfl (by decide) (by omega) u4 qcM (⟨a, b⟩ : qac) [.int .i64 a, .int .i64 b] (fun _ => True) (fun _ => False) rfl rfl ?aP (fun _ hk => hk.elim) ?aF ?aO ?aB ?aS ?aL ?_; (case aP => exact qdm _ _ _ (⟨a, b⟩ : qac)); (case aB => exact qan); (case aF => exact (fun _ _ => trivial)); (case aO => exact qjQ); (case aS => exact (qab qan)); (case aL => have := HLn.out; omega); intro v51 w51 ho hb hg hat; replace HW := ak_ (Kd.qfw (by apply_rules only [HW.out, Kd.qap, Kd.qaq, Kd.qaw]) (Kd.qe7 qjQ) (by decide) hg); replace HB := ak_ (hb); have HO51 := ak_ (ho); clear qdk; clear ho hb hg hat))
    go_roundg (ws.length - qgB.toNat - 1)
    case measure => have := HK.out; have := HPx.out; omega
    case rel => exact ⟨qcM ++ [⟨a, b⟩], wrap64 (qgB + 1), by first | rfl | simp, ⟨⟨HX2.out.1, HX2.out.2.1⟩⟩, HWR2, ⟨HX2.out.2.2⟩, ⟨(by apply_rules only [HO51.out, Kd.qap, Kd.qaq, Kd.qaw])⟩, ⟨(by apply_rules only [HW.out, Kd.qap, Kd.qaq, Kd.qaw])⟩, ⟨qan⟩⟩
def qfD (w : World) (base g : Nat) (rs : List qac) (mo : Int) : Prop := ∃ A c, w.heap[g]? = some (.cells #[.slice A rs.length c, .int .i64 mo] 28 (0, 0)) ∧ Kd.R qaL 85 w base (fun _ => True) (.slice A rs.length c) rs
def qcv (w w' : World) (g : Nat) : Prop := qeA w w' g none ∧ w'.os = w.os ∧ w'.tape = w.tape ∧ w'.output = w.output
theorem ho_ {w : World} {g : Nat} {t : TypeId} {cs cs' : Array Value} (h : w.heap[g]? = some (.cells cs t (0, 0))) (e : cs = cs') : w.heap[g]? = some (.cells cs' t (0, 0)) := e ▸ h
theorem qcv.qbS {w w1 : World} (h : Below w.heap.size w w1) (g : Nat) : qcv w w1 g := ⟨qeA.qbS h g none, h.os, h.tape, h.output⟩
theorem qcv.set_ {w w1 : World} {g : Nat} (h : qcv w w1 g) (j : Nat) (u : Value) : qcv w (w1.setCell ⟨g, j, none⟩ u) g := ⟨qeA.set_ h.1 j u, h.2.1, h.2.2.1, h.2.2.2⟩
theorem qcv.trans {w w1 w2 : World} {g : Nat} (h : qcv w w1 g) (k : qcv w1 w2 g) : qcv w w2 g := ⟨qeA.trans h.1 k.1 (.inl rfl), k.2.1.trans h.2.1, k.2.2.1.trans h.2.2.1, k.2.2.2.trans h.2.2.2⟩
theorem qcv.below {B : Nat} {w w1 w2 : World} {g : Nat} (h : Below B w w1) (k : qcv w1 w2 g) (hg : B ≤ g) (hs : B ≤ w1.heap.size) : Below B w w2 :=
  h.trans ⟨k.2.1, k.2.2.1, k.2.2.2, k.1.1, fun i hi => k.1.2 i (by omega) (by omega) (by simp)⟩
def qe8 (k : Nat) (rs xs : List qac) (ok : Bool) : Option (List qac × ByteArray) := if ok = true then ((qbc.f xs).bind fun t => if t = true then ((qaF.f k xs).bind fun s => some (xs, s)) else some (rs, (⟨#[110, 111]⟩ : ByteArray))) else some (rs, (⟨#[110, 111]⟩ : ByteArray))
theorem qeQ (k base g : Nat) (A : Option Addr) (c : Nat) (xs : List qac) (ok : Bool) (rs : List qac) (mo : Int) (rs' : List qac) (txt : ByteArray) (w : World) (hD : qfD w base g rs mo) (hR : Kd.R qaL 85 w base (fun _ => True) (.slice A xs.length c) xs) (h : qe8 k rs xs ok = some (rs', txt)) :
    Calls Tryz.prog 71 #[.pointer (some ⟨g, 0, none⟩), .slice A xs.length c, .bool ok] w fun e w' => e = .returned (.string txt) ∧ qfD w' base g rs' mo ∧ qcv w w' g := by
  obtain ⟨A0, c0, hC, hO⟩ := hD; have HC := ak_ hC; have HO := ak_ hO; have HX := ak_ hR; have HB := br_ w; obtain ⟨qqH, qqI, qqB, qqC⟩ := qbG HC.out; clear hC hO hR; unfold qe8 at h
  cases ok with
  | false =>
    rw [if_neg (by decide)] at h; obtain ⟨rfl, rfl⟩ := qdF h; go_enter Tryz.func71, Tryz.ntmps71; go_wp2
    go_ret
    exact ⟨rfl, ⟨A0, c0, qqO, k94_⟩, (qcv.qbS qan g)⟩
  | true =>
    rw [if_pos rfl] at h; obtain ⟨t, A1, h⟩ := qay h
    cases t with
    | false =>
      rw [if_neg (by decide)] at h; obtain ⟨rfl, rfl⟩ := qdF h; go_enter Tryz.func71, Tryz.ntmps71
      go_wp2_with (first | (refine gl_ 11 Tryz.func53 #[.slice A xs.length c] rfl qbZ ?_; (refine (qbc.calls _ _ xs false _ qqM (Kd.qao HX.out).2.1 A1.out).mono ?_); rintro e wa ⟨rfl, hb⟩; refine ⟨_, rfl, ?_⟩; replace HC := HC.mw hb; replace HO := HO.mw hb; replace HX := HX.mw hb; replace HB := ak_ (qaa qan hb); obtain ⟨hzwa_0, hzwa_1, hfwa_0, hfwa_1⟩ := qbG HC.out; clear hb))
      go_ret
      exact ⟨rfl, ⟨A0, c0, qqO, k94_⟩, (qcv.qbS qan g)⟩
    | true =>
      rw [if_pos rfl] at h; obtain ⟨s, A2, h⟩ := qay h; obtain ⟨rfl, rfl⟩ := qdF h; go_enter Tryz.func71, Tryz.ntmps71
      go_wp2_with (first | (refine gl_ 11 Tryz.func53 #[.slice A xs.length c] rfl qbZ ?_; (refine (qbc.calls _ _ xs true _ qqM (Kd.qao HX.out).2.1 A1.out).mono ?_); rintro e wa ⟨rfl, hb⟩; refine ⟨_, rfl, ?_⟩; replace HC := HC.mw hb; replace HO := HO.mw hb; replace HX := HX.mw hb; replace HB := ak_ (qaa qan hb); obtain ⟨hzwa_0, hzwa_1, hfwa_0, hfwa_1⟩ := qbG HC.out; clear hb) | (refine gl_ 19 Tryz.func54 #[.slice A xs.length c] rfl qbZ ?_; (refine (qaF.calls k _ _ xs s _ k23_ (Kd.qao HX.out).2.1 A2.out).mono ?_); rintro e wb ⟨rfl, hb⟩; refine ⟨_, rfl, ?_⟩; have HB2 := ak_ hb; clear hb))
      go_ret
      exact ⟨rfl, ⟨A, c, qar (qbl qqO 0 _ rfl) HB2.out, Kd.qbv (Kd.qgQ qmP qqO (by decide) 0 _) HB2.out⟩, (qcv.set_ (qcv.qbS qan g) 0 _).trans (qcv.qbS HB2.out g)⟩
theorem R_cut {w : World} {base g c : Nat} {ok : Nat → Prop} {xs : List qac} (h : Kd.R qaL 85 w base ok (.slice (some ⟨g, 0, none⟩) xs.length c) xs) (i : Nat) (hi : i < xs.length) :
    ∃ news : List Value, news.length = (xs.length - (i + 1)) * 2 ∧ (∀ j u, news[j]? = some u → w.cell? ⟨g, (i + 1) * 2 + j, none⟩ = some u) ∧ (∀ u ∈ news, u.oneCell' = true) ∧
      (∀ W : World, W.heap[g]? = w.heap[g]? → Kd.R qaL 85 (W.setCells g (i * 2) news) base ok (.slice (some ⟨g, 0, none⟩) (xs.length - 1) c) (xs.eraseIdx i)) := by
  obtain ⟨h0, inner, hown, hr⟩ := h; have hsz : qaL.sz = 2 := rfl; rw [hsz] at hown hr; have hil : inner.length = xs.length * 2 := hown.1
  rcases hown.2 with ⟨hv, _⟩ | ⟨g', cap, cur, hv, hb, hh, hnc, hcm, hcs, ht⟩
  ·cases hv
  obtain ⟨e1, -, rfl⟩ := Value.slice.inj hv
  obtain rfl : g = g' := by injection e1 with e1; injection e1
  have hcl : cur.toList.length = c * 2 := by rw [Array.length_toList, hcs]
  refine ⟨inner.drop ((i + 1) * 2), by rw [List.length_drop, hil]; omega, fun j u hj => ?_, fun u hu => ?_, fun W hW => ?_⟩
  ·rw [← ht, List.getElem?_drop, List.getElem?_take] at hj; split at hj
   ·rw [cell_of_row w g _ cur _ (0, 0) hh]
    simpa using hj
   cases hj
  ·have hu2 := List.mem_of_mem_drop hu; obtain ⟨q, hq⟩ := List.getElem?_of_mem hu2; have hq2 := (List.getElem?_eq_some_iff.1 hq).1
   obtain ⟨p, hp⟩ : ∃ p, xs[q / 2]? = some p := ⟨xs[q / 2]'(by omega), List.getElem?_eq_getElem (by omega)⟩
   have hR := hr.2 (q / 2) p hp; refine qaL.K_one (qaL.K_of_M hR) u ?_; rw [List.mem_iff_getElem?]; refine ⟨q % 2, ?_⟩; rw [List.getElem?_take, if_pos (by omega), List.getElem?_drop, show q / 2 * 2 + q % 2 = q by omega]; exact hq
  obtain ⟨cur', h1, h2, h3⟩ := qjv (inner.drop ((i + 1) * 2)) (i * 2) W cur (hW.trans hh) (by rw [List.length_drop, hil, hcs]; omega)
  have he : (xs.eraseIdx i).length = xs.length - 1 := by rw [List.length_eraseIdx, if_pos hi]
  have hin : inner.take (i * 2) ++ inner.drop ((i + 1) * 2) = cur'.toList.take ((xs.length - 1) * 2) := by
    have l1 : (cur.toList.take (i * 2)).length = i * 2 := by rw [List.length_take, hcl]; omega
    have l2 : (inner.drop ((i + 1) * 2)).length = xs.length * 2 - (i + 1) * 2 := by rw [List.length_drop, hil]
    have e3 : inner.take (i * 2) = cur.toList.take (i * 2) := by rw [← ht, List.take_take, Nat.min_eq_left (by omega)]
    rw [h3, e3]; exact (List.take_left' (by rw [List.length_append, l1, l2]; omega)).symm
  refine ⟨fun k hk => h0 k hk, inner.take (i * 2) ++ inner.drop ((i + 1) * 2), ⟨by rw [he, List.length_append, List.length_take, List.length_drop, hil]; show _ = _ * 2; omega, .inr ⟨g, c, cur', by rw [he], hb, h1, by rw [he]; omega, hcm, by rw [h2, hcs]; rfl, by rw [he, hin]; rfl⟩⟩, ?_⟩; refine ⟨by rw [he, List.length_append, List.length_take, List.length_drop, hil, hsz]; omega, fun j p hp => ?_⟩; rw [hsz]; rw [List.getElem?_eraseIdx] at hp; split at hp
  ·rename_i hji
   have := hr.2 j p hp; rw [List.drop_append_of_le_length (by rw [List.length_take, hil]; omega), List.take_append_of_le_length (by rw [List.length_drop, List.length_take, hil]; omega), List.drop_take, List.take_take, Nat.min_eq_left (by omega)]; exact this
  rename_i hji
  have := hr.2 (j + 1) p hp
  have l3 : (inner.take (i * 2)).length = i * 2 := by rw [List.length_take, hil]; omega
  have e5 : (inner.take (i * 2) ++ inner.drop ((i + 1) * 2)).drop (j * 2) = inner.drop ((j + 1) * 2) := by
    rw [List.drop_append, l3, List.drop_of_length_le (l := inner.take (i * 2)) (by rw [l3]; omega), List.nil_append, List.drop_drop, show (i + 1) * 2 + (j * 2 - i * 2) = (j + 1) * 2 by omega]
  rw [e5]; exact this
theorem R_room {α : Type} {d : Kd α} {e base g n c : Nat} {ok : Nat → Prop} {w : World} {xs : List α} (h : d.R e w base ok (.slice (some ⟨g, 0, none⟩) n c) xs) (o : Nat) (ho : o < c * d.sz) : (w.cell? ⟨g, o, none⟩).isSome = true ∧ w.frozen? ⟨g, o, none⟩ = false := by
  obtain ⟨h0, inner, hown, hr⟩ := h
  rcases hown.2 with ⟨hv, _⟩ | ⟨g', cap, cur, hv, hb, hh, hnc, hcm, hcs, ht⟩
  ·cases hv
  obtain ⟨e1, -, rfl⟩ := Value.slice.inj hv
  obtain rfl : g = g' := by injection e1 with e1; injection e1
  refine ⟨?_, qad hh o⟩; rw [cell_of_row w g _ cur _ (0, 0) hh, Array.getElem?_eq_getElem (by omega)]; rfl
theorem qnb (A : Option Addr) (c base : Nat) (ok : Nat → Prop) (xs : List qac) (i : Nat) (w : World) (hbase : base ≤ w.heap.size) (hR : Kd.R qaL 85 w base ok (.slice A xs.length c) xs) (hi : i < xs.length) :
    Calls Tryz.prog 123 #[.slice A xs.length c, .int .i64 i, .int .i64 ((i : Int) + 1)] w fun e w' => e = .returned (.slice A (xs.length - 1) c) ∧ Kd.R qaL 85 w' base ok (.slice A (xs.length - 1) c) (xs.eraseIdx i) ∧ w.grownBy w' (Value.slice A xs.length c).ownBlock := by
  obtain ⟨G, c', eG, hGb, hGl, -⟩ := Kd.qeZ hR (by omega); obtain ⟨rfl, -, rfl⟩ := Value.slice.inj eG; clear eG; obtain ⟨news, hn1, hn2, hn3, hn4⟩ := R_cut hR i hi; have hm : xs.length ≤ 9223372036854775807 := Kd.C_max (Kd.qao hR).2.2; have hnc : xs.length ≤ c := (Kd.qao hR).2.1
  have hcm : c ≤ 9223372036854775807 := by
    obtain ⟨_, inner, hown, _⟩ := hR
    rcases hown.2 with ⟨hv, _⟩ | ⟨g', cap, cur, hv, hb, hh, hnc, hcm, hcs, ht⟩
    ·cases hv
    obtain ⟨-, -, rfl⟩ := Value.slice.inj hv
    simpa [maxLen] using hcm
  obtain ⟨i0_, qn0, _, hsz_, _⟩ := info_parts qcY
  have e1 : ((i : Int) + 1).toNat = i + 1 := by omega
  obtain ⟨A2, hA2, hsrc⟩ : ∃ A2 : Addr, (if c = i + 1 then (some ⟨G, 0, none⟩ : Option Addr) else some ⟨G, (i + 1) * 2, none⟩) = some A2 ∧ qag (∀ j u, news[j]? = some u → w.drew.cell? (A2.add j) = some u) := by
    by_cases h : c = i + 1
    ·refine ⟨⟨G, 0, none⟩, by simp [h], ⟨fun j u hu => ?_⟩⟩
     have h0 : news.length = 0 := by rw [hn1]; omega
     rw [List.length_eq_zero_iff.1 h0] at hu
     simp at hu
    refine ⟨⟨G, (i + 1) * 2, none⟩, by simp [h], ⟨fun j u hu => ?_⟩⟩; rw [qoj]; exact hn2 j u hu
  have hcutA : ∀ W : World, (Instr.slice 26 (.slice (some ⟨G, 0, none⟩) xs.length c) none (some (.int .i64 (i : Int))) none).run Tryz.prog W = .ok (.slice (some ⟨G, 0, none⟩) i c) W := by
    intro W; have h := qj9 (P := Tryz.prog) 26 85 .i64 Tryz.underlying26 qn0 (some ⟨G, 0, none⟩) xs.length c (i : Int) (by omega) (by omega) hnc W; rw [h, Int.toNat_natCast]
  have hcutB : ∀ W : World, (Instr.slice 26 (.slice (some ⟨G, 0, none⟩) xs.length c) (some (.int .i64 ((i : Int) + 1))) none none).run Tryz.prog W = .ok (.slice (some A2) (xs.length - (i + 1)) (c - (i + 1))) W := by
    intro W; have h := qjM (P := Tryz.prog) 26 85 .i64 Tryz.underlying26 qn0 2 hsz_ (some ⟨G, 0, none⟩) xs.length c ((i : Int) + 1) (by omega) (by omega) W; rw [h, e1, ← hA2]; simp only [Option.map_some, qoj, Nat.zero_add]
  have hcutC : ∀ W : World, (Instr.slice 26 (.slice (some ⟨G, 0, none⟩) xs.length c) (some (.int .i64 (i : Int))) (some (.int .i64 ((i : Int) + 1))) (some (.int .i64 (xs.length : Int)))).run Tryz.prog W = .ok (sliced (some ⟨G, 0, none⟩) i (i + 1) xs.length 2) W := by
    intro W
    have hel : Tryz.prog.elem 26 = 85 := by simp [Program.elem, Tryz.underlying26]
    have hu : Tryz.prog.underlying 26 = some (.slice (Tryz.prog.elem 26)) := by rw [hel]; exact Tryz.underlying26
    rw [run_slice_lhm W 26 (some ⟨G, 0, none⟩) xs.length c hu .i64 .i64 .i64 i ((i : Int) + 1) xs.length (by omega) (by omega) (by omega) (by omega), hel, e1]
    simp [sizeOf, typeInfo, qn0, hsz_, Result.andThen]
  obtain ⟨W1, hW1⟩ : ∃ W1, W1 = w.drew.setCells G (0 + i * 2) news := ⟨_, rfl⟩
  have hR1 : Kd.R qaL 85 W1 base ok (.slice (some ⟨G, 0, none⟩) (xs.length - 1) c) (xs.eraseIdx i) := by rw [hW1, Nat.zero_add]; exact hn4 w.drew rfl
  have hG1 : w.grownBy W1 (some G) := by rw [hW1]; exact (qd6 (qah (Below.refl w.heap.size w)) (some G)).trans (qh2 w.drew G (0 + i * 2) news)
  have hroom := R_room hR; have qss := R_room hR1
  obtain ⟨L, hL⟩ : ∃ L, L = i + (xs.length - (i + 1)) := ⟨_, rfl⟩
  have hcutD : ∀ W : World, (Instr.slice 26 (.slice (some ⟨G, 0, none⟩) L c) (some (.int .i64 (L : Int))) (some (.int .i64 (xs.length : Int))) none).run Tryz.prog W = .ok (.slice (some ⟨G, L * 2, none⟩) 1 (c - L)) W := by
    intro W
    have hel : Tryz.prog.elem 26 = 85 := by simp [Program.elem, Tryz.underlying26]
    have hu : Tryz.prog.underlying 26 = some (.slice (Tryz.prog.elem 26)) := by rw [hel]; exact Tryz.underlying26
    rw [run_slice_lh W 26 (some ⟨G, 0, none⟩) L c hu .i64 .i64 L xs.length (by omega) (by omega) (by omega), hel]; simp only [sizeOf, typeInfo, qn0, hsz_, Result.andThen, sliced, Int.toNat_natCast]
    simp [sizeOf, typeInfo, qn0, hsz_, Result.andThen, show ¬ c = L by omega, show xs.length - L = 1 by omega, qoj]
  have hclr : ∀ ty, (Builtin.clear_ #[26] ty #[.slice (some ⟨G, L * 2, none⟩) 1 (c - L)]).run Tryz.prog W1 = .ok (.tuple #[]) (W1.setCells G (L * 2) (Builtin.zeroCells (Value.agg #[.int .i64 0, .int .i64 0]).cells 1).toList) := fun ty =>
    qos (n := 1) W1 26 85 ty (.agg #[.int .i64 0, .int .i64 0]) Tryz.underlying26 (zero_run qcY) (by
      intro u hu
      simp [Builtin.zeroCells, Value.cells] at hu
      obtain ⟨k_, hk_, rfl⟩ := hu
      rcases Nat.mod_two_eq_zero_or_one k_ with h_ | h_ <;> simp [h_] <;> rfl) G (L * 2) (c - L) (by omega) (by decide)
      (fun j_ hj_ => (qss (L * 2 + j_) (by show L * 2 + j_ < c * 2; have hj2_ : j_ < 1 * 2 := hj_; omega)).1)
      (fun j_ hj_ => (qss (L * 2 + j_) (by show L * 2 + j_ < c * 2; have hj2_ : j_ < 1 * 2 := hj_; omega)).2)
  obtain ⟨zs_, hzs_⟩ : ∃ z_, z_ = (Builtin.zeroCells (Value.agg #[.int .i64 0, .int .i64 0]).cells 1).toList := ⟨_, rfl⟩
  rw [← hzs_] at hclr
  obtain ⟨vC, hvC⟩ : ∃ v, v = sliced (some ⟨G, 0, none⟩) i (i + 1) xs.length 2 := ⟨_, rfl⟩
  rw [← hvC] at hcutC; have hne : ((i : Int) == (i : Int) + 1) = false := beq_eq_false_iff_ne.2 (by omega); have HN1 := ak_ hn1; have HN3 := ak_ hn3; have HL := ak_ hL; have HW1 := ak_ hW1; have HR1 := ak_ hR1; have HG1 := ak_ hG1; have HRM := ak_ hroom; have HI := ak_ qn0; have HSZ := ak_ hsz_
  have hrm : i + (xs.length - (i + 1)) ≤ c := by omega
  have HLn := ak_ (show L = xs.length - 1 by omega); clear hn1 hn2 hn3 hn4 hL hW1 hR1 hG1 hroom qss qn0 hsz_ hzs_ hvC hR hA2 hcm hm; go_enter Tryz.func123, Tryz.ntmps123
  go_wp2_with fail
  go_region_law (refine step_append_room rfl (.tmp 22) (.tmp 25) 26 rfl 85 i0_ 2 Tryz.underlying26 HI.out HSZ.out G 0 i c (by simp [Act.eval, Act.put]) A2 (xs.length - (i + 1)) (c - (i + 1)) news (by simp [Act.eval, Act.put]) HN1.out hsrc.out HN3.out hrm (fun j hj => by have h_ := HRM.out (0 + i * 2 + j) (by show _ < c * 2; have := HN1.out; omega); exact h_) ?_; rw [← HL.out, ← HW1.out])
  go_wp2
  go_ret
  refine ⟨by rw [HLn.out]; rfl, ?_, HG1.out.trans (qh2 W1 G (L * 2) zs_)⟩
  have he : (xs.eraseIdx i).length = xs.length - 1 := by rw [List.length_eraseIdx, if_pos hi]
  exact R_clear HR1.out (L * 2) zs_ (by rw [he, HLn.out]; exact Nat.le_refl _)
def qcA.f (l0 : List qac) (a1 a2 : Int) : Option (List qac) := if 0 ≤ a1 ∧ a1 < (l0.length : Int) ∧ a2 = a1 + 1 then some (l0.eraseIdx a1.toNat) else none
theorem qcA.own (A : Option Addr) (c base : Nat) (l0 : List qac) (a1 a2 : Int) (r : List qac) (w : World) (hbase : base ≤ w.heap.size) (hR : Kd.R qaL 85 w base (fun _ => True) (.slice A l0.length c) l0) (h : qcA.f l0 a1 a2 = some r) :
    Calls Tryz.prog 123 #[.slice A l0.length c, .int .i64 a1, .int .i64 a2] w fun e w' => ∃ v0_, e = .returned v0_ ∧ Kd.R qaL 85 w' base (fun _ => True) v0_ r ∧ w.grownBy w' (Value.slice A l0.length c).ownBlock := by
  unfold qcA.f at h; by_cases hc : 0 ≤ a1 ∧ a1 < (l0.length : Int) ∧ a2 = a1 + 1; rotate_left
  ·rw [if_neg hc] at h; exact absurd h (by simp)
  rw [if_pos hc] at h; obtain rfl := Option.some.inj h; obtain ⟨h0, h1, rfl⟩ := hc
  obtain ⟨i, rfl⟩ : ∃ i : Nat, a1 = (i : Int) := ⟨a1.toNat, by omega⟩
  rw [Int.toNat_natCast]; refine (qnb A c base _ l0 i w hbase hR (by omega)).mono ?_; rintro e w' ⟨rfl, hR2, hg⟩; exact ⟨_, rfl, hR2, hg⟩
def qeo.f (a0 : Int) : Option (Bool) := if a0 ≥ (-600) then (some (decide (a0 ≤ 600))) else (some false)
theorem qeo.calls (a0 : Int) (r : Bool) (w : World) (h : qeo.f a0 = some r) :
  Calls Tryz.prog 184 #[.int .i64 a0] w fun e w' => e = .returned (.bool r) ∧ qcN w w' := by
 have H : (if a0 ≥ (-600) then (some (decide (a0 ≤ 600))) else (some false)) = some r := h; clear h; by_cases c2 : a0 ≥ (-600)
 ·rw [if_pos c2] at H; have qfr : decide ((-600) ≤ a0) = true := decide_eq_true c2; clear c2; obtain rfl := sj_ H; go_enter Tryz.func184, Tryz.ntmps184; go_wp2
  go_ret
  exact ⟨qav, qcO⟩
 rw [if_neg c2] at H; have qfr : decide ((-600) ≤ a0) = false := decide_eq_false c2; clear c2; obtain rfl := sj_ H; go_enter Tryz.func184, Tryz.ntmps184; go_wp2
 go_ret
 exact ⟨qav, qcO⟩
def qfp.f (a0 : Int) (a1 : Int) : Option (Int) := if a1 = 0 then (none) else (some (Int.tmod (wrap64 ((Int.tmod a0 a1) + a1)) a1))
theorem qfp.calls (a0 : Int) (a1 : Int) (r : Int) (w : World) (h : qfp.f a0 a1 = some r) :
  Calls Tryz.prog 185 #[.int .i64 a0, .int .i64 a1] w fun e w' => e = .returned (.int .i64 r) ∧ qcN w w' := by
 have H : (if a1 = 0 then (none) else (some (Int.tmod (wrap64 ((Int.tmod a0 a1) + a1)) a1))) = some r := h; clear h; by_cases c3 : a1 = 0
 ·rw [if_pos c3] at H; exact absurd H (by simp)
 rw [if_neg c3] at H; have qfk : (a1 == 0) = false := beq_eq_false_iff_ne.mpr c3; have qmb : (a1 != 0) = true := bne_iff_ne.mpr c3; obtain rfl := sj_ H; go_enter Tryz.func185, Tryz.ntmps185; go_wp2
 go_ret
 exact ⟨qav, qcO⟩
mutual
def qaE.j0 : Nat → List (qac) → Int → Bool → Option ((List (qac)) × Bool)
 | 0, _, _, _ => none
 | k + 1, x0, x1, x16 => if x16 = true then (some (([] : List (qac)), false)) else (qaE.l0 k x1 (([] : List (qac))) x0 (x0.length : Int) 0)
def qaE.l0 : Nat → Int → List (qac) → List (qac) → Int → Int → Option ((List (qac)) × Bool)
 | 0, _, _, _, _, _ => none
 | k + 1, x1, x6, x18, x19, x20 => if x20 < x19 then (if 0 ≤ x20 then (if x20 < (x18.length : Int) then ((qfp.f (wrap64 (((qae x18 x20).f1) + x1)) ((qae x18 x20).f0)).bind fun qqi => (if x6.length < 8796093022208 then (qaE.l0 k x1 (x6 ++ [(⟨(qae x18 x20).f0, qqi⟩ : qac)]) x18 x19 (wrap64 (x20 + 1))) else (none))) else (none)) else (none)) else (some (x6, true))
end
def qaE.f (k : Nat) (l0 : List (qac)) (a1 : Int) : Option ((List (qac)) × Bool) := (qbc.f l0).bind fun qat => (if qat = true then ((qeo.f a1).bind fun qaR => (qaE.j0 k l0 a1 (!qaR))) else (qaE.j0 k l0 a1 true))
def qaE.T7 : Bool × List (List Nat × List Nat) := (true, [([], []), ([], []), ([1], [1]), ([], []), ([3], [3]), ([], []), ([4, 5], [4, 5]), ([], []), ([7], [7]), ([6, 8], [6, 8]), ([2, 9], [2, 9]), ([10], [10]), ([0, 11, 9], [0, 11]), ([12, 12, 0, 1, 2, 3, 4, 5, 6, 7, 8, 9, 10, 11, 12], [0, 12])])
def qaE.B7 : List Nat := [0, 0, 2, 0, 8, 0, 56, 0, 128, 504, 1022, 2046, 4095, 8191]
theorem qaE.tab7 : qhS .any (opsOf Tryz.f124 7) = qaE.T7 := by kernel_rfl
theorem qaE.ql8 : qeU qaE.T7.2 qaE.B7 = true := by kernel_rfl
theorem qaE.calls (k : Nat) (A0 : Option Addr) (c0 : Nat) (l0 : List (qac)) (a1 : Int) (r1 : List (qac)) (r2 : Bool) (w : World) (hr0 : Kd.C qaL w A0 l0.length l0) (hc0 : l0.length ≤ c0) (h : qaE.f k l0 a1 = some (r1, r2)) :
  Calls Tryz.prog 124 #[.slice A0 l0.length c0, .int .i64 a1] w fun e w' => ∃ v0_ : Value, e = .returned (.tuple #[v0_, .bool r2]) ∧ Kd.R qaL 85 w' w.heap.size (fun _ => True) v0_ r1 ∧ Below w.heap.size w w' := by
 have qmM := Tryz.underlying85; have HR0 := ak_ hr0; have HC0 := ak_ hc0; clear hr0 hc0; have HB := br_ w; have H : ((qbc.f l0).bind fun qat => (if qat = true then ((qeo.f a1).bind fun qaR => (qaE.j0 k l0 a1 (!qaR))) else (qaE.j0 k l0 a1 true))) = some (r1, r2) := h; clear h; have HC3 := ak_ H; clear H; go_enter Tryz.func124, Tryz.ntmps124
 go_upto_region 1 with (fail)
 go_cut [16] (fun v16 wc => ∃ (kq : Nat) (qmI : Bool), v16 = .bool qmI ∧ qag (qaE.j0 kq l0 a1 qmI = some (r1, r2)) ∧ qag (kq ≤ k) ∧ qag (Below w.heap.size w wc))
 case first =>
  have H := HC3.out; clear HC3; obtain ⟨qat, A4, H⟩ := qay H; (try dsimp only at H); by_cases c5 : qat = true
  ·subst c5; rw [if_pos rfl] at H; obtain ⟨qaR, A6, H⟩ := qay H; (try dsimp only at H); have H' := ak_ H; clear H
   go_wp2_with (first | (refine gl_ 10 Tryz.func53 #[.slice A0 l0.length c0] rfl qbK ?_; (with_reducible refine (qbc.calls _ _ l0 true _ ?qaA ?qaB A4.out).mono ?_); (case qaA => exact qha); (case qaB => exact qb5); rintro e w7 ⟨rfl, hb⟩; refine ⟨_, rfl, ?_⟩; replace HB := HB.mw hb; (try clear hb)) | (go_at_call 184; (with_reducible refine (qeo.calls a1 qaR _ A6.out).mono ?_); rintro e w' ⟨rfl, ⟨nd, rfl⟩⟩))
   go_meet
   case rel => exact ⟨_, (!qaR), qav, H', ⟨qih⟩, ⟨qan⟩⟩
  replace c5 := Bool.eq_false_iff.mpr c5; subst c5; rw [if_neg ff_] at H; have H' := ak_ H; clear H
  go_wp2_with (first | (refine gl_ 10 Tryz.func53 #[.slice A0 l0.length c0] rfl qbK ?_; (with_reducible refine (qbc.calls _ _ l0 false _ ?qaA ?qaB A4.out).mono ?_); (case qaA => exact qha); (case qaB => exact qb5); rintro e w8 ⟨rfl, hb⟩; refine ⟨_, rfl, ?_⟩; replace HB := HB.mw hb; (try clear hb)))
  go_meet
  case rel => exact ⟨_, (true), qav, H', ⟨qih⟩, ⟨qan⟩⟩
 case rest =>
  clear HC3; obtain ⟨kq, qmI, rfl, HA, HJ2, HB⟩ := hcut
  cases kq with
  | zero => exact absurd HA.out (by simp [qaE.j0])
  | succ kj2 =>
   have H := HA.out; clear HA; simp only [qaE.j0] at H; by_cases c9 : qmI = true
   ·subst c9; rw [if_pos rfl] at H; obtain ⟨rfl, rfl⟩ := qdF H; go_wp2
    go_ret2
    exact ⟨_, qcf, qgN, qan⟩
   replace c9 := Bool.eq_false_iff.mpr c9; subst c9; rw [if_neg ff_] at H
   obtain ⟨qmJ, hy_⟩ : ∃ y_ : List (qac), y_ = (([] : List (qac))) := ⟨_, rfl⟩
   replace H : (qaE.l0 kj2 a1 qmJ l0 (l0.length : Int) 0) = some (r1, r2) := qe1; have ql2 := ak_ hy_; clear hy_; have H' := ak_ H; clear H
   go_wp2_with (first | ((with_reducible refine qal (N := 17) rfl ?_); refine Kd.qhq qaL _ 85 ?hg (N := 17) ?hd (xs := ([] : List (qac))) (inner := []) (ok := fun _ => True) (okp := fun _ => True) ?hr ?hp (fun _ hk => hk) trivial (Below.refl _ _) (Nat.le_refl _) (by simp) ?_; (case hd => rfl); (case hg => rfl); (case hr => exact qbe); (case hp => exact (qef.none _ _)); intro qtn w10 qso hb hg_ hnew_; clear hg_ hnew_; (first | rw [← ql2.out] at qso | (simp only [Int.reduceToNat] at qso; rw [← ql2.out] at qso)); have qeI := ak_ (Kd.qax qso (qab qan)); replace HB := HB.mw hb; clear hb qso))
   go_loopg [6, 20] kj2 (fun kq v6 v20 w' => ∃ (qhn : List (qac)) (qeM : Int), v20 = .int .i64 qeM ∧ qag (qaE.l0 kq a1 qhn l0 (l0.length : Int) qeM = some (r1, r2)) ∧ qag (kq ≤ kj2) ∧ qag (Kd.R qaL 85 w' w.heap.size (fun _ => True) v6 qhn) ∧ qag (Below w.heap.size w w'))
   case atStart => exact ⟨(qmJ), (0), qav, H', ⟨Nat.le_refl _⟩, ⟨by apply_rules only [qeI.out, Kd.qap, Kd.qaq, Kd.qaw]⟩, ⟨qan⟩⟩
   case round =>
    clear H'; (try clear c9); obtain ⟨qhn, qeM, rfl, HA, HK2, qfv, HB⟩ := hrel
    cases gk with
    | zero => exact absurd HA.out (by simp [qaE.l0])
    | succ k2 =>
     have H := HA.out; clear HA; simp only [qaE.l0] at H; by_cases c12 : qeM < (l0.length : Int); rotate_left
     ·rw [if_neg c12] at H; have qhg := decide_eq_false c12; clear c12; obtain ⟨rfl, rfl⟩ := qdF H; go_wp2
      go_ret2
      exact ⟨_, qcf, by (with_reducible repeat (first | apply Kd.qap | apply Kd.qaq | apply Kd.qaw)); exact qfv.out, qan⟩
     rw [if_pos c12] at H; have qhg := decide_eq_true c12; clear c12; obtain ⟨c13, H⟩ := qck H; have qk6 := decide_eq_true c13; clear c13; obtain ⟨c14, H⟩ := qck H; have qj5 := decide_eq_true c14; clear c14; obtain ⟨qqi, A15, H⟩ := qay H; (try dsimp only at H); obtain ⟨c16, H⟩ := qck H; have LMc16 := ak_ c16; clear c16
     obtain ⟨y109, hy_⟩ : ∃ y_ : List (qac), y_ = (qhn ++ [(⟨(qae l0 qeM).f0, qqi⟩ : qac)]) := ⟨_, rfl⟩
     replace H : (qaE.l0 k2 a1 y109 l0 (l0.length : Int) (wrap64 (qeM + 1))) = some (r1, r2) := qe1; have Ny109 := ak_ hy_; clear hy_; have H' := ak_ H; clear H; have qfI : 0 ≤ (qeM : Int) := of_decide_eq_true qaO; have qfK : qeM < (l0.length : Int) := of_decide_eq_true qaO; obtain ⟨qgS, qjC, qcr, qig⟩ := qdW HR0.out qeM qfI qfK
     cases qjC
     replace qcr := (HB.out.cell (World.block_lt_of_cell? w _ qcr)).trans qcr; replace qig := (HB.out.cell (World.block_lt_of_cell? w _ qig)).trans qig; replace qfI := eq_true qfI; replace qfK := eq_true qfK
     try go_wp2_with (first | ((with_reducible refine qal (N := 8) rfl ?_); refine bx_ 8 rfl (cs := #[.int .i64 0, .int .i64 0]) (t := 85) qbe ?_; intro qeD hg w17 hbox hb; replace qfv := ak_ (Kd.qbv (Kd.qhK qo1 qeD (Nat.le_of_eq hg.symm)) hb); have qfh := ak_ (hbox); have GW107 := ak_ (HB.ge hg); have qn3 := ak_ (HB.ge hg); replace HB := HB.mw hb; clear hb hbox hg; obtain ⟨hcz18_0, hcz18_1, hfz18_0, hfz18_1⟩ := qbG qfh.out))
     have n0_ : qag (Kd.R qaL 85 ((w17.setCell ⟨qeD, 0, none⟩ (.int .i64 ((qae l0 qeM).f0))).setCell ⟨qeD, 1, none⟩ (.int .i64 ((qae l0 qeM).f1))) w.heap.size (fun k_ => k_ ≠ qeD) u6 qhn) := ⟨by (with_reducible repeat (first | apply Kd.qap | apply Kd.qaq | apply Kd.qaw)); exact Kd.qa9 (Kd.qcV (p := ⟨qeD, 1, none⟩) (Kd.qcV (p := ⟨qeD, 0, none⟩) (Kd.qa9 qfv.out (fun k_ hk => (⟨hk, hk.2⟩ : _ ∧ k_ ≠ qeD))) (fun _ hk => hk.2) (.int .i64 ((qae l0 qeM).f0))) (fun _ hk => hk.2) (.int .i64 ((qae l0 qeM).f1))) (fun _ hk => hk.1.2)⟩
     have n1_ : qag (((w17.setCell ⟨qeD, 0, none⟩ (.int .i64 ((qae l0 qeM).f0))).setCell ⟨qeD, 1, none⟩ (.int .i64 ((qae l0 qeM).f1))).heap[qeD]? = some (.cells #[.int .i64 ((qae l0 qeM).f0), .int .i64 ((qae l0 qeM).f1)] 85 (0, 0))) := ⟨by (with_reducible repeat (first | refine qak ?_ _ | refine qam ?_ | refine qaj ?_ _)); refine qbl (cs := #[.int .i64 ((qae l0 qeM).f0), .int .i64 0]) ?_ 1 _ rfl; (with_reducible repeat (first | refine qak ?_ _ | refine qam ?_ | refine qaj ?_ _)); refine qbl (cs := #[.int .i64 0, .int .i64 0]) ?_ 0 _ rfl; apply_rules only [qfh.out, qak, qam, qaj]⟩
     have n2_ : qag (Below w.heap.size w ((w17.setCell ⟨qeD, 0, none⟩ (.int .i64 ((qae l0 qeM).f0))).setCell ⟨qeD, 1, none⟩ (.int .i64 ((qae l0 qeM).f1)))) := ⟨by apply_rules only [HB.out, qai, qaf, qah, qas, qn3.out]⟩
     (try clear qfv); (try clear qfh); (try clear HB)
     generalize ((w17.setCell ⟨qeD, 0, none⟩ (.int .i64 ((qae l0 qeM).f0))).setCell ⟨qeD, 1, none⟩ (.int .i64 ((qae l0 qeM).f1))) = w19 at n0_ n1_ n2_ ⊢
     have qfv := n0_; have qfh := n1_; have HB := n2_; clear n0_ n1_ n2_; replace qfv := ak_ (Kd.qaw qfv.out); replace qfh := ak_ (qam qfh.out); replace HB := ak_ (qah HB.out); refine qe6 (n := 14) (S := fun w' => w'.cell? ⟨qeD, 0, none⟩ = some (.int .i64 ((qae l0 qeM).f0)) ∧ w'.cell? ⟨qeD, 1, none⟩ = some (.int .i64 ((qae l0 qeM).f1))) (ds := []) (rA_ [0, 14]) (by kernel_rfl) rfl rfl ⟨qed qfh.out, qbC qfh.out⟩ (fun hHeld => ?_); refine qdn qaE.tab7 qaE.ql8 (fun HT_ HW_ => ?_)
     generalize w19.drew = w20 at qfv qfh HB hHeld ⊢
     refine pu_ 0 24 [1, 13] ?_; refine pu_ 1 25 [2, 12] ?_; refine pu_ 3 27 [2, 1, 1, 10] ?_; refine pu_ 5 29 [2, 1, 1, 1, 1, 8] ?_; refine pu_ 7 31 [2, 1, 1, 1, 1, 1, 1, 6] ?_; refine qis 2 26 [4, 1, 1, 1, 1, 6] ?_; refine qis 4 28 [6, 1, 1, 6] ?_; refine pu_ 6 30 [8, 6] ?_; refine qis 8 32 [9, 5] ?_; refine qfH (i := 9) (N := some 33) (rA_ [10, 4]) rfl rfl (qc4 HT_.out (by kernel_rfl)) (by decide) (fun K hK => ?_); refine qfR Tryz.func185 (by kernel_rfl) rfl #[.int .i64 (wrap64 (((qae l0 qeM).f1) + a1)), .int .i64 ((qae l0 qeM).f0)] (by rfl) rfl rfl qbK ?_
     with_reducible refine (qfp.calls (wrap64 (((qae l0 qeM).f1) + a1)) ((qae l0 qeM).f0) qqi _ A15.out).mono ?_
     rintro e w' ⟨rfl, ⟨nd, rfl⟩⟩; refine ⟨_, rfl, ?_⟩; refine hK.out _ _ ⟨qed qfh.out, qbC qfh.out⟩ (fun hHeld => ?_); clear hK K; refine nm_ 33 ?_; refine pu_ 10 34 [11, 3] ?_; refine qfH (i := 11) (N := some 35) (rA_ [12, 2]) rfl rfl (qc4 HT_.out (by kernel_rfl)) (by decide) (fun K hK => ?_); refine qiL (w1 := ?_) (v := ?_) (by rfl) rfl ?_ ?_; rotate_left 2
     ·go_simp; constructor
      ·rfl
      rfl
     refine hK.out _ _ ⟨(qba (qaj qfh.out _) 0).trans rfl, (qba (qaj qfh.out _) 1).trans rfl⟩ (fun hHeld => ?_); clear hK K; refine nm_ 35 ?_; refine qfH (i := 12) (N := some 36) (rA_ [13, 1]) rfl rfl (qc4 HT_.out (by kernel_rfl)) (by decide) (fun K hK => ?_); refine Kd.qeV qaL (w0 := w) w.heap.size (by rfl) (.tmp 24) (.tmp 35) 26 85 (.agg #[(.int .i64 0), (.int .i64 0)]) 16 rfl Tryz.underlying26 qfT rfl (by decide) (by omega) u6 qhn (⟨(qae l0 qeM).f0, qqi⟩ : qac) [.int .i64 ((qae l0 qeM).f0), .int .i64 qqi] (fun k_ => k_ ≠ qeD) (fun _ => False) rfl rfl ?aP (fun _ hk => hk.elim) ?aF ?aO ?aB ?aS ?aL ?_
     (case aP => exact qdm _ _ _ (⟨(qae l0 qeM).f0, qqi⟩ : qac))
     (case aB => exact (by apply_rules only [HB.out, qai, qaf, qah, qas, qn3.out]))
     (case aF => exact (fun k_ hk => Kd.qnk (g := qeD) (o := .cells #[.int .i64 ((qae l0 qeM).f0), .int .i64 ((qae l0 qeM).f1)] 85 (0, 0)) (by apply_rules only [qfh.out, qak, qam, qaj]) k_ hk))
     (case aO => exact qo1)
     (case aS => exact (qab (by apply_rules only [HB.out, qai, qaf, qah, qas, qn3.out])))
     (case aL => have := LMc16.out; omega)
     intro v110 w21 ho hb hg hat; rw [← Ny109.out] at ho; replace qfh := ak_ (qdH (g := qeD) (o := .cells #[.int .i64 ((qae l0 qeM).f0), .int .i64 ((qae l0 qeM).f1)] 85 (0, 0)) (by apply_rules only [qfh.out, qak, qam, qaj]) hg (Kd.qmW qfv.out (fun _ hk => hk))); replace HB := ak_ (hb); have HO111 := ak_ (ho); clear qfv; clear ho hb hg hat; refine hK.out _ _ ⟨qed qfh.out, qbC qfh.out⟩ (fun hHeld => ?_); clear hK K; refine nm_ 36 ?_; refine pu_ 13 6 [14] ?_; refine qgu (qeC HT_.out (by kernel_rfl)) ?_
     try go_wp2
     go_roundg k2
     case measure => have := HJ2.out; have := HK2.out; omega
     case rel => exact ⟨(y109), (wrap64 (qeM + 1)), qav, H', ⟨by have := HJ2.out; have := HK2.out; omega⟩, ⟨by (with_reducible repeat (first | apply Kd.qap | apply Kd.qaq | apply Kd.qaw)); exact Kd.qa9 HO111.out (fun _ hk => trivial)⟩, ⟨by apply_rules only [HB.out, qai, qaf, qah, qas, qn3.out]⟩⟩
def qbf.l0 : Nat → Int → Int → Option (Int)
 | 0, _, _ => none
 | k + 1, x0, x3 => if (wrap64 (x3 * x3)) ≤ x0 then (if x3 = 0 then (none) else (if (Int.tmod x0 x3) = 0 then (some x3) else (qbf.l0 k x0 (wrap64 (x3 + 1))))) else (some x0)
def qbf.f (k : Nat) (a0 : Int) : Option (Int) := qbf.l0 k a0 2
theorem qbf.calls (k : Nat) (a0 : Int) (r : Int) (w : World) (h : qbf.f k a0 = some r) :
  Calls Tryz.prog 225 #[.int .i64 a0] w fun e w' => e = .returned (.int .i64 r) ∧ qcN w w' := by
 have H : (qbf.l0 k a0 2) = some r := h; clear h; have H' := ak_ H; clear H; go_enter Tryz.func225, Tryz.ntmps225; go_wp2
 go_loopg [3] k (fun kq v3 w' => ∃ (qbx : Int), v3 = .int .i64 qbx ∧ qag (qbf.l0 kq a0 qbx = some r) ∧ qag (kq ≤ k) ∧ qcN w w')
 case atStart => exact ⟨(2), qav, H', ⟨Nat.le_refl _⟩, qcO⟩
 case round =>
  clear H'; obtain ⟨qbx, rfl, HA, HK1, ⟨m1, rfl⟩⟩ := hrel
  cases gk with
  | zero => exact absurd HA.out (by simp [qbf.l0])
  | succ k1 =>
   have H := HA.out; clear HA; simp only [qbf.l0] at H; by_cases c2 : (wrap64 (qbx * qbx)) ≤ a0; rotate_left
   ·rw [if_neg c2] at H; have qfr := decide_eq_false c2; clear c2; obtain rfl := sj_ H; go_wp2
    go_ret
    exact ⟨qav, qcO⟩
   rw [if_pos c2] at H; have qfr := decide_eq_true c2; clear c2; by_cases c3 : qbx = 0
   ·rw [if_pos c3] at H; exact absurd H (by simp)
   rw [if_neg c3] at H; have qfk : (qbx == 0) = false := beq_eq_false_iff_ne.mpr c3; have qmb : (qbx != 0) = true := bne_iff_ne.mpr c3; by_cases c4 : (Int.tmod a0 qbx) = 0
   ·rw [if_pos c4] at H; have qfx : ((Int.tmod a0 qbx) == 0) = true := beq_iff_eq.mpr c4; have qmK : ((Int.tmod a0 qbx) != 0) = false := bne_eq_false_iff_eq.mpr c4; clear c4; obtain rfl := sj_ H; go_wp2
    go_ret
    exact ⟨qav, qcO⟩
   rw [if_neg c4] at H; have qfx : ((Int.tmod a0 qbx) == 0) = false := beq_eq_false_iff_ne.mpr c4; have qmK : ((Int.tmod a0 qbx) != 0) = true := bne_iff_ne.mpr c4; have H' := ak_ H; clear H; go_wp2
   go_roundg k1
   case measure => have := HK1.out; omega
   case rel => exact ⟨(wrap64 (qbx + 1)), qav, H', ⟨qcW⟩, qcO⟩
def qdf.f (k : Nat) (a0 : Int) : Option (Bool) := if a0 ≥ 2 then ((qbf.f k a0).bind fun qat => (some (qat == a0))) else (some false)
theorem qdf.calls (k : Nat) (a0 : Int) (r : Bool) (w : World) (h : qdf.f k a0 = some r) :
  Calls Tryz.prog 226 #[.int .i64 a0] w fun e w' => e = .returned (.bool r) ∧ qcN w w' := by
 have H : (if a0 ≥ 2 then ((qbf.f k a0).bind fun qat => (some (qat == a0))) else (some false)) = some r := h; clear h; by_cases c2 : a0 ≥ 2
 ·rw [if_pos c2] at H; have qfr : decide (2 ≤ a0) = true := decide_eq_true c2; clear c2; obtain ⟨qat, A3, H⟩ := qay H; (try dsimp only at H); obtain rfl := sj_ H; go_enter Tryz.func226, Tryz.ntmps226
  go_wp2_with (first | (go_at_call 225; (with_reducible refine (qbf.calls k a0 qat _ A3.out).mono ?_); rintro e w' ⟨rfl, ⟨nd, rfl⟩⟩))
  go_ret
  exact ⟨qav, qcO⟩
 rw [if_neg c2] at H; have qfr : decide (2 ≤ a0) = false := decide_eq_false c2; clear c2; obtain rfl := sj_ H; go_enter Tryz.func226, Tryz.ntmps226; go_wp2
 go_ret
 exact ⟨qav, qcO⟩
def qaQ.l0 : Nat → Int → List Int → Int → Option (List Int)
 | 0, _, _, _ => none
 | k + 1, x1, x5, x6 => if x6 ≤ x1 then ((qdf.f k x6).bind fun qcg => (if qcg = true then (if x5.length < 17592186044416 then (qaQ.l0 k x1 (x5 ++ [x6]) (wrap64 (x6 + 1))) else (none)) else (qaQ.l0 k x1 x5 (wrap64 (x6 + 1))))) else (some x5)
def qaQ.f (k : Nat) (a0 : Int) (a1 : Int) : Option (List Int) := qaQ.l0 k a1 (([] : List Int)) a0
theorem qaQ.calls (k : Nat) (a0 : Int) (a1 : Int) (r : List Int) (w : World) (h : qaQ.f k a0 a1 = some r) :
  Calls Tryz.prog 191 #[.int .i64 a0, .int .i64 a1] w fun e w' => ∃ v0_ : Value, e = .returned (v0_) ∧ Kd.R (Kd.int .i64) 3 w' w.heap.size (fun _ => True) v0_ r ∧ Below w.heap.size w w' := by
 have HB := br_ w; have H : (qaQ.l0 k a1 (([] : List Int)) a0) = some r := h; clear h
 obtain ⟨qff, hy_⟩ : ∃ y_ : List Int, y_ = (([] : List Int)) := ⟨_, rfl⟩
 replace H : (qaQ.l0 k a1 qff a0) = some r := qe1; have qei := ak_ hy_; clear hy_; have H' := ak_ H; clear H; go_enter Tryz.func191, Tryz.ntmps191
 go_wp2_with (first | ((with_reducible refine qal (N := 7) rfl ?_); refine li_ (Kd.int .i64) 3 7 rfl (xs := ([] : List Int)) qbe ?_; intro qit w3 ho4 hb; (first | rw [← qei.out] at ho4 | (simp only [Int.reduceToNat] at ho4; rw [← qei.out] at ho4)); have qc6 := ak_ (Kd.qax ho4 (qab qan)); replace HB := HB.mw hb; clear hb ho4))
 go_loopg [5, 6] k (fun kq v5 v6 w' => ∃ (qcn : List Int) (qdl : Int), v6 = .int .i64 qdl ∧ qag (qaQ.l0 kq a1 qcn qdl = some r) ∧ qag (kq ≤ k) ∧ qag (Kd.R (Kd.int .i64) 3 w' w.heap.size (fun _ => True) v5 qcn) ∧ qag (Below w.heap.size w w'))
 case atStart => exact ⟨(qff), (a0), qav, H', ⟨Nat.le_refl _⟩, ⟨qo0⟩, ⟨qan⟩⟩
 case round =>
  clear H'; obtain ⟨qcn, qdl, rfl, HA, HK1, qgC, HB⟩ := hrel
  cases gk with
  | zero => exact absurd HA.out (by simp [qaQ.l0])
  | succ k1 =>
   have H := HA.out; clear HA; simp only [qaQ.l0] at H; by_cases c5 : qdl ≤ a1; rotate_left
   ·rw [if_neg c5] at H; have qgJ := decide_eq_false c5; clear c5; obtain rfl := sj_ H; go_wp2
    go_ret
    exact ⟨_, qcf, k65_, qan⟩
   rw [if_pos c5] at H; have qgJ := decide_eq_true c5; clear c5; obtain ⟨qcg, A6, H⟩ := qay H; (try dsimp only at H); by_cases c7 : qcg = true; rotate_left
   ·replace c7 := Bool.eq_false_iff.mpr c7; subst c7; rw [if_neg ff_] at H; have H' := ak_ H; clear H
    go_wp2_with (first | (refine gl_ 15 Tryz.func226 #[.int .i64 qdl] rfl qbK ?_; (with_reducible refine (qdf.calls k1 qdl false _ A6.out).mono ?_); rintro e w' ⟨rfl, ⟨nd, rfl⟩⟩; refine ⟨_, rfl, ?_⟩))
    go_roundg k1
    case measure => have := HK1.out; omega
    case rel => exact ⟨(qcn), (wrap64 (qdl + 1)), qav, H', ⟨qcW⟩, ⟨qn1⟩, ⟨qan⟩⟩
   subst c7; rw [if_pos rfl] at H; obtain ⟨c8, H⟩ := qck H; have LMc8 := ak_ c8; clear c8
   obtain ⟨qhY, hy_⟩ : ∃ y_ : List Int, y_ = (qcn ++ [qdl]) := ⟨_, rfl⟩
   replace H : (qaQ.l0 k1 a1 qhY (wrap64 (qdl + 1))) = some r := qe1; have qhp := ak_ hy_; clear hy_; have H' := ak_ H; clear H
   go_wp2_with (first | (refine gl_ 15 Tryz.func226 #[.int .i64 qdl] rfl qbK ?_; (with_reducible refine (qdf.calls k1 qdl true _ A6.out).mono ?_); rintro e w' ⟨rfl, ⟨nd, rfl⟩⟩; refine ⟨_, rfl, ?_⟩) | ((with_reducible refine qa2 (b := .append) (xs := #[.tmp 16, .tmp 18]) rfl ?_); at_builtin; refine Kd.qcH (Kd.int .i64) (w0 := w) w.heap.size rfl (.tmp 16) (.tmp 18) 48 3 (.int .i64 0) 8 rfl Tryz.underlying48 info3 rfl (by decide) (by omega) u5 qcn qdl [.int .i64 qdl] (fun _ => True) (fun _ => False) rfl rfl ?aP (fun _ hk => hk.elim) ?aF ?aO ?aB ?aS ?aL ?_; (case aP => exact rfl); (case aB => exact qan); (case aF => exact (fun _ _ => trivial)); (case aO => exact qn1); (case aS => exact (qab qan)); (case aL => have := LMc8.out; omega); intro qq6 w9 ho hb hg hat; rw [← qhp.out] at ho; replace HB := ak_ (hb); have qe2 := ak_ (ho); clear qgC; clear ho hb hg hat))
   go_roundg k1
   case measure => have := HK1.out; omega
   case rel => exact ⟨(qhY), (wrap64 (qdl + 1)), qav, H', ⟨qcW⟩, ⟨by apply_rules only [qe2.out, Kd.qap, Kd.qaq, Kd.qaw]⟩, ⟨qan⟩⟩
def qbt.l0 : Nat → List (qac) → List Int → Int → Int → Option ((List (qac)))
 | 0, _, _, _, _ => none
 | k + 1, x3, x9, x10, x11 => if x11 < x10 then (if 0 ≤ x11 then (if x11 < (x9.length : Int) then (if x3.length < 8796093022208 then (qbt.l0 k (x3 ++ [(⟨rd x9 x11, 0⟩ : qac)]) x9 x10 (wrap64 (x11 + 1))) else (none)) else (none)) else (none)) else (some x3)
def qbt.f (k : Nat) (a0 : Int) : Option ((List (qac))) := (qaQ.f k 0 37).bind fun qcg => (if 0 ≤ a0 then (if a0 ≤ (qcg.length : Int) then ((some (qcg.take (a0 : Int).toNat : List Int)).bind fun qfM => (qbt.l0 k (([] : List (qac))) qfM (qfM.length : Int) 0)) else (none)) else (none))
theorem qbt.calls (k : Nat) (a0 : Int) (r : List (qac)) (w : World) (h : qbt.f k a0 = some r) :
  Calls Tryz.prog 186 #[.int .i64 a0] w fun e w' => ∃ v0_ : Value, e = .returned (v0_) ∧ Kd.R qaL 85 w' w.heap.size (fun _ => True) v0_ r ∧ Below w.heap.size w w' := by
 have qmM := Tryz.underlying85; have HB := br_ w; have H : ((qaQ.f k 0 37).bind fun qcg => (if 0 ≤ a0 then (if a0 ≤ (qcg.length : Int) then ((some (qcg.take (a0 : Int).toNat : List Int)).bind fun qfM => (qbt.l0 k (([] : List (qac))) qfM (qfM.length : Int) 0)) else (none)) else (none))) = some r := h; clear h
 obtain ⟨qff, hy_⟩ : ∃ y_ : List (qac), y_ = (([] : List (qac))) := ⟨_, rfl⟩
 replace H : ((qaQ.f k 0 37).bind fun qcg => (if 0 ≤ a0 then (if a0 ≤ (qcg.length : Int) then ((some (qcg.take (a0 : Int).toNat : List Int)).bind fun qfM => (qbt.l0 k qff qfM (qfM.length : Int) 0)) else (none)) else (none))) = some r := qe1; have qei := ak_ hy_; clear hy_; obtain ⟨qcg, A2, H⟩ := qay H; (try dsimp only at H); obtain ⟨c3, H⟩ := qck H; have qfk := eq_true c3; have qmb := decide_eq_true c3; clear c3; obtain ⟨c4, H⟩ := qck H; have qfx := eq_true c4; have qmK := decide_eq_true c4; clear c4
 obtain ⟨qfM, hy_⟩ : ∃ y_ : List Int, y_ = (qcg.take (a0 : Int).toNat) := ⟨_, rfl⟩
 replace H : (qbt.l0 k qff qfM (qfM.length : Int) 0) = some r := qe1; have qjA := ak_ hy_; clear hy_; have H' := ak_ H; clear H; go_enter Tryz.func186, Tryz.ntmps186
 go_wp2_with (first | ((with_reducible refine qal (N := 6) rfl ?_); refine Kd.qhq qaL _ 85 ?hg (N := 6) ?hd (xs := ([] : List (qac))) (inner := []) (ok := fun _ => True) (okp := fun _ => True) ?hr ?hp (fun _ hk => hk) trivial (Below.refl _ _) (Nat.le_refl _) (by simp) ?_; (case hd => rfl); (case hg => rfl); (case hr => exact qbe); (case hp => exact (qef.none _ _)); intro qit w5 ho6 hb hg_ hnew_; clear hg_ hnew_; (first | rw [← qei.out] at ho6 | (simp only [Int.reduceToNat] at ho6; rw [← qei.out] at ho6)); have qc6 := ak_ (Kd.qax ho6 (qab qan)); replace HB := HB.mw hb; clear hb ho6) | (refine gl_ 7 Tryz.func191 #[.int .i64 0, .int .i64 37] rfl qbK ?_; (with_reducible refine (qaQ.calls k 0 37 qcg _ A2.out).mono ?_); rintro e w7 ⟨v105, rfl, ho0, hb⟩; refine ⟨_, rfl, ?_⟩; replace qc6 := qc6.mw hb; have qeh := ak_ (Kd.qax ho0 (qab qan)); replace HB := HB.mw hb; (try clear hb ho0); obtain ⟨Ao9, co9, eo9⟩ := Kd.qaI qeh.out; subst eo9; have q8 : (a0 : Int) ≤ ((qcg.length : Int) : Int) := of_decide_eq_true qaO; obtain ⟨i08, hi08, _, hsz8, _⟩ := info_parts info3; have hroom8 : qcg.length ≤ co9 := (Kd.qao qeh.out).2.1; have hC8 : Kd.C (Kd.int .i64) _ Ao9 qcg.length qcg := (Kd.qao qeh.out).2.2; have hcut8 := qj9 (P := Tryz.prog) 48 3 .i64 Tryz.underlying48 hi08 Ao9 qcg.length co9 a0 (of_decide_eq_true qaO) q8 hroom8; have hr8 := Kd.qmQ (m := (a0 : Int).toNat) hC8 (by omega); have hy8 : qfM.length = (a0 : Int).toNat := (by rw [qjA.out, List.length_take]; omega); rw [← qjA.out] at hr8; rw [← hy8] at hcut8; have HR110 := ak_ hr8; have HC110 := ak_ (show qfM.length ≤ co9 from by omega); clear hr8 hC8 hroom8 hi08 hsz8; have KY8 := ak_ hy8; clear hy8; have KL8 := ak_ (show (a0 : Int).toNat ≤ qcg.length from by omega); replace q8 := eq_true q8))
 go_loopg [3, 11] k (fun kq v3 v11 w' => ∃ (qbx : List (qac)) (qcs : Int), v11 = .int .i64 qcs ∧ qag (qbt.l0 kq qbx qfM (qfM.length : Int) qcs = some r) ∧ qag (kq ≤ k) ∧ qag (Kd.R qaL 85 w' w.heap.size (fun _ => True) v3 qbx) ∧ qag (Kd.R (Kd.int .i64) 3 w' w.heap.size (fun _ => True) (.slice Ao9 qcg.length co9) qcg) ∧ qag (Below w.heap.size w w'))
 case atStart => exact ⟨(qff), (0), qav, H', ⟨Nat.le_refl _⟩, ⟨qo0⟩, ⟨qsL⟩, ⟨qan⟩⟩
 case round =>
  clear H'
  skip
  obtain ⟨qbx, qcs, rfl, HA, HK1, qdq, HOQ_, HB⟩ := hrel
  cases gk with
  | zero => exact absurd HA.out (by simp [qbt.l0])
  | succ k1 =>
   have H := HA.out; clear HA; simp only [qbt.l0] at H; by_cases c10 : qcs < (qfM.length : Int); rotate_left
   ·rw [if_neg c10] at H; have qgt := decide_eq_false c10; clear c10; obtain rfl := sj_ H; go_wp2
    go_ret
    exact ⟨_, qcf, k64_, qan⟩
   rw [if_pos c10] at H; have qgt := decide_eq_true c10; clear c10; obtain ⟨c11, H⟩ := qck H; have qfQ := decide_eq_true c11; clear c11; obtain ⟨c12, H⟩ := qck H; have qhg := decide_eq_true c12; clear c12; obtain ⟨c13, H⟩ := qck H; have LMc13 := ak_ c13; clear c13
   obtain ⟨y112, hy_⟩ : ∃ y_ : List (qac), y_ = (qbx ++ [(⟨rd qfM qcs, 0⟩ : qac)]) := ⟨_, rfl⟩
   replace H : (qbt.l0 k1 y112 qfM (qfM.length : Int) (wrap64 (qcs + 1))) = some r := qe1; have Ny112 := ak_ hy_; clear hy_; have H' := ak_ H; clear H; have p111 : 0 ≤ (qcs : Int) := of_decide_eq_true qaO; have q111 : qcs < (qfM.length : Int) := of_decide_eq_true qaO; obtain ⟨ad111, e111, hx111_0⟩ := Kd.qdO (show Kd.C (Kd.int .i64) _ Ao9 qfM.length qfM from by have h_ := Kd.qmQ (m := (a0 : Int).toNat) (Kd.qao HOQ_.out).2.2 KL8.out; rw [← qjA.out] at h_; exact h_) qcs p111 q111
   cases e111
   replace p111 := eq_true p111; replace q111 := eq_true q111
   go_wp2_with (first | ((with_reducible refine qa2 (b := .append) (xs := #[.tmp 15, .tmp 18]) rfl ?_); at_builtin; refine Kd.qcH qaL (w0 := w) w.heap.size rfl (.tmp 15) (.tmp 18) 26 85 (.agg #[(.int .i64 0), (.int .i64 0)]) 16 rfl Tryz.underlying26 qfT rfl (by decide) (by omega) u3 qbx (⟨rd qfM qcs, 0⟩ : qac) [.int .i64 (rd qfM qcs), .int .i64 0] (fun _ => True) (fun _ => False) rfl rfl ?aP (fun _ hk => hk.elim) ?aF ?aO ?aB ?aS ?aL ?_; (case aP => exact qdm _ _ _ (⟨rd qfM qcs, 0⟩ : qac)); (case aB => exact qan); (case aF => exact (fun _ _ => trivial)); (case aO => exact qhX); (case aS => exact (qab qan)); (case aL => have := LMc13.out; omega); intro v113 w14 ho hb hg hat; rw [← Ny112.out] at ho; have n0_ := ak_ (hb); have n1_ := ak_ (ho); have n2_ := ak_ (Kd.qfw (by apply_rules only [HOQ_.out, Kd.qap, Kd.qaq, Kd.qaw]) (Kd.qe7 qhX) (by decide) hg); clear HOQ_; have HOQ_ := n2_; clear n2_; clear HB; clear qdq; have HB := n0_; have HO114 := n1_; clear n0_ n1_; clear ho hb hg hat))
   go_roundg k1
   case measure => have := HK1.out; omega
   case rel => exact ⟨(y112), (wrap64 (qcs + 1)), qav, H', ⟨qcW⟩, ⟨by apply_rules only [HO114.out, Kd.qap, Kd.qaq, Kd.qaw]⟩, ⟨by apply_rules only [HOQ_.out, Kd.qap, Kd.qaq, Kd.qaw]⟩, ⟨qan⟩⟩
def qcB.f (k : Nat) (a0 : Int) : Option ((List (qac)) × Bool) := if a0 < 0 then (some (([] : List (qac)), false)) else (if a0 > 12 then (some (([] : List (qac)), false)) else ((qbt.f k a0).bind fun qat => (some (qat, true))))
theorem qcB.calls (k : Nat) (a0 : Int) (r1 : List (qac)) (r2 : Bool) (w : World) (h : qcB.f k a0 = some (r1, r2)) :
  Calls Tryz.prog 125 #[.int .i64 a0] w fun e w' => ∃ v0_ : Value, e = .returned (.tuple #[v0_, .bool r2]) ∧ Kd.R qaL 85 w' w.heap.size (fun _ => True) v0_ r1 ∧ Below w.heap.size w w' := by
 have HB := br_ w; have H : (if a0 < 0 then (some (([] : List (qac)), false)) else (if a0 > 12 then (some (([] : List (qac)), false)) else ((qbt.f k a0).bind fun qat => (some (qat, true))))) = some (r1, r2) := h; clear h; by_cases c2 : a0 < 0
 ·rw [if_pos c2] at H; have qfr := decide_eq_true c2; clear c2; obtain ⟨rfl, rfl⟩ := qdF H; go_enter Tryz.func125, Tryz.ntmps125; go_wp2
  go_ret2
  exact ⟨_, qcf, qgN, qan⟩
 rw [if_neg c2] at H; have qfr := decide_eq_false c2; clear c2; by_cases c3 : a0 > 12
 ·rw [if_pos c3] at H; have qfk : decide (12 < a0) = true := decide_eq_true c3; clear c3; obtain ⟨rfl, rfl⟩ := qdF H; go_enter Tryz.func125, Tryz.ntmps125; go_wp2
  go_ret2
  exact ⟨_, qcf, qgN, qan⟩
 rw [if_neg c3] at H; have qfk : decide (12 < a0) = false := decide_eq_false c3; clear c3; obtain ⟨qat, A4, H⟩ := qay H; (try dsimp only at H); obtain ⟨rfl, rfl⟩ := qdF H; go_enter Tryz.func125, Tryz.ntmps125
 go_wp2_with (first | (refine gl_ 11 Tryz.func186 #[.int .i64 a0] rfl qbK ?_; (with_reducible refine (qbt.calls k a0 qat _ A4.out).mono ?_); rintro e w5 ⟨qit, rfl, ho0, hb⟩; refine ⟨_, rfl, ?_⟩; have qc6 := ak_ (Kd.qax ho0 (qab qan)); replace HB := HB.mw hb; (try clear hb ho0)))
 go_ret2
 exact ⟨_, qcf, by (with_reducible repeat (first | apply Kd.qap | apply Kd.qaq | apply Kd.qaw)); exact qc6.out, qan⟩
def qfm (n : Int) (x : qac) : Bool := n % x.f0 == x.f1
theorem qsQ (n b : Int) (h1 : 2 ≤ b) (h2 : b ≤ 60) : qfp.f n b = some (n % b) := by
  unfold qfp.f; rw [if_neg (by omega)]; have a1 := Int.tmod_lt_of_pos n (b := b) (by omega); have a2 := Int.lt_tmod_of_pos n (b := b) (by omega); rw [show wrap64 (Int.tmod n b + b) = Int.tmod n b + b by unfold wrap64; omega]; rw [Int.tmod_eq_emod_of_nonneg (by omega : 0 ≤ Int.tmod n b + b), Int.add_emod_right]
  congr 1
  rw [Int.tmod_eq_emod]; split
  ·simp
  rw [Int.sub_emod, Int.emod_emod_of_dvd _ (Int.dvd_refl _)]
  have : ((b.natAbs : Int)) % b = 0 := by rw [show (b.natAbs : Int) = b by omega]; exact Int.emod_self
  rw [this]; simp
def qd8.f (l0 : List (qac)) (a1 : Int) : Option (Int) := if l0.all qbD = true then some (qd5 (qfm a1) l0 0) else none
set_option maxHeartbeats 2000000 in
theorem qi1 (n : Int) (B : Nat) (x : qac) (W : World) (hx : qbD x = true) (hB : B < W.heap.size) (hn : W.cell? ⟨B, 0, none⟩ = some (.int .i64 n)) :
    Calls Tryz.prog 257 #[.agg #[.int .i64 x.f0, .int .i64 x.f1], .pointer (some ⟨B, 0, none⟩)] W fun e w' => e = .returned (.bool (qfm n x)) ∧ Below W.heap.size W w' := by
  have hu := Tryz.underlying85
  have h1 : 2 ≤ x.f0 ∧ x.f0 ≤ 60 := by unfold qbD at hx; simp at hx; omega
  have HM := ak_ (fun W => qfp.calls n x.f0 _ W (qsQ n x.f0 h1.1 h1.2)); clear hx h1; unfold qfm; go_enter Tryz.func257, Tryz.ntmps257; go_wp2
  go_quiet ((go_at_call 185; exact Calls.quiet_of ((HM.out _).mono (fun e w' h => ⟨h.1, h.2.out⟩))))
  go_wp2
  go_ret
  exact ⟨rfl, qaf (qai (Below.refl _ _) _) _⟩
set_option maxHeartbeats 2000000 in
theorem qd8.calls (A0 : Option Addr) (c0 : Nat) (l0 : List (qac)) (a1 : Int) (r : Int) (w : World) (hr0 : Kd.C qaL w A0 l0.length l0) (hc0 : l0.length ≤ c0) (h : qd8.f l0 a1 = some r) :
    Calls Tryz.prog 238 #[.slice A0 l0.length c0, .int .i64 a1] w fun e w' => e = .returned (.int .i64 r) ∧ Below w.heap.size w w' := by
  unfold qd8.f at h; by_cases hl : l0.all qbD = true; rotate_left
  ·rw [if_neg hl] at h; exact absurd h (by simp)
  rw [if_pos hl] at h; obtain rfl := Option.some.inj h; clear h; have hb := qai (Below.refl w.heap.size w) (.cells #[.int .i64 a1] 3 (0, 0)); have hcall := qnw (qfm a1) 257 #[.pointer (some ⟨w.heap.size, 0, none⟩)] (enters_of Tryz.func257 (by kernel_rfl) rfl) A0 c0 l0 (w.alloc (.cells #[.int .i64 a1] 3 (0, 0)))
    (fun W' x hx hb' => (qi1 a1 w.heap.size x W' (List.all_eq_true.mp hl x hx) (by have := hb'.size; simp at this; omega) ((hb'.cell (p := ⟨w.heap.size, 0, none⟩) (by simp)).trans (by simp))).mono fun e w' ⟨he, hb2⟩ => ⟨he, hb'.trans (hb2.mono hb'.size)⟩) (Kd.qeg hr0 hb)
  have HC := ak_ hcall; have HB := ak_ hb; clear hcall hr0 hl hb; go_enter Tryz.func238, Tryz.ntmps238
  go_wp2_with (go_at_call 145; refine HC.out.mono ?_; rintro e w' ⟨rfl, hb'⟩)
  go_ret
  exact ⟨rfl, HB.out.trans (hb'.mono HB.out.size)⟩
def qcT.f (l0 : List (qac)) (a1 : Int) : Option (Bool) := (qd8.f l0 a1).bind fun qat => (some (decide (qat < 0)))
theorem qcT.calls (A0 : Option Addr) (c0 : Nat) (l0 : List (qac)) (a1 : Int) (r : Bool) (w : World) (hr0 : Kd.C qaL w A0 l0.length l0) (hc0 : l0.length ≤ c0) (h : qcT.f l0 a1 = some r) :
  Calls Tryz.prog 199 #[.slice A0 l0.length c0, .int .i64 a1] w fun e w' => e = .returned (.bool r) ∧ Below w.heap.size w w' := by
 have HR0 := ak_ hr0; have HC0 := ak_ hc0; clear hr0 hc0; have HB := br_ w; have H : ((qd8.f l0 a1).bind fun qat => (some (decide (qat < 0)))) = some r := h; clear h; obtain ⟨qat, A3, H⟩ := qay H; (try dsimp only at H); obtain rfl := sj_ H; go_enter Tryz.func199, Tryz.ntmps199
 go_wp2_with (first | (refine gl_ 7 Tryz.func238 #[.slice A0 l0.length c0, .int .i64 a1] rfl qbK ?_; (with_reducible refine (qd8.calls _ _ l0 a1 qat _ ?qaA ?qaB A3.out).mono ?_); (case qaA => exact qfN); (case qaB => exact qb5); rintro e w4 ⟨rfl, hb⟩; refine ⟨_, rfl, ?_⟩; replace HB := HB.mw hb; (try clear hb)))
 go_ret
 exact ⟨qcf, qan⟩
def qaC.l0 : Nat → List (qac) → Int → List Int → Int → Option (List Int)
 | 0, _, _, _, _ => none
 | k + 1, x0, x2, x7, x8 => if x8 ≤ x2 then ((qcT.f x0 x8).bind fun qcg => (if qcg = true then (if x7.length < 17592186044416 then (qaC.l0 k x0 x2 (x7 ++ [x8]) (wrap64 (x8 + 1))) else (none)) else (qaC.l0 k x0 x2 x7 (wrap64 (x8 + 1))))) else (some x7)
def qaC.f (k : Nat) (l0 : List (qac)) (a1 : Int) (a2 : Int) : Option (List Int) := qaC.l0 k l0 a2 (([] : List Int)) a1
theorem qaC.calls (k : Nat) (A0 : Option Addr) (c0 : Nat) (l0 : List (qac)) (a1 : Int) (a2 : Int) (r : List Int) (w : World) (hr0 : Kd.C qaL w A0 l0.length l0) (hc0 : l0.length ≤ c0) (h : qaC.f k l0 a1 a2 = some r) :
  Calls Tryz.prog 139 #[.slice A0 l0.length c0, .int .i64 a1, .int .i64 a2] w fun e w' => ∃ v0_ : Value, e = .returned (v0_) ∧ Kd.R (Kd.int .i64) 3 w' w.heap.size (fun _ => True) v0_ r ∧ Below w.heap.size w w' := by
 have HR0 := ak_ hr0; have HC0 := ak_ hc0; clear hr0 hc0; have HB := br_ w; have H : (qaC.l0 k l0 a2 (([] : List Int)) a1) = some r := h; clear h
 obtain ⟨qff, hy_⟩ : ∃ y_ : List Int, y_ = (([] : List Int)) := ⟨_, rfl⟩
 replace H : (qaC.l0 k l0 a2 qff a1) = some r := qe1; have qei := ak_ hy_; clear hy_; have H' := ak_ H; clear H; go_enter Tryz.func139, Tryz.ntmps139
 go_wp2_with (first | ((with_reducible refine qal (N := 9) rfl ?_); refine li_ (Kd.int .i64) 3 9 rfl (xs := ([] : List Int)) qbe ?_; intro qit w4 ho5 hb; (first | rw [← qei.out] at ho5 | (simp only [Int.reduceToNat] at ho5; rw [← qei.out] at ho5)); have qc6 := ak_ (Kd.qax ho5 (qab qan)); replace HB := HB.mw hb; clear hb ho5))
 go_loopg [7, 8] k (fun kq v7 v8 w' => ∃ (qc5 : List Int) (qdh : Int), v8 = .int .i64 qdh ∧ qag (qaC.l0 kq l0 a2 qc5 qdh = some r) ∧ qag (kq ≤ k) ∧ qag (Kd.R (Kd.int .i64) 3 w' w.heap.size (fun _ => True) v7 qc5) ∧ qag (Below w.heap.size w w'))
 case atStart => exact ⟨(qff), (a1), qav, H', ⟨Nat.le_refl _⟩, ⟨qo0⟩, ⟨qan⟩⟩
 case round =>
  clear H'; obtain ⟨qc5, qdh, rfl, HA, HK1, qgH, HB⟩ := hrel
  cases gk with
  | zero => exact absurd HA.out (by simp [qaC.l0])
  | succ k1 =>
   have H := HA.out; clear HA; simp only [qaC.l0] at H; by_cases c6 : qdh ≤ a2; rotate_left
   ·rw [if_neg c6] at H; have qgk := decide_eq_false c6; clear c6; obtain rfl := sj_ H; go_wp2
    go_ret
    exact ⟨_, qcf, by (with_reducible repeat (first | apply Kd.qap | apply Kd.qaq | apply Kd.qaw)); exact qgH.out, qan⟩
   rw [if_pos c6] at H; have qgk := decide_eq_true c6; clear c6; obtain ⟨qcg, A7, H⟩ := qay H; (try dsimp only at H); by_cases c8 : qcg = true; rotate_left
   ·replace c8 := Bool.eq_false_iff.mpr c8; subst c8; rw [if_neg ff_] at H; have H' := ak_ H; clear H
    go_wp2_with (first | (refine gl_ 18 Tryz.func199 #[.slice A0 l0.length c0, .int .i64 qdh] rfl qbK ?_; (with_reducible refine (qcT.calls _ _ l0 qdh false _ ?qaA ?qaB A7.out).mono ?_); (case qaA => exact qha); (case qaB => exact qb5); rintro e w12 ⟨rfl, hb⟩; refine ⟨_, rfl, ?_⟩; replace qgH := qgH.mw hb; replace HB := HB.mw hb; (try clear hb)))
    go_roundg k1
    case measure => have := HK1.out; omega
    case rel => exact ⟨(qc5), (wrap64 (qdh + 1)), qav, H', ⟨qcW⟩, ⟨qlC⟩, ⟨qan⟩⟩
   subst c8; rw [if_pos rfl] at H; obtain ⟨c9, H⟩ := qck H; have LMc9 := ak_ c9; clear c9
   obtain ⟨qhY, hy_⟩ : ∃ y_ : List Int, y_ = (qc5 ++ [qdh]) := ⟨_, rfl⟩
   replace H : (qaC.l0 k1 l0 a2 qhY (wrap64 (qdh + 1))) = some r := qe1; have qhp := ak_ hy_; clear hy_; have H' := ak_ H; clear H
   go_wp2_with (first | (refine gl_ 18 Tryz.func199 #[.slice A0 l0.length c0, .int .i64 qdh] rfl qbK ?_; (with_reducible refine (qcT.calls _ _ l0 qdh true _ ?qaA ?qaB A7.out).mono ?_); (case qaA => exact qha); (case qaB => exact qb5); rintro e w10 ⟨rfl, hb⟩; refine ⟨_, rfl, ?_⟩; replace qgH := qgH.mw hb; replace HB := HB.mw hb; (try clear hb)) | ((with_reducible refine qa2 (b := .append) (xs := #[.tmp 19, .tmp 21]) rfl ?_); at_builtin; refine Kd.qcH (Kd.int .i64) (w0 := w) w.heap.size rfl (.tmp 19) (.tmp 21) 48 3 (.int .i64 0) 8 rfl Tryz.underlying48 info3 rfl (by decide) (by omega) u7 qc5 qdh [.int .i64 qdh] (fun _ => True) (fun _ => False) rfl rfl ?aP (fun _ hk => hk.elim) ?aF ?aO ?aB ?aS ?aL ?_; (case aP => exact rfl); (case aB => exact qan); (case aF => exact (fun _ _ => trivial)); (case aO => exact qlC); (case aS => exact (qab qan)); (case aL => have := LMc9.out; omega); intro qq6 w11 ho hb hg hat; rw [← qhp.out] at ho; replace HB := ak_ (hb); have qe2 := ak_ (ho); clear qgH; clear ho hb hg hat))
   go_roundg k1
   case measure => have := HK1.out; omega
   case rel => exact ⟨(qhY), (wrap64 (qdh + 1)), qav, H', ⟨qcW⟩, ⟨by apply_rules only [qe2.out, Kd.qap, Kd.qaq, Kd.qaw]⟩, ⟨qan⟩⟩
def qda.l0 : Nat → Int → Int → Option (Int)
 | 0, _, _ => none
 | k + 1, x0, x1 => if x1 > 0 then (if x1 = 0 then (none) else (qda.l0 k x1 (Int.tmod x0 x1))) else (some x0)
def qda.f (k : Nat) (a0 : Int) (a1 : Int) : Option (Int) := qda.l0 k a0 a1
theorem qda.calls (k : Nat) (a0 : Int) (a1 : Int) (r : Int) (w : World) (h : qda.f k a0 a1 = some r) :
  Calls Tryz.prog 239 #[.int .i64 a0, .int .i64 a1] w fun e w' => e = .returned (.int .i64 r) ∧ qcN w w' := by
 have H : (qda.l0 k a0 a1) = some r := h; clear h; have H' := ak_ H; clear H; go_enter Tryz.func239, Tryz.ntmps239; go_wp2
 repeat (go_quiet (fail); try go_wp2)
 go_loopg [0, 1] k (fun kq v0 v1 w' => ∃ (qgD : Int) (qgE : Int), v0 = .int .i64 qgD ∧ v1 = .int .i64 qgE ∧ qag (qda.l0 kq qgD qgE = some r) ∧ qag (kq ≤ k) ∧ qcN w w')
 case atStart => exact ⟨(a0), (a1), qav, qav, H', ⟨Nat.le_refl _⟩, qcO⟩
 case round =>
  clear H'; obtain ⟨qgD, qgE, rfl, rfl, HA, HK1, ⟨m1, rfl⟩⟩ := hrel
  cases gk with
  | zero => exact absurd HA.out (by simp [qda.l0])
  | succ k1 =>
   have H := HA.out; clear HA; simp only [qda.l0] at H; by_cases c3 : qgE > 0; rotate_left
   ·rw [if_neg c3] at H; have qfk : decide (0 < qgE) = false := decide_eq_false c3; clear c3; obtain rfl := sj_ H; go_wp2
    repeat (go_quiet (fail); try go_wp2)
    go_ret
    exact ⟨qav, qcO⟩
   rw [if_pos c3] at H; have qfk : decide (0 < qgE) = true := decide_eq_true c3; clear c3; by_cases c4 : qgE = 0
   ·rw [if_pos c4] at H; exact absurd H (by simp)
   rw [if_neg c4] at H; have qfx : (qgE == 0) = false := beq_eq_false_iff_ne.mpr c4; have qmK : (qgE != 0) = true := bne_iff_ne.mpr c4; have H' := ak_ H; clear H; go_wp2
   repeat (go_quiet (fail); try go_wp2)
   go_roundg k1
   case measure => have := HK1.out; omega
   case rel => exact ⟨(qgE), (Int.tmod qgD qgE), qav, qav, H', ⟨qcW⟩, qcO⟩
def qcX.l0 : Nat → Int → List (qac) → Int → Int → Option (Int × Bool)
 | 0, _, _, _, _ => none
 | k + 1, x4, x7, x8, x9 => if x9 < x8 then (if 0 ≤ x9 then (if x9 < (x7.length : Int) then ((qda.f k x4 ((qae x7 x9).f0)).bind fun qce => (if qce = 0 then (none) else (if (wrap64 ((wrap64 (Int.tdiv x4 qce)) * ((qae x7 x9).f0))) > 100000 then (some (0, false)) else (qcX.l0 k (wrap64 ((wrap64 (Int.tdiv x4 qce)) * ((qae x7 x9).f0))) x7 x8 (wrap64 (x9 + 1)))))) else (none)) else (none)) else (some (x4, true))
def qcX.f (k : Nat) (l0 : List (qac)) : Option (Int × Bool) := qcX.l0 k 1 l0 (l0.length : Int) 0
theorem qcX.calls (k : Nat) (A0 : Option Addr) (c0 : Nat) (l0 : List (qac)) (r1 : Int) (r2 : Bool) (w : World) (hr0 : Kd.C qaL w A0 l0.length l0) (hc0 : l0.length ≤ c0) (h : qcX.f k l0 = some (r1, r2)) :
  Calls Tryz.prog 200 #[.slice A0 l0.length c0] w fun e w' => e = .returned (.tuple #[.int .i64 r1, .bool r2]) ∧ Below w.heap.size w w' := by
 have qmM := Tryz.underlying85; have HR0 := ak_ hr0; have HC0 := ak_ hc0; clear hr0 hc0; have HB := br_ w; have H : (qcX.l0 k 1 l0 (l0.length : Int) 0) = some (r1, r2) := h; clear h; have H' := ak_ H; clear H; go_enter Tryz.func200, Tryz.ntmps200; go_wp2
 repeat (go_quiet (fail); try go_wp2)
 go_loopg [4, 9] k (fun kq v4 v9 w' => ∃ (qcM : Int) (qdp : Int), v4 = .int .i64 qcM ∧ v9 = .int .i64 qdp ∧ qag (qcX.l0 kq qcM l0 (l0.length : Int) qdp = some (r1, r2)) ∧ qag (kq ≤ k) ∧ qag (Below w.heap.size w w'))
 case atStart => exact ⟨(1), (0), qav, qav, H', ⟨Nat.le_refl _⟩, ⟨qan⟩⟩
 case round =>
  clear H'; obtain ⟨qcM, qdp, rfl, rfl, HA, HK1, HB⟩ := hrel
  cases gk with
  | zero => exact absurd HA.out (by simp [qcX.l0])
  | succ k1 =>
   have H := HA.out; clear HA; simp only [qcX.l0] at H; by_cases c2 : qdp < (l0.length : Int); rotate_left
   ·rw [if_neg c2] at H; have qfr := decide_eq_false c2; clear c2; obtain ⟨rfl, rfl⟩ := qdF H; go_wp2
    repeat (go_quiet (fail); try go_wp2)
    go_ret2
    exact ⟨qcf, qan⟩
   rw [if_pos c2] at H; have qfr := decide_eq_true c2; clear c2; obtain ⟨c3, H⟩ := qck H; have qfk := decide_eq_true c3; clear c3; obtain ⟨c4, H⟩ := qck H; have qfx := decide_eq_true c4; clear c4; obtain ⟨qce, A5, H⟩ := qay H; (try dsimp only at H); by_cases c6 : qce = 0
   ·rw [if_pos c6] at H; exact absurd H (by simp)
   rw [if_neg c6] at H; have qgk : (qce == 0) = false := beq_eq_false_iff_ne.mpr c6; have qoq : (qce != 0) = true := bne_iff_ne.mpr c6; by_cases c7 : (wrap64 ((wrap64 (Int.tdiv qcM qce)) * ((qae l0 qdp).f0))) > 100000
   ·rw [if_pos c7] at H; have qgU : decide (100000 < (wrap64 ((wrap64 (Int.tdiv qcM qce)) * ((qae l0 qdp).f0)))) = true := decide_eq_true c7; clear c7; obtain ⟨rfl, rfl⟩ := qdF H; have qeE : 0 ≤ (qdp : Int) := of_decide_eq_true qaO; have qeN : qdp < (l0.length : Int) := of_decide_eq_true qaO; obtain ⟨qhf, qhh, qbw, qcq⟩ := qdW HR0.out qdp qeE qeN
    cases qhh
    replace qbw := (HB.out.cell (World.block_lt_of_cell? w _ qbw)).trans qbw; replace qcq := (HB.out.cell (World.block_lt_of_cell? w _ qcq)).trans qcq; replace qeE := eq_true qeE; replace qeN := eq_true qeN
    go_wp2_with (first | ((with_reducible refine qal (N := 6) rfl ?_); refine bx_ 6 rfl (cs := #[.int .i64 0, .int .i64 0]) (t := 85) qbe ?_; intro qej hg w8 hbox hb; have qct := ak_ (hbox); have qgr := ak_ (HB.ge hg); have qgl := ak_ (HB.ge hg); replace HB := HB.mw hb; clear hb hbox hg; obtain ⟨qhx, qhy, qhz, qhA⟩ := qbG qct.out) | (go_at_call 239; (with_reducible refine (qda.calls k1 qcM ((qae l0 qdp).f0) qce _ A5.out).mono ?_); rintro e w' ⟨rfl, ⟨nd, rfl⟩⟩; (try first | exact ⟨rfl, _, World.drewN_drewN _ _ _⟩ | exact ⟨rfl, _, Eq.trans (World.drewN_drewN _ _ _) (congrArg (World.drewN _) (Nat.add_assoc _ _ _))⟩)))
    repeat (go_quiet (first | ((with_reducible refine qal (N := 6) rfl ?_); refine bx_ 6 rfl (cs := #[.int .i64 0, .int .i64 0]) (t := 85) qbe ?_; intro qej hg w8 hbox hb; have qct := ak_ (hbox); have qgr := ak_ (HB.ge hg); have qgl := ak_ (HB.ge hg); replace HB := HB.mw hb; clear hb hbox hg; obtain ⟨qhx, qhy, qhz, qhA⟩ := qbG qct.out) | (go_at_call 239; (with_reducible refine (qda.calls k1 qcM ((qae l0 qdp).f0) qce _ A5.out).mono ?_); rintro e w' ⟨rfl, ⟨nd, rfl⟩⟩; (try first | exact ⟨rfl, _, World.drewN_drewN _ _ _⟩ | exact ⟨rfl, _, Eq.trans (World.drewN_drewN _ _ _) (congrArg (World.drewN _) (Nat.add_assoc _ _ _))⟩))); try go_wp2_with (first | ((with_reducible refine qal (N := 6) rfl ?_); refine bx_ 6 rfl (cs := #[.int .i64 0, .int .i64 0]) (t := 85) qbe ?_; intro qej hg w8 hbox hb; have qct := ak_ (hbox); have qgr := ak_ (HB.ge hg); have qgl := ak_ (HB.ge hg); replace HB := HB.mw hb; clear hb hbox hg; obtain ⟨qhx, qhy, qhz, qhA⟩ := qbG qct.out) | (go_at_call 239; (with_reducible refine (qda.calls k1 qcM ((qae l0 qdp).f0) qce _ A5.out).mono ?_); rintro e w' ⟨rfl, ⟨nd, rfl⟩⟩; (try first | exact ⟨rfl, _, World.drewN_drewN _ _ _⟩ | exact ⟨rfl, _, Eq.trans (World.drewN_drewN _ _ _) (congrArg (World.drewN _) (Nat.add_assoc _ _ _))⟩))))
    go_ret2
    exact ⟨qcf, qmN⟩
   rw [if_neg c7] at H; have qgU : decide (100000 < (wrap64 ((wrap64 (Int.tdiv qcM qce)) * ((qae l0 qdp).f0)))) = false := decide_eq_false c7; clear c7; have H' := ak_ H; clear H; have qeE : 0 ≤ (qdp : Int) := of_decide_eq_true qaO; have qeN : qdp < (l0.length : Int) := of_decide_eq_true qaO; obtain ⟨qhf, qhh, qbw, qcq⟩ := qdW HR0.out qdp qeE qeN
   cases qhh
   replace qbw := (HB.out.cell (World.block_lt_of_cell? w _ qbw)).trans qbw; replace qcq := (HB.out.cell (World.block_lt_of_cell? w _ qcq)).trans qcq; replace qeE := eq_true qeE; replace qeN := eq_true qeN
   go_wp2_with (first | ((with_reducible refine qal (N := 6) rfl ?_); refine bx_ 6 rfl (cs := #[.int .i64 0, .int .i64 0]) (t := 85) qbe ?_; intro qej hg w10 hbox hb; have qct := ak_ (hbox); have qgr := ak_ (HB.ge hg); have qgl := ak_ (HB.ge hg); replace HB := HB.mw hb; clear hb hbox hg; obtain ⟨qf8, qf9, qga, qgb⟩ := qbG qct.out) | (go_at_call 239; (with_reducible refine (qda.calls k1 qcM ((qae l0 qdp).f0) qce _ A5.out).mono ?_); rintro e w' ⟨rfl, ⟨nd, rfl⟩⟩; (try first | exact ⟨rfl, _, World.drewN_drewN _ _ _⟩ | exact ⟨rfl, _, Eq.trans (World.drewN_drewN _ _ _) (congrArg (World.drewN _) (Nat.add_assoc _ _ _))⟩)))
   repeat (go_quiet (first | ((with_reducible refine qal (N := 6) rfl ?_); refine bx_ 6 rfl (cs := #[.int .i64 0, .int .i64 0]) (t := 85) qbe ?_; intro qej hg w10 hbox hb; have qct := ak_ (hbox); have qgr := ak_ (HB.ge hg); have qgl := ak_ (HB.ge hg); replace HB := HB.mw hb; clear hb hbox hg; obtain ⟨qf8, qf9, qga, qgb⟩ := qbG qct.out) | (go_at_call 239; (with_reducible refine (qda.calls k1 qcM ((qae l0 qdp).f0) qce _ A5.out).mono ?_); rintro e w' ⟨rfl, ⟨nd, rfl⟩⟩; (try first | exact ⟨rfl, _, World.drewN_drewN _ _ _⟩ | exact ⟨rfl, _, Eq.trans (World.drewN_drewN _ _ _) (congrArg (World.drewN _) (Nat.add_assoc _ _ _))⟩))); try go_wp2_with (first | ((with_reducible refine qal (N := 6) rfl ?_); refine bx_ 6 rfl (cs := #[.int .i64 0, .int .i64 0]) (t := 85) qbe ?_; intro qej hg w10 hbox hb; have qct := ak_ (hbox); have qgr := ak_ (HB.ge hg); have qgl := ak_ (HB.ge hg); replace HB := HB.mw hb; clear hb hbox hg; obtain ⟨qf8, qf9, qga, qgb⟩ := qbG qct.out) | (go_at_call 239; (with_reducible refine (qda.calls k1 qcM ((qae l0 qdp).f0) qce _ A5.out).mono ?_); rintro e w' ⟨rfl, ⟨nd, rfl⟩⟩; (try first | exact ⟨rfl, _, World.drewN_drewN _ _ _⟩ | exact ⟨rfl, _, Eq.trans (World.drewN_drewN _ _ _) (congrArg (World.drewN _) (Nat.add_assoc _ _ _))⟩))))
   go_roundg k1
   case measure => have := HK1.out; omega
   case rel => exact ⟨(wrap64 ((wrap64 (Int.tdiv qcM qce)) * ((qae l0 qdp).f0))), (wrap64 (qdp + 1)), qav, qav, H', ⟨qcW⟩, ⟨qmN⟩⟩
def qb8.f (k : Nat) (l0 : List (qac)) : Option (Int × Bool) := (qbc.f l0).bind fun qat => (if qat = true then ((qcX.f k l0).bind fun qeR => (some (qeR.1, qeR.2))) else (some (0, false)))
theorem qb8.calls (k : Nat) (A0 : Option Addr) (c0 : Nat) (l0 : List (qac)) (r1 : Int) (r2 : Bool) (w : World) (hr0 : Kd.C qaL w A0 l0.length l0) (hc0 : l0.length ≤ c0) (h : qb8.f k l0 = some (r1, r2)) :
  Calls Tryz.prog 140 #[.slice A0 l0.length c0] w fun e w' => e = .returned (.tuple #[.int .i64 r1, .bool r2]) ∧ Below w.heap.size w w' := by
 have HR0 := ak_ hr0; have HC0 := ak_ hc0; clear hr0 hc0; have HB := br_ w; have H : ((qbc.f l0).bind fun qat => (if qat = true then ((qcX.f k l0).bind fun qeR => (some (qeR.1, qeR.2))) else (some (0, false)))) = some (r1, r2) := h; clear h; obtain ⟨qat, A2, H⟩ := qay H; (try dsimp only at H); by_cases c3 : qat = true
 ·subst c3; rw [if_pos rfl] at H; obtain ⟨⟨qaR, qce⟩, A4, H⟩ := qay H; (try dsimp only at H); obtain ⟨rfl, rfl⟩ := qdF H; go_enter Tryz.func140, Tryz.ntmps140
  go_wp2_with (first | (refine gl_ 5 Tryz.func53 #[.slice A0 l0.length c0] rfl qbK ?_; (with_reducible refine (qbc.calls _ _ l0 true _ ?qaA ?qaB A2.out).mono ?_); (case qaA => exact qfN); (case qaB => exact qb5); rintro e w5 ⟨rfl, hb⟩; refine ⟨_, rfl, ?_⟩; replace HB := HB.mw hb; (try clear hb)) | (refine gl_ 8 Tryz.func200 #[.slice A0 l0.length c0] rfl qbK ?_; (with_reducible refine (qcX.calls k _ _ l0 qaR qce _ ?qaA ?qaB A4.out).mono ?_); (case qaA => exact qha); (case qaB => exact qb5); rintro e w6 ⟨rfl, hb⟩; refine ⟨_, rfl, ?_⟩; replace HB := HB.mw hb; (try clear hb)))
  go_ret2
  exact ⟨qcf, qan⟩
 replace c3 := Bool.eq_false_iff.mpr c3; subst c3; rw [if_neg ff_] at H; obtain ⟨rfl, rfl⟩ := qdF H; go_enter Tryz.func140, Tryz.ntmps140
 go_wp2_with (first | (refine gl_ 5 Tryz.func53 #[.slice A0 l0.length c0] rfl qbK ?_; (with_reducible refine (qbc.calls _ _ l0 false _ ?qaA ?qaB A2.out).mono ?_); (case qaA => exact qfN); (case qaB => exact qb5); rintro e w7 ⟨rfl, hb⟩; refine ⟨_, rfl, ?_⟩; replace HB := HB.mw hb; (try clear hb)))
 go_ret2
 exact ⟨qcf, qan⟩
def qbQ.f (k : Nat) (l0 : List (qac)) : Option (Int × List Int × Bool) := (qb8.f k l0).bind fun qeR => (if qeR.2 = true then (if qeR.1 > 5000 then (some (0, ([] : List Int), false)) else ((qaC.f k l0 1 qeR.1).bind fun qcg => (some (qeR.1, qcg, decide ((qcg.length : Int) > 0))))) else (some (0, ([] : List Int), false)))
theorem qbQ.calls (k : Nat) (A0 : Option Addr) (c0 : Nat) (l0 : List (qac)) (r1 : Int) (r2 : List Int) (r3 : Bool) (w : World) (hr0 : Kd.C qaL w A0 l0.length l0) (hc0 : l0.length ≤ c0) (h : qbQ.f k l0 = some (r1, r2, r3)) :
  Calls Tryz.prog 187 #[.slice A0 l0.length c0] w fun e w' => ∃ v1_ : Value, e = .returned (.tuple #[.agg #[.int .i64 r1, v1_], .bool r3]) ∧ Kd.R (Kd.int .i64) 3 w' w.heap.size (fun _ => True) v1_ r2 ∧ Below w.heap.size w w' := by
 have hu169 := Tryz.underlying169; have HR0 := ak_ hr0; have HC0 := ak_ hc0; clear hr0 hc0; have HB := br_ w; have H : ((qb8.f k l0).bind fun qeR => (if qeR.2 = true then (if qeR.1 > 5000 then (some (0, ([] : List Int), false)) else ((qaC.f k l0 1 qeR.1).bind fun qcg => (some (qeR.1, qcg, decide ((qcg.length : Int) > 0))))) else (some (0, ([] : List Int), false)))) = some (r1, r2, r3) := h; clear h; obtain ⟨⟨qaR, qce⟩, A2, H⟩ := qay H; (try dsimp only at H); by_cases c3 : qce = true; rotate_left
 ·replace c3 := Bool.eq_false_iff.mpr c3; subst c3; rw [if_neg ff_] at H; obtain ⟨rfl, rfl, rfl⟩ := qfJ H; go_enter Tryz.func187, Tryz.ntmps187
  go_wp2_with (first | ((with_reducible refine qal (N := 2) rfl ?_); refine bx_ 2 rfl (cs := #[.int .i64 0, .slice none 0 0]) (t := 169) qbe ?_; intro qb6 hg w20 hbox hb; have qaG := ak_ (hbox); have qeO := ak_ (HB.ge hg); have qem := ak_ (HB.ge hg); replace HB := HB.mw hb; clear hb hbox hg) | (refine gl_ 9 Tryz.func140 #[.slice A0 l0.length c0] rfl qbK ?_; (with_reducible refine (qb8.calls k _ _ l0 qaR false _ ?qaA ?qaB A2.out).mono ?_); (case qaA => exact qha); (case qaB => exact qb5); rintro e w21 ⟨rfl, hb⟩; refine ⟨_, rfl, ?_⟩; replace qaG := qaG.mw hb; replace HB := ak_ (qaa qds hb); (try clear hb); obtain ⟨hcz22_0, hcz22_1, hfz22_0, hfz22_1⟩ := qbG qaG.out))
  refine bodyPost_ret (qf2 rfl _ _ qb6 169 #[.int .i64 0, .slice none 0 0] (0, 0) _ rfl k7_ Tryz.underlying169 rfl (by kernel_rfl)) rfl ?_; exact ⟨_, qcf, qgN, qds⟩
 subst c3; rw [if_pos rfl] at H; by_cases c4 : qaR > 5000
 ·rw [if_pos c4] at H; have qfx : decide (5000 < qaR) = true := decide_eq_true c4; clear c4; obtain ⟨rfl, rfl, rfl⟩ := qfJ H; go_enter Tryz.func187, Tryz.ntmps187
  go_wp2_with (first | ((with_reducible refine qal (N := 2) rfl ?_); refine bx_ 2 rfl (cs := #[.int .i64 0, .slice none 0 0]) (t := 169) qbe ?_; intro qb6 hg w5 hbox hb; have qaG := ak_ (hbox); have qeO := ak_ (HB.ge hg); have qem := ak_ (HB.ge hg); replace HB := HB.mw hb; clear hb hbox hg) | (refine gl_ 9 Tryz.func140 #[.slice A0 l0.length c0] rfl qbK ?_; (with_reducible refine (qb8.calls k _ _ l0 qaR true _ ?qaA ?qaB A2.out).mono ?_); (case qaA => exact qha); (case qaB => exact qb5); rintro e w6 ⟨rfl, hb⟩; refine ⟨_, rfl, ?_⟩; replace qaG := qaG.mw hb; replace HB := ak_ (qaa qds hb); (try clear hb); obtain ⟨qki, qkj, qko, qkp⟩ := qbG qaG.out))
  refine bodyPost_ret (qf2 rfl _ _ qb6 169 #[.int .i64 0, .slice none 0 0] (0, 0) _ rfl k7_ Tryz.underlying169 rfl (by kernel_rfl)) rfl ?_; exact ⟨_, qcf, qgN, qds⟩
 rw [if_neg c4] at H; have qfx : decide (5000 < qaR) = false := decide_eq_false c4; clear c4; obtain ⟨qcg, A8, H⟩ := qay H; (try dsimp only at H); obtain ⟨rfl, rfl, rfl⟩ := qfJ H; go_enter Tryz.func187, Tryz.ntmps187
 try go_wp2_with (first | ((with_reducible refine qal (N := 2) rfl ?_); refine bx_ 2 rfl (cs := #[.int .i64 0, .slice none 0 0]) (t := 169) qbe ?_; intro qb6 hg w9 hbox hb; have qaG := ak_ (hbox); have qeO := ak_ (HB.ge hg); have qem := ak_ (HB.ge hg); replace HB := HB.mw hb; clear hb hbox hg) | (refine gl_ 9 Tryz.func140 #[.slice A0 l0.length c0] rfl qbK ?_; (with_reducible refine (qb8.calls k _ _ l0 qaR true _ ?qaA ?qaB A2.out).mono ?_); (case qaA => exact qha); (case qaB => exact qb5); rintro e w10 ⟨rfl, hb⟩; refine ⟨_, rfl, ?_⟩; replace qaG := qaG.mw hb; replace HB := ak_ (qaa qds hb); (try clear hb)) | (refine gl_ 22 Tryz.func139 #[.slice A0 l0.length c0, .int .i64 1, .int .i64 qaR] rfl qbK ?_; (with_reducible refine (qaC.calls k _ _ l0 1 qaR qcg _ ?qaA ?qaB A8.out).mono ?_); (case qaA => exact qha); (case qaB => exact qb5); rintro e w11 ⟨v105, rfl, ho0, hb⟩; refine ⟨_, rfl, ?_⟩; have qeh := ak_ (Kd.qax ho0 (qab qds)); replace qaG := qaG.mw hb; replace HB := ak_ (qaa qds hb); (try clear hb ho0); obtain ⟨qkZ, qk7, qq8⟩ := Kd.qaI qeh.out; subst qq8) | ((with_reducible refine qal (N := 6) rfl ?_); refine bx_ 6 rfl (cs := #[.int .i64 0, .slice none 0 0]) (t := 169) qbe ?_; intro qeD hg w13 hbox hb; replace qeh := qeh.mw hb; have qfh := ak_ (hbox); have GW107 := ak_ ((by rw [hg]; exact (qab qds) : w.heap.size ≤ qeD)); have qn3 := ak_ ((by rw [hg]; exact (qab qds) : w.heap.size ≤ qeD)); replace HB := ak_ (qaa qds hb); have qho := ak_ (qaG.ne hg); have qf6 := ak_ (qaG.ne hg).symm; replace qaG := qaG.mw hb; clear hb hbox hg; have hnb14 := qf6.out; have hnc14 := qho.out; obtain ⟨qoF, qoG, qoM, qoN⟩ := qbG qfh.out))
 have n0_ : qag (Kd.R (Kd.int .i64) 3 ((w13.setCell ⟨qeD, 0, none⟩ (.int .i64 qaR)).setCell ⟨qeD, 1, none⟩ (.slice qkZ qcg.length qk7)) w.heap.size (fun _ => True) (.slice qkZ qcg.length qk7) qcg) := ⟨by (with_reducible repeat (first | apply Kd.qap | apply Kd.qaq | apply Kd.qaw)); exact Kd.qa9 (Kd.qcV (p := ⟨qeD, 1, none⟩) (Kd.qcV (p := ⟨qeD, 0, none⟩) (Kd.qcw qeh.out qfh.out (by decide)) (fun _ hk => hk.2) (.int .i64 qaR)) (fun _ hk => hk.2) (.slice qkZ qcg.length qk7)) (fun _ hk => trivial)⟩
 have n1_ : qag (((w13.setCell ⟨qeD, 0, none⟩ (.int .i64 qaR)).setCell ⟨qeD, 1, none⟩ (.slice qkZ qcg.length qk7)).heap[qb6]? = some (.cells #[.int .i64 0, .slice none 0 0] 169 (0, 0))) := ⟨by (with_reducible repeat (first | refine qak ?_ _ | refine qam ?_ | refine qaj ?_ _)); refine qcZ ?_ qho.out _; (with_reducible repeat (first | refine qak ?_ _ | refine qam ?_ | refine qaj ?_ _)); refine qcZ ?_ qho.out _; apply_rules only [qaG.out, qak, qam, qaj]⟩
 have n2_ : qag (((w13.setCell ⟨qeD, 0, none⟩ (.int .i64 qaR)).setCell ⟨qeD, 1, none⟩ (.slice qkZ qcg.length qk7)).heap[qeD]? = some (.cells #[.int .i64 qaR, .slice qkZ qcg.length qk7] 169 (0, 0))) := ⟨by (with_reducible repeat (first | refine qak ?_ _ | refine qam ?_ | refine qaj ?_ _)); refine qbl (cs := #[.int .i64 qaR, .slice none 0 0]) ?_ 1 _ rfl; (with_reducible repeat (first | refine qak ?_ _ | refine qam ?_ | refine qaj ?_ _)); refine qbl (cs := #[.int .i64 0, .slice none 0 0]) ?_ 0 _ rfl; apply_rules only [qfh.out, qak, qam, qaj]⟩
 have n3_ : qag (Below w.heap.size w ((w13.setCell ⟨qeD, 0, none⟩ (.int .i64 qaR)).setCell ⟨qeD, 1, none⟩ (.slice qkZ qcg.length qk7))) := ⟨by apply_rules only [HB.out, qai, qaf, qah, qas, qem.out, qn3.out]⟩
 (try clear qeh); (try clear qaG); (try clear qfh); (try clear HB)
 generalize ((w13.setCell ⟨qeD, 0, none⟩ (.int .i64 qaR)).setCell ⟨qeD, 1, none⟩ (.slice qkZ qcg.length qk7)) = w16 at n0_ n1_ n2_ n3_ ⊢
 have qeh := n0_; have qaG := n1_; have qfh := n2_; have HB := n3_; clear n0_ n1_ n2_ n3_; replace qeh := ak_ (Kd.qaw qeh.out); replace qaG := ak_ (qam qaG.out); replace qfh := ak_ (qam qfh.out); replace HB := ak_ (qah HB.out); refine qe6 (n := 7) (S := fun w' => w'.cell? ⟨qeD, 0, none⟩ = some (.int .i64 qaR) ∧ w'.cell? ⟨qeD, 1, none⟩ = some (.slice qkZ qcg.length qk7)) (ds := []) #[false, false, false, false, false, false, false] (by kernel_rfl) rfl rfl ⟨qed qfh.out, qbC qfh.out⟩ (fun hHeld => ?_)
 generalize w16.drew = w17 at qeh qaG qfh HB hHeld ⊢
 refine qgy (i := 1) (N := some 25) (v := ?_) (a' := ?_) #[false, true, false, false, false, false, false] rfl rfl (by kernel_rfl) (fun _ _ _ h => h) (Or.inl ⟨by rfl, ?_⟩) ?_ ?_; rotate_left
 ·intro w'; go_simp
  with_reducible rfl
 rotate_left
 ·simp only [Act.put, List.setIfInBounds_toArray, List.set_cons_zero, List.set_cons_succ, qd7, qew]; rfl
 refine qmD (i := 0) (N := some 24) (v := ?_) (a' := ?_) #[true, true, false, false, false, false, false] rfl rfl (by kernel_rfl) (fun _ _ _ h => h) (Or.inl ⟨by rfl, ?_⟩) hHeld ?_ ?_; rotate_left
 ·rintro w' ⟨s0, s1⟩; go_simp
  with_reducible rfl
 rotate_left
 ·simp only [Act.put, List.setIfInBounds_toArray, List.set_cons_zero, List.set_cons_succ, qd7, qew]; rfl
 refine qmD (i := 2) (N := some 26) (v := ?_) (a' := ?_) #[true, true, true, false, false, false, false] rfl rfl (by kernel_rfl) (fun _ _ _ h => h) (Or.inl ⟨by rfl, ?_⟩) hHeld ?_ ?_; rotate_left
 ·rintro w' ⟨s0, s1⟩; go_simp
  with_reducible rfl
 rotate_left
 ·simp only [Act.put, List.setIfInBounds_toArray, List.set_cons_zero, List.set_cons_succ, qd7, qew]; rfl
 refine qgy (i := 3) (N := some 27) (v := ?_) (a' := ?_) #[true, true, true, true, false, false, false] rfl rfl (by kernel_rfl) (fun _ _ _ h => h) (Or.inl ⟨by rfl, ?_⟩) ?_ ?_; rotate_left
 ·intro w'; go_simp
  with_reducible rfl
 rotate_left
 ·simp only [Act.put, List.setIfInBounds_toArray, List.set_cons_zero, List.set_cons_succ, qd7, qew]; rfl
 refine qgy (i := 4) (N := some 28) (v := ?_) (a' := ?_) #[true, true, true, true, true, false, false] rfl rfl (by kernel_rfl) (fun _ _ _ h => h) (Or.inl ⟨by rfl, ?_⟩) ?_ ?_; rotate_left
 ·intro w'; go_simp
  with_reducible rfl
 rotate_left
 ·simp only [Act.put, List.setIfInBounds_toArray, List.set_cons_zero, List.set_cons_succ, qd7, qew]; rfl
 refine qfH (i := 5) (N := none) #[true, true, true, true, true, true, false] rfl rfl (by kernel_rfl) (by decide) (fun K hK => ?_); obtain ⟨hs18, hfs18⟩ := qcx qaG.out; have hns18_1 := qf6.out; have hms18_1 := qho.out; have hs19 := qbC qaG.out; have hfs19 := qad qaG.out 1; have hns19_1 := qf6.out; have hms19_1 := qho.out; refine skip_ (w1 := ?_) (by rfl) rfl ?_ ?_; rotate_left
 ·go_simp; rfl
 refine hK.out _ _ ⟨((cell_far (p := ⟨qb6, _, none⟩) qf6.out _).trans (((cell_far (p := ⟨qb6, _, none⟩) qf6.out _).trans (hHeld.1)))), ((cell_far (p := ⟨qb6, _, none⟩) qf6.out _).trans (((cell_far (p := ⟨qb6, _, none⟩) qf6.out _).trans (hHeld.2))))⟩ (fun hHeld => ?_); clear hK K; refine qgy (i := 6) (N := some 3) (v := ?_) (a' := ?_) #[true, true, true, true, true, true, true] rfl rfl (by kernel_rfl) (fun _ _ _ h => h) (Or.inl ⟨by rfl, ?_⟩) ?_ ?_; rotate_left
 ·intro w'; go_simp
  with_reducible rfl
 rotate_left
 ·simp only [Act.put, List.setIfInBounds_toArray, List.set_cons_zero, List.set_cons_succ, qd7, qew]; rfl
 refine qgu (by kernel_rfl) ?_
 try go_wp2
 refine bodyPost_ret (qf2 rfl _ _ qb6 169 #[.int .i64 qaR, .slice qkZ qcg.length qk7] (0, 0) _ rfl (by (with_reducible repeat (first | refine qak ?_ _ | refine qam ?_ | refine qaj ?_ _)); refine qbl (cs := #[.int .i64 qaR, .slice none 0 0]) ?_ 1 _ rfl; (with_reducible repeat (first | refine qak ?_ _ | refine qam ?_ | refine qaj ?_ _)); refine qbl (cs := #[.int .i64 0, .slice none 0 0]) ?_ 0 _ rfl; apply_rules only [qaG.out, qak, qam, qaj]) Tryz.underlying169 rfl (by kernel_rfl)) rfl ?_; exact ⟨_, qcf, by (with_reducible repeat (first | apply Kd.qap | apply Kd.qaq | apply Kd.qaw)); exact Kd.qa9 (Kd.qcV (p := ⟨qb6, 1, none⟩) (Kd.qcV (p := ⟨qb6, 0, none⟩) (Kd.qcw qeh.out qaG.out (by decide)) (fun _ hk => hk.2) (.int .i64 qaR)) (fun _ hk => hk.2) (.slice qkZ qcg.length qk7)) (fun _ hk => trivial), by apply_rules only [HB.out, qai, qaf, qah, qas, qem.out, qn3.out]⟩
def qeX.f (a0 : Int) : Option (Bool) := if a0 ≥ 0 then (some (decide (a0 ≤ 1000000000))) else (some false)
theorem qeX.calls (a0 : Int) (r : Bool) (w : World) (h : qeX.f a0 = some r) :
  Calls Tryz.prog 188 #[.int .i64 a0] w fun e w' => e = .returned (.bool r) ∧ qcN w w' := by
 have H : (if a0 ≥ 0 then (some (decide (a0 ≤ 1000000000))) else (some false)) = some r := h; clear h; by_cases c2 : a0 ≥ 0
 ·rw [if_pos c2] at H; have qfr : decide (0 ≤ a0) = true := decide_eq_true c2; clear c2; obtain rfl := sj_ H; go_enter Tryz.func188, Tryz.ntmps188; go_wp2
  go_ret
  exact ⟨qav, qcO⟩
 rw [if_neg c2] at H; have qfr : decide (0 ≤ a0) = false := decide_eq_false c2; clear c2; obtain rfl := sj_ H; go_enter Tryz.func188, Tryz.ntmps188; go_wp2
 go_ret
 exact ⟨qav, qcO⟩
end
end Go.Proofs.YtjeoabbnalamcaaGreatDoor.P
