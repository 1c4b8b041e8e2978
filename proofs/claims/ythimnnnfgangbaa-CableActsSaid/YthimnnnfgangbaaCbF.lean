/- The law's own facts of CableActs: the acts that came in, the state of a round, for every input. -/
import Derived.Test.YthimnnnfgangbaaCbE
set_option linter.unusedVariables false
set_option linter.unusedSimpArgs false
namespace Go.Proofs.Ythimnnnfgangbaa.Cb
open Go.RowKit Go.Proofs.YthimnnnfgangbaaW.PrintWords Go.Proofs.YthimnnnfgangbaaW.PrintLast Go.Proofs.YthimnnnfgangbaaW.PrintMore Go.Proofs.Ythimnnnfgangbaa.Qu

/-- An act: what is done, from whom, at which place, with which bytes, whether up, at which costs. -/
structure A46 where
  d : Int
  o : Int
  n : Int
  b : List Int
  u : Bool
  k0 : Int
  k1 : Int
def k46 : Kd A46 := Kd.iso (Kd.pair (Kd.int .i64) (Kd.pair (Kd.int .i64) (Kd.pair (Kd.int .i64) (Kd.pair (Kd.slice 5 (Kd.int .u8)) (Kd.pair Kd.bool (Kd.pair (Kd.int .i64) (Kd.int .i64))))))) (fun x : A46 => (x.d, x.o, x.n, x.b, x.u, x.k0, x.k1))
theorem k46_open {w : World} {x : A46} {cs : List Value} (h : k46.K w x cs) : ∃ A c, cs = [.int .i64 x.d, .int .i64 x.o, .int .i64 x.n, .slice A x.b.length c, .bool x.u, .int .i64 x.k0, .int .i64 x.k1] ∧ x.b.length ≤ c ∧ Kd.C kB w A x.b.length x.b := by
  obtain ⟨_, _, rfl, rfl, _, _, rfl, rfl, _, _, rfl, rfl, _, _, rfl, ⟨A, c, rfl, hl, hC⟩, _, _, rfl, rfl, _, _, rfl, rfl, rfl⟩ := h
  exact ⟨A, c, rfl, hl, hC⟩
theorem k46_mk (w : World) (x : A46) (A : Option Addr) (c : Nat) (hl : x.b.length ≤ c) (hC : Kd.C kB w A x.b.length x.b) : k46.K w x [.int .i64 x.d, .int .i64 x.o, .int .i64 x.n, .slice A x.b.length c, .bool x.u, .int .i64 x.k0, .int .i64 x.k1] :=
  ⟨[.int .i64 x.d], _, rfl, rfl, [.int .i64 x.o], _, rfl, rfl, [.int .i64 x.n], _, rfl, rfl, [.slice A x.b.length c], _, rfl, ⟨A, c, rfl, hl, hC⟩, [.bool x.u], _, rfl, rfl, [.int .i64 x.k0], [.int .i64 x.k1], rfl, rfl, rfl⟩
theorem act_at {w : World} {A : Option Addr} {n : Nat} {xs : List A46} (h : Kd.C k46 w A n xs) {k : Nat} (hk : k < xs.length) (hn : n = xs.length) :
    ∃ ad x A0 c0, A = some ad ∧ xs[k]? = some x ∧ x.b.length ≤ c0 ∧ Kd.C kB w A0 x.b.length x.b ∧ w.cell? (ad.add (k * 7)) = some (.int .i64 x.d) ∧ w.cell? ⟨(ad.add (k * 7)).block, (ad.add (k * 7)).off + 1, none⟩ = some (.int .i64 x.o) ∧ w.cell? ⟨(ad.add (k * 7)).block, (ad.add (k * 7)).off + 2, none⟩ = some (.int .i64 x.n) ∧ w.cell? ⟨(ad.add (k * 7)).block, (ad.add (k * 7)).off + 3, none⟩ = some (.slice A0 x.b.length c0) ∧ w.cell? ⟨(ad.add (k * 7)).block, (ad.add (k * 7)).off + 4, none⟩ = some (.bool x.u) ∧ w.cell? ⟨(ad.add (k * 7)).block, (ad.add (k * 7)).off + 5, none⟩ = some (.int .i64 x.k0) ∧ w.cell? ⟨(ad.add (k * 7)).block, (ad.add (k * 7)).off + 6, none⟩ = some (.int .i64 x.k1) := by
  obtain ⟨ad, c, e, _, hK, hc0⟩ := Kd.C_get h ⟨0, 0, 0, [], false, 0, 0⟩ (k : Int) (by omega) (by omega)
  rw [show ((k : Int)).toNat = k from by omega] at hK hc0
  obtain ⟨x, hx⟩ : ∃ x, xs[k]? = some x := ⟨xs[k], List.getElem?_eq_getElem hk⟩
  have hg : xs.getD k ⟨0, 0, 0, [], false, 0, 0⟩ = x := by rw [List.getD_eq_getElem?_getD, hx]; rfl
  rw [hg] at hK
  obtain ⟨A0, c0, rfl, hl, hC⟩ := k46_open hK
  exact ⟨ad, x, A0, c0, e, hx, hl, hC, hc0 0 _ rfl, by rw [← add_field _ _ 1 (by omega)]; exact hc0 1 _ rfl, by rw [← add_field _ _ 2 (by omega)]; exact hc0 2 _ rfl, by rw [← add_field _ _ 3 (by omega)]; exact hc0 3 _ rfl, by rw [← add_field _ _ 4 (by omega)]; exact hc0 4 _ rfl, by rw [← add_field _ _ 5 (by omega)]; exact hc0 5 _ rfl, by rw [← add_field _ _ 6 (by omega)]; exact hc0 6 _ rfl⟩

/-- Few texts, and short ones. -/
def Small (xs : List (List Int)) : Prop := xs.length ≤ 32 ∧ ∀ x ∈ xs, x.length ≤ 200
theorem Small.nil : Small [] := ⟨by simp, by simp⟩
theorem Small.snoc {xs : List (List Int)} {b : List Int} (h : Small xs) (hl : xs.length < 32) (hb : b.length ≤ 200) : Small (xs ++ [b]) := by
  refine ⟨by simp; omega, fun x hx => ?_⟩
  rcases List.mem_append.1 hx with hx | hx
  · exact h.2 x hx
  · rw [List.mem_singleton.1 hx]; exact hb
theorem Small.erase {xs : List (List Int)} (h : Small xs) (n : Nat) : Small (xs.eraseIdx n) := by
  refine ⟨?_, fun x hx => h.2 x (List.mem_of_mem_eraseIdx hx)⟩
  have := h.1
  rw [List.length_eraseIdx]
  split <;> omega
theorem Small.tx {xs : List (List Int)} (h : Small xs) {n : Nat} (hn : n < xs.length) : (tx xs n).length ≤ 200 := by
  refine h.2 _ ?_
  unfold Qu.tx
  rw [List.getD_eq_getElem?_getD, List.getElem?_eq_getElem hn]
  exact List.getElem_mem hn
/-- The law's struct holds what the cable and its queues hold. -/
structure Inv (B : Nat) (W : World) (g gw : Nat) (a b : Int) (up : Bool) (c0 c1 : Int) (q0 q1 : Nat) (v0 v1 lA lB : Value) (xA xB : List (List Int)) (col : Nat → Nat) : Prop where
  s : St B W g a b up c0 c1 q0 q1 v0 v1 lA lB xA xB xA xB col
  w : W.heap[gw]? = some (.cells (wc a b up c0 c1 lA lB) 43 (0, 0))
  bw : B ≤ gw
  cw : col gw = 0
  mA : Small xA
  mB : Small xB
def Known (B : Nat) (W : World) (g gw : Nat) (a b : Int) : Prop := ∃ up c0 c1 q0 q1 v0 v1 lA lB xA xB col, Inv B W g gw a b up c0 c1 q0 q1 v0 v1 lA lB xA xB col
theorem Known.below {B : Nat} {W W' : World} {g gw : Nat} {a b : Int} (h : Known B W g gw a b) (hb : Below W.heap.size W W') : Known B W' g gw a b := by
  obtain ⟨up, c0, c1, q0, q1, v0, v1, lA, lB, xA, xB, col, h⟩ := h
  exact ⟨up, c0, c1, q0, q1, v0, v1, lA, lB, xA, xB, col, h.s.below hb, blk_below h.w hb, h.bw, h.cw, h.mA, h.mB⟩
section
variable {B : Nat} {W W' : World} {g : Nat} {a b : Int} {up : Bool} {c0 c1 : Int} {q0 q1 : Nat} {v0 v1 lA lB : Value} {xA xB yA yB : List (List Int)} {col : Nat → Nat}
/-- A store into a block that is nobody's. -/
theorem St.far {gw : Nat} {cs : Array Value} {t : Nat} (h : St B W g a b up c0 c1 q0 q1 v0 v1 lA lB xA xB yA yB col) (hw : W.heap[gw]? = some (.cells cs t (0, 0))) (h1 : t ≠ 63) (h2 : 22 ≠ t) (h3 : t ≠ 29) (hc : col gw = 0) (hB : B ≤ gw) (j : Nat) (u : Value) : St B (W.setCell ⟨gw, j, none⟩ u) g a b up c0 c1 q0 q1 v0 v1 lA lB xA xB yA yB col := by
  obtain ⟨n0, n1, _, _⟩ := h.other hw h1 h2
  have ng : gw ≠ g := by
    intro e
    subst e
    rw [show W.heap[gw]? = _ from h.cb] at hw
    simp at hw
    exact h3 hw.2.symm
  have keep : ∀ k, k ≠ gw → (W.setCell ⟨gw, j, none⟩ u).heap[k]? = W.heap[k]? := fun k hk => Below.heap_setCell W ⟨gw, j, none⟩ u k hk
  have hbg := h.bg
  refine ⟨(keep g ng.symm).trans h.cb, QL.recast h.h0 (keep q0 n0.symm) (fun k hk hlt => keep k (fun e => by subst e; omega)) (fun k hk _ => hk) h.h0.2.2.2, QL.recast h.h1 (keep q1 n1.symm) (fun k hk hlt => keep k (fun e => by subst e; omega)) (fun k hk _ => hk) h.h1.2.2.2, ?_, ?_, h.cg, h.e0, h.e1, h.bg, h.ne⟩
  · refine N_recast h.nA (fun k hk' hlt => keep k (fun e => ?_)) (fun k hk' _ => hk')
    subst e
    rcases hk' with hk' | hk' <;> omega
  · refine N_recast h.nB (fun k hk' hlt => keep k (fun e => ?_)) (fun k hk' _ => hk')
    subst e
    rcases hk' with hk' | hk' <;> omega
end
section
variable {B : Nat} {W W' : World} {g : Nat} {a b : Int} {up : Bool} {c0 c1 : Int} {q0 q1 : Nat} {v0 v1 lA lB : Value} {xA xB yA yB : List (List Int)} {col : Nat → Nat}
/-- A store of a whole struct into a variable that is nobody's. -/
theorem St.setRow {gw : Nat} {cs cs' : Array Value} {t : Nat} (h : St B W g a b up c0 c1 q0 q1 v0 v1 lA lB xA xB yA yB col) (hw : W.heap[gw]? = some (.cells cs t (0, 0))) (h1 : t ≠ 63) (h2 : 22 ≠ t) (h3 : t ≠ 29) (hc : col gw = 0) (hB : B ≤ gw) : St B (W.setRow gw cs') g a b up c0 c1 q0 q1 v0 v1 lA lB xA xB yA yB col := by
  obtain ⟨n0, n1, _, _⟩ := h.other hw h1 h2
  have ng : gw ≠ g := by
    intro e
    subst e
    rw [show W.heap[gw]? = _ from h.cb] at hw
    simp at hw
    exact h3 hw.2.symm
  have keep : ∀ k, k ≠ gw → (W.setRow gw cs').heap[k]? = W.heap[k]? := fun k hk => setRow_other W gw k cs' hk
  have hbg := h.bg
  refine ⟨(keep g ng.symm).trans h.cb, QL.recast h.h0 (keep q0 n0.symm) (fun k hk hlt => keep k (fun e => by subst e; omega)) (fun k hk _ => hk) h.h0.2.2.2, QL.recast h.h1 (keep q1 n1.symm) (fun k hk hlt => keep k (fun e => by subst e; omega)) (fun k hk _ => hk) h.h1.2.2.2, ?_, ?_, h.cg, h.e0, h.e1, h.bg, h.ne⟩
  · refine N_recast h.nA (fun k hk' hlt => keep k (fun e => ?_)) (fun k hk' _ => hk')
    subst e
    rcases hk' with hk' | hk' <;> omega
  · refine N_recast h.nB (fun k hk' hlt => keep k (fun e => ?_)) (fun k hk' _ => hk')
    subst e
    rcases hk' with hk' | hk' <;> omega
end
theorem below_row {B : Nat} {w W : World} {g : Nat} (h : Below B w W) (hB : B ≤ g) (cs : Array Value) : Below B w (W.setRow g cs) :=
  h.trans ⟨rfl, rfl, rfl, by simp [World.setRow], fun k hk => setRow_other W g k cs (by omega)⟩
theorem wc_one (a b : Int) (up : Bool) (c0 c1 : Int) (A1 A2 : Option Addr) (n1 n2 d1 d2 : Nat) : (wc a b up c0 c1 (.slice A1 n1 d1) (.slice A2 n2 d2)).all (·.oneCell') = true := by simp [wc]; exact ⟨rfl, rfl, rfl, rfl, rfl, rfl, rfl⟩
theorem info43_size (cs : Array Value) (h : cs.size = 7) : (Try.prog.info? 43).map (·.size) = some cs.size := by rw [h]; kernel_rfl
/-- What the checks of a round read: kept by what makes memory. -/
def S8 (w7 : World) (g gw gx : Nat) (a b xo : Int) (up : Bool) (m0 m1 : Int) (q0 q1 : Nat) (lA lB : Value) (W : World) : Prop :=
  (W.cell? ⟨gx, 1, none⟩ = some (.int .i64 xo)) ∧ (W.cell? ⟨gw, 0, none⟩ = some (.int .i64 a) ∧ W.cell? ⟨gw, 1, none⟩ = some (.int .i64 b) ∧ W.cell? ⟨gw, 2, none⟩ = some (.bool up) ∧ W.cell? ⟨gw, 3, none⟩ = some (.int .i64 m0) ∧ W.cell? ⟨gw, 4, none⟩ = some (.int .i64 m1) ∧ W.cell? ⟨gw, 5, none⟩ = some lA ∧ W.cell? ⟨gw, 6, none⟩ = some lB) ∧ Aside0 (CB W g a b up m0 m1 (some ⟨q0, 0, none⟩) (some ⟨q1, 0, none⟩)) ∧ Aside0 (Below w7.heap.size w7 W)
theorem keep8 {w7 W W' : World} {g gw gx : Nat} {a b xo : Int} {up : Bool} {m0 m1 : Int} {q0 q1 : Nat} {lA lB : Value}
    (h : (W.cell? ⟨gx, 1, none⟩ = some (.int .i64 xo)) ∧ (W.cell? ⟨gw, 0, none⟩ = some (.int .i64 a) ∧ W.cell? ⟨gw, 1, none⟩ = some (.int .i64 b) ∧ W.cell? ⟨gw, 2, none⟩ = some (.bool up) ∧ W.cell? ⟨gw, 3, none⟩ = some (.int .i64 m0) ∧ W.cell? ⟨gw, 4, none⟩ = some (.int .i64 m1) ∧ W.cell? ⟨gw, 5, none⟩ = some lA ∧ W.cell? ⟨gw, 6, none⟩ = some lB) ∧ Aside0 (CB W g a b up m0 m1 (some ⟨q0, 0, none⟩) (some ⟨q1, 0, none⟩)) ∧ Aside0 (Below w7.heap.size w7 W))
    (hb : Below W.heap.size W W') :
    (W'.cell? ⟨gx, 1, none⟩ = some (.int .i64 xo)) ∧ (W'.cell? ⟨gw, 0, none⟩ = some (.int .i64 a) ∧ W'.cell? ⟨gw, 1, none⟩ = some (.int .i64 b) ∧ W'.cell? ⟨gw, 2, none⟩ = some (.bool up) ∧ W'.cell? ⟨gw, 3, none⟩ = some (.int .i64 m0) ∧ W'.cell? ⟨gw, 4, none⟩ = some (.int .i64 m1) ∧ W'.cell? ⟨gw, 5, none⟩ = some lA ∧ W'.cell? ⟨gw, 6, none⟩ = some lB) ∧ Aside0 (CB W' g a b up m0 m1 (some ⟨q0, 0, none⟩) (some ⟨q1, 0, none⟩)) ∧ Aside0 (Below w7.heap.size w7 W') := by
  obtain ⟨h0, ⟨h1, h2, h3, h4, h5, h6, h7⟩, h8, h9⟩ := h
  exact ⟨pw_cell_below hb h0, ⟨pw_cell_below hb h1, pw_cell_below hb h2, pw_cell_below hb h3, pw_cell_below hb h4, pw_cell_below hb h5, pw_cell_below hb h6, pw_cell_below hb h7⟩, ⟨h8.out.below hb⟩, ⟨below_step h9.out hb⟩⟩
theorem cb8 {w7 W : World} {g gw gx : Nat} {a b xo : Int} {up : Bool} {m0 m1 : Int} {q0 q1 : Nat} {lA lB : Value}
    (h : (W.cell? ⟨gx, 1, none⟩ = some (.int .i64 xo)) ∧ (W.cell? ⟨gw, 0, none⟩ = some (.int .i64 a) ∧ W.cell? ⟨gw, 1, none⟩ = some (.int .i64 b) ∧ W.cell? ⟨gw, 2, none⟩ = some (.bool up) ∧ W.cell? ⟨gw, 3, none⟩ = some (.int .i64 m0) ∧ W.cell? ⟨gw, 4, none⟩ = some (.int .i64 m1) ∧ W.cell? ⟨gw, 5, none⟩ = some lA ∧ W.cell? ⟨gw, 6, none⟩ = some lB) ∧ Aside0 (CB W g a b up m0 m1 (some ⟨q0, 0, none⟩) (some ⟨q1, 0, none⟩)) ∧ Aside0 (Below w7.heap.size w7 W)) : CB W g a b up m0 m1 (some ⟨q0, 0, none⟩) (some ⟨q1, 0, none⟩) := h.2.2.1.out
theorem to_a (g : Nat) (a b : Int) (up : Bool) (c0 c1 : Int) (p : Addr) (p1 : Option Addr) (w : World) (h : CB w g a b up c0 c1 (some p) p1) : Calls Try.prog 11 #[.pointer (some ⟨g, 0, none⟩), .int .i64 a] w fun e w' => e = .returned (.pointer (some p)) ∧ w' = w := by
  have h1 := to_yes g a b up c0 c1 p p1 a w h
  rwa [show toF a b (some p) p1 a = some p from by unfold toF; rw [if_pos rfl]] at h1
theorem to_b (g : Nat) (a b : Int) (up : Bool) (c0 c1 : Int) (p : Addr) (p1 : Option Addr) (w : World) (h : CB w g a b up c0 c1 (some p) p1) (hab : a < b) : Calls Try.prog 11 #[.pointer (some ⟨g, 0, none⟩), .int .i64 b] w fun e w' => e = .returned (.pointer p1) ∧ w' = w := by
  have h1 := to_yes g a b up c0 c1 p p1 b w h
  rwa [show toF a b (some p) p1 b = p1 from by unfold toF; rw [if_neg (by omega), if_pos rfl]] at h1
section
variable {w7 W W' : World} {B g gw : Nat} {a b : Int} {up : Bool} {m0 m1 : Int} {q0 q1 : Nat} {v0 v1 lA lB : Value} {xA xB : List (List Int)} {col : Nat → Nat}
theorem keep2 (h : (W.cell? ⟨gw, 5, none⟩ = some lA ∧ W.cell? ⟨gw, 6, none⟩ = some lB) ∧ Aside0 (St B W g a b up m0 m1 q0 q1 v0 v1 lA lB xA xB xA xB col) ∧ Aside0 (Below w7.heap.size w7 W)) (hb : Below W.heap.size W W') : (W'.cell? ⟨gw, 5, none⟩ = some lA ∧ W'.cell? ⟨gw, 6, none⟩ = some lB) ∧ Aside0 (St B W' g a b up m0 m1 q0 q1 v0 v1 lA lB xA xB xA xB col) ∧ Aside0 (Below w7.heap.size w7 W') :=
  ⟨⟨pw_cell_below hb h.1.1, pw_cell_below hb h.1.2⟩, ⟨h.2.1.out.below hb⟩, ⟨below_step h.2.2.out hb⟩⟩
theorem st2 (h : (W.cell? ⟨gw, 5, none⟩ = some lA ∧ W.cell? ⟨gw, 6, none⟩ = some lB) ∧ Aside0 (St B W g a b up m0 m1 q0 q1 v0 v1 lA lB xA xB xA xB col) ∧ Aside0 (Below w7.heap.size w7 W)) : St B W g a b up m0 m1 q0 q1 v0 v1 lA lB xA xB xA xB col := h.2.1.out
end
end Go.Proofs.Ythimnnnfgangbaa.Cb
