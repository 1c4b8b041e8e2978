/- The arguments of the query's laws, opened, for every input. -/
import Derived.Test.YthimnnnfgangbaaDoorQrS
import Derived.Deep.Slices
import Derived.Lib.SmallJoins
import Derived.OpenShut
set_option linter.unusedVariables false
set_option linter.unusedSimpArgs false
namespace Go.Proofs.YthimnnnfgangbaaDoor.Qr
open Go.RowKit Go.Deep Go.Proofs.YthimnnnfgangbaaDoorW.PrintWords Go.Proofs.YthimnnnfgangbaaDoorW.PrintLast Go.Proofs.YthimnnnfgangbaaDoorW.PrintMore
/-- Opened: whatever each element reads as, the slice is a list of it. -/
theorem open_kd {H : Type} {enc : TypeId × Value → H} {P : Program} {w : World} {base : Nat} {spare : Nat → Bool} {held : Bool} {α : Type} [Inhabited α] (d : Kd α) {t e : TypeId} {fuel : Nat} {a0 : Option Addr} {len0 cap0 : Nat} {x : DataW H × List MemPlace}
    (ht : P.underlying t = some (.slice e)) (hs : P.cellsOf e = d.sz)
    (hel : ∀ n cs D Pl, DataW.trod enc P w base spare held n e cs = some (D, Pl) → ∃ x, d.K w x cs)
    (h : DataW.trod enc P w base spare held fuel t [.slice a0 len0 cap0] = some x) : ∃ xs : List α, xs.length = len0 ∧ len0 ≤ cap0 ∧ Kd.C d w a0 len0 xs := by
  rcases open_slice ht h with ⟨hc, _⟩ | ⟨a, len, cap, m, n, D, Pl, hc, hb, hl, hm, hmm, _, hx⟩
  · simp at hc
    obtain ⟨rfl, rfl, rfl⟩ := hc
    exact ⟨[], rfl, Nat.le_refl _, rfl, by omega, fun h => by omega⟩
  · simp at hc
    obtain ⟨rfl, rfl, rfl⟩ := hc
    have hlm : len0 ≤ m := by rw [hmm]; split <;> omega
    have hall : ∀ i, i < len0 → ∃ p : α, ∃ cs, w.cells? base (a.add (i * P.cellsOf e)) (P.cellsOf e) = some cs ∧ d.K w p cs := by
      intro i hi
      obtain ⟨cs, h1, h2⟩ := hx i (by omega)
      obtain ⟨p, hp⟩ := hel _ _ _ _ h2
      exact ⟨p, cs, h1, hp⟩
    obtain ⟨f, hf⟩ := choose_lt hall
    refine ⟨(List.range len0).map f, by simp, hl, by simp, by unfold maxLen at hm; omega, fun _ => ⟨a, rfl, fun j p hp => ?_⟩⟩
    have hj : j < len0 := by
      have := (List.getElem?_eq_some_iff.1 hp).1
      simpa using this
    have hp' : f j = p := by
      have := (List.getElem?_eq_some_iff.1 hp).2
      simpa using this
    obtain ⟨cs, h1, h2⟩ := hf j hj
    rw [hp'] at h2
    refine ⟨cs, d.K_len h2, h2, fun i u hu => ?_⟩
    obtain ⟨_, _, hcell⟩ := World.cells?_some h1
    have hi : i < P.cellsOf e := by
      have := (List.getElem?_eq_some_iff.1 hu).1
      have := d.K_len h2
      omega
    rw [← hs, ← Go.Deep.add_add, hcell i hi]
    exact hu


/-- The same, of the cells. -/
theorem open_kdc {H : Type} {enc : TypeId × Value → H} {P : Program} {w : World} {base : Nat} {spare : Nat → Bool} {held : Bool} {α : Type} [Inhabited α] (d : Kd α) {t e : TypeId} {fuel : Nat} {cs : List Value} {x : DataW H × List MemPlace}
    (ht : P.underlying t = some (.slice e)) (hs : P.cellsOf e = d.sz)
    (hel : ∀ n cs D Pl, DataW.trod enc P w base spare held n e cs = some (D, Pl) → ∃ x, d.K w x cs)
    (h : DataW.trod enc P w base spare held fuel t cs = some x) : ∃ (A : Option Addr) (c : Nat) (xs : List α), cs = [.slice A xs.length c] ∧ xs.length ≤ c ∧ Kd.C d w A xs.length xs := by
  rcases open_slice ht h with ⟨rfl, _⟩ | ⟨a, len, cap, m, n, D, Pl, rfl, _⟩
  · obtain ⟨xs, h1, h2, h3⟩ := open_kd d ht hs hel h
    exact ⟨none, 0, xs, by rw [h1], by rw [h1]; exact h2, by rw [h1]; exact h3⟩
  · obtain ⟨xs, h1, h2, h3⟩ := open_kd d ht hs hel h
    exact ⟨some a, cap, xs, by rw [h1], by rw [h1]; exact h2, by rw [h1]; exact h3⟩
theorem ts2 {H : Type} {enc : TypeId × Value → H} {P : Program} {w : World} {base : Nat} {spare : Nat → Bool} {held : Bool} {t : TypeId} {f0 f1 : Field} {fuel : Nat} {cs : List Value} {x : DataW H × List MemPlace} (ht : P.underlying t = some (.struct #[f0, f1])) (h : DataW.trod enc P w base spare held fuel t cs = some x) :
    ∃ y0 y1 n, cs.length = P.cellsOf t ∧ x.1 = .agg [y0.1, y1.1] ∧ DataW.trod enc P w base spare held n f0.type ((cs.drop f0.offset).take (P.cellsOf f0.type)) = some y0 ∧
      DataW.trod enc P w base spare held n f1.type ((cs.drop f1.offset).take (P.cellsOf f1.type)) = some y1 := by
  obtain ⟨xs, n, _, rfl, hl, hlen, hf⟩ := DataW.trod_struct ht h
  match xs, hlen with
  | [y0, y1], _ => exact ⟨y0, y1, n, hl, rfl, by simpa using hf 0 f0 rfl, by simpa using hf 1 f1 rfl⟩

theorem ts3 {H : Type} {enc : TypeId × Value → H} {P : Program} {w : World} {base : Nat} {spare : Nat → Bool} {held : Bool} {t : TypeId} {f0 f1 f2 : Field} {fuel : Nat} {cs : List Value} {x : DataW H × List MemPlace} (ht : P.underlying t = some (.struct #[f0, f1, f2])) (h : DataW.trod enc P w base spare held fuel t cs = some x) :
    ∃ y0 y1 y2 n, cs.length = P.cellsOf t ∧ x.1 = .agg [y0.1, y1.1, y2.1] ∧ DataW.trod enc P w base spare held n f0.type ((cs.drop f0.offset).take (P.cellsOf f0.type)) = some y0 ∧
      DataW.trod enc P w base spare held n f1.type ((cs.drop f1.offset).take (P.cellsOf f1.type)) = some y1 ∧
      DataW.trod enc P w base spare held n f2.type ((cs.drop f2.offset).take (P.cellsOf f2.type)) = some y2 := by
  obtain ⟨xs, n, _, rfl, hl, hlen, hf⟩ := DataW.trod_struct ht h
  match xs, hlen with
  | [y0, y1, y2], _ => exact ⟨y0, y1, y2, n, hl, rfl, by simpa using hf 0 f0 rfl, by simpa using hf 1 f1 rfl, by simpa using hf 2 f2 rfl⟩

theorem ts5 {H : Type} {enc : TypeId × Value → H} {P : Program} {w : World} {base : Nat} {spare : Nat → Bool} {held : Bool} {t : TypeId} {f0 f1 f2 f3 f4 : Field} {fuel : Nat} {cs : List Value} {x : DataW H × List MemPlace} (ht : P.underlying t = some (.struct #[f0, f1, f2, f3, f4])) (h : DataW.trod enc P w base spare held fuel t cs = some x) :
    ∃ y0 y1 y2 y3 y4 n, cs.length = P.cellsOf t ∧ x.1 = .agg [y0.1, y1.1, y2.1, y3.1, y4.1] ∧ DataW.trod enc P w base spare held n f0.type ((cs.drop f0.offset).take (P.cellsOf f0.type)) = some y0 ∧
      DataW.trod enc P w base spare held n f1.type ((cs.drop f1.offset).take (P.cellsOf f1.type)) = some y1 ∧
      DataW.trod enc P w base spare held n f2.type ((cs.drop f2.offset).take (P.cellsOf f2.type)) = some y2 ∧
      DataW.trod enc P w base spare held n f3.type ((cs.drop f3.offset).take (P.cellsOf f3.type)) = some y3 ∧
      DataW.trod enc P w base spare held n f4.type ((cs.drop f4.offset).take (P.cellsOf f4.type)) = some y4 := by
  obtain ⟨xs, n, _, rfl, hl, hlen, hf⟩ := DataW.trod_struct ht h
  match xs, hlen with
  | [y0, y1, y2, y3, y4], _ => exact ⟨y0, y1, y2, y3, y4, n, hl, rfl, by simpa using hf 0 f0 rfl, by simpa using hf 1 f1 rfl, by simpa using hf 2 f2 rfl, by simpa using hf 3 f3 rfl, by simpa using hf 4 f4 rfl⟩

theorem ts8 {H : Type} {enc : TypeId × Value → H} {P : Program} {w : World} {base : Nat} {spare : Nat → Bool} {held : Bool} {t : TypeId} {f0 f1 f2 f3 f4 f5 f6 f7 : Field} {fuel : Nat} {cs : List Value} {x : DataW H × List MemPlace} (ht : P.underlying t = some (.struct #[f0, f1, f2, f3, f4, f5, f6, f7])) (h : DataW.trod enc P w base spare held fuel t cs = some x) :
    ∃ y0 y1 y2 y3 y4 y5 y6 y7 n, cs.length = P.cellsOf t ∧ x.1 = .agg [y0.1, y1.1, y2.1, y3.1, y4.1, y5.1, y6.1, y7.1] ∧ DataW.trod enc P w base spare held n f0.type ((cs.drop f0.offset).take (P.cellsOf f0.type)) = some y0 ∧
      DataW.trod enc P w base spare held n f1.type ((cs.drop f1.offset).take (P.cellsOf f1.type)) = some y1 ∧
      DataW.trod enc P w base spare held n f2.type ((cs.drop f2.offset).take (P.cellsOf f2.type)) = some y2 ∧
      DataW.trod enc P w base spare held n f3.type ((cs.drop f3.offset).take (P.cellsOf f3.type)) = some y3 ∧
      DataW.trod enc P w base spare held n f4.type ((cs.drop f4.offset).take (P.cellsOf f4.type)) = some y4 ∧
      DataW.trod enc P w base spare held n f5.type ((cs.drop f5.offset).take (P.cellsOf f5.type)) = some y5 ∧
      DataW.trod enc P w base spare held n f6.type ((cs.drop f6.offset).take (P.cellsOf f6.type)) = some y6 ∧
      DataW.trod enc P w base spare held n f7.type ((cs.drop f7.offset).take (P.cellsOf f7.type)) = some y7 := by
  obtain ⟨xs, n, _, rfl, hl, hlen, hf⟩ := DataW.trod_struct ht h
  match xs, hlen with
  | [y0, y1, y2, y3, y4, y5, y6, y7], _ => exact ⟨y0, y1, y2, y3, y4, y5, y6, y7, n, hl, rfl, by simpa using hf 0 f0 rfl, by simpa using hf 1 f1 rfl, by simpa using hf 2 f2 rfl, by simpa using hf 3 f3 rfl, by simpa using hf 4 f4 rfl, by simpa using hf 5 f5 rfl, by simpa using hf 6 f6 rfl, by simpa using hf 7 f7 rfl⟩

theorem cells3_of : Tryd.prog.cellsOf 3 = 1 := by kernel_rfl
theorem cells4_of : Tryd.prog.cellsOf 4 = 1 := by kernel_rfl
theorem cells22_of : Tryd.prog.cellsOf 22 = 1 := by kernel_rfl
theorem cells23_of : Tryd.prog.cellsOf 23 = 1 := by kernel_rfl
theorem cells24_of : Tryd.prog.cellsOf 24 = 1 := by kernel_rfl
theorem cells25_of : Tryd.prog.cellsOf 25 = 1 := by kernel_rfl
theorem cells29_of : Tryd.prog.cellsOf 29 = 1 := by kernel_rfl
theorem cells39_of : Tryd.prog.cellsOf 39 = 1 := by kernel_rfl
theorem cells27_of : Tryd.prog.cellsOf 27 = 5 := by kernel_rfl
theorem cells36_of : Tryd.prog.cellsOf 36 = 5 := by kernel_rfl
theorem cells41_of : Tryd.prog.cellsOf 41 = 3 := by kernel_rfl
theorem cells43_of : Tryd.prog.cellsOf 43 = 2 := by kernel_rfl
theorem cells31_of : Tryd.prog.cellsOf 31 = 3 := by kernel_rfl
theorem cells85_of : Tryd.prog.cellsOf 85 = 8 := by kernel_rfl
instance : Inhabited S41 := ⟨z41⟩
instance : Inhabited S43 := ⟨z43⟩
instance : Inhabited S31 := ⟨z31⟩
instance : Inhabited S85 := ⟨z85⟩
/-- A whole number of 64 bits, opened. -/
theorem oI {H : Type} {enc : TypeId × Value → H} {w : World} {base : Nat} {spare : Nat → Bool} {held : Bool} {n : Nat} {cs : List Value} {t : TypeId} {x : DataW H × List MemPlace} (ht : Tryd.prog.underlying t = some (.int .i64)) (h : DataW.trod enc Tryd.prog w base spare held n t cs = some x) : ∃ a : I64, cs = [.int .i64 a.1] := by
  obtain ⟨a, u, _, hw⟩ := DataW.trod_int ht h
  exact ⟨⟨a, bounds_i64 hw⟩, u⟩
theorem oU {H : Type} {enc : TypeId × Value → H} {w : World} {base : Nat} {spare : Nat → Bool} {held : Bool} {n : Nat} {cs : List Value} {t : TypeId} {x : DataW H × List MemPlace} (ht : Tryd.prog.underlying t = some (.int .u64)) (h : DataW.trod enc Tryd.prog w base spare held n t cs = some x) : ∃ a : U64, cs = [.int .u64 a.1] := by
  obtain ⟨a, u, _, hw⟩ := DataW.trod_int ht h
  have hb := bounds_u64 hw
  exact ⟨⟨a.toNat, by omega⟩, by rw [u]; simp; omega⟩
set_option maxRecDepth 100000 in
/-- A link, opened. -/
theorem el43 {H : Type} {enc : TypeId × Value → H} {w : World} {base : Nat} {spare : Nat → Bool} {held : Bool} {n : Nat} {cs : List Value} {D : DataW H} {Pl : List MemPlace} (h : DataW.trod enc Tryd.prog w base spare held n 43 cs = some (D, Pl)) : ∃ x : S43, k43.K w x cs := by
  obtain ⟨y0, y1, m, hl, _, e0, e1⟩ := ts2 Tryd.underlying43 h
  rw [cells43_of] at hl
  match cs, hl with
  | [c0, c1], _ =>
    simp [cells3_of] at e0 e1
    obtain ⟨a0, u0⟩ := oI Tryd.underlying3 e0
    obtain ⟨a1, u1⟩ := oI Tryd.underlying3 e1
    simp at u0 u1
    subst u0 u1
    exact ⟨⟨a0, a1⟩, k43_mk w ⟨a0, a1⟩⟩
set_option maxRecDepth 100000 in
/-- A route, opened. -/
theorem el41 {H : Type} {enc : TypeId × Value → H} {w : World} {base : Nat} {spare : Nat → Bool} {held : Bool} {n : Nat} {cs : List Value} {D : DataW H} {Pl : List MemPlace} (h : DataW.trod enc Tryd.prog w base spare held n 41 cs = some (D, Pl)) : ∃ x : S41, k41.K w x cs := by
  obtain ⟨y0, y1, y2, m, hl, _, e0, e1, e2⟩ := ts3 Tryd.underlying41 h
  rw [cells41_of] at hl
  match cs, hl with
  | [c0, c1, c2], _ =>
    simp [cells3_of, cells39_of] at e0 e1 e2
    obtain ⟨a0, u0⟩ := oI Tryd.underlying3 e0
    obtain ⟨a1, u1⟩ := oI Tryd.underlying3 e1
    obtain ⟨a2, u2⟩ := oU Tryd.underlying39 e2
    simp at u0 u1 u2
    subst u0 u1 u2
    exact ⟨⟨a0, a1, a2⟩, k41_mk w ⟨a0, a1, a2⟩⟩
set_option maxRecDepth 100000 in
/-- What one tells of its links, opened. -/
theorem el31 {H : Type} {enc : TypeId × Value → H} {w : World} {base : Nat} {spare : Nat → Bool} {held : Bool} {n : Nat} {cs : List Value} {D : DataW H} {Pl : List MemPlace} (h : DataW.trod enc Tryd.prog w base spare held n 31 cs = some (D, Pl)) : ∃ x : S31, k31.K w x cs := by
  obtain ⟨y0, y1, y2, m, hl, _, e0, e1, e2⟩ := ts3 Tryd.underlying31 h
  rw [cells31_of] at hl
  match cs, hl with
  | [c0, c1, c2], _ =>
    simp [cells3_of, cells29_of] at e0 e1 e2
    obtain ⟨a0, u0⟩ := oI Tryd.underlying3 e0
    obtain ⟨a1, u1⟩ := oI Tryd.underlying3 e1
    obtain ⟨A, c, xs, u2, hl1, hC1⟩ := open_kdc k43 Tryd.underlying29 cells43_of (fun n cs D Pl h => el43 h) e2
    simp at u0 u1 u2
    subst u0 u1 u2
    exact ⟨⟨a0, a1, xs⟩, k31_mk w ⟨a0, a1, xs⟩ hl1 hC1⟩
set_option maxRecDepth 100000 in
/-- A neighbour, opened. -/
theorem el85 {H : Type} {enc : TypeId × Value → H} {w : World} {base : Nat} {spare : Nat → Bool} {held : Bool} {n : Nat} {cs : List Value} {D : DataW H} {Pl : List MemPlace} (h : DataW.trod enc Tryd.prog w base spare held n 85 cs = some (D, Pl)) : ∃ x : S85, k85.K w x cs := by
  obtain ⟨y0, y1, y2, y3, y4, y5, y6, y7, m, hl, _, e0, e1, e2, e3, e4, e5, e6, e7⟩ := ts8 Tryd.underlying85 h
  rw [cells85_of] at hl
  match cs, hl with
  | [c0, c1, c2, c3, c4, c5, c6, c7], _ =>
    simp [cells3_of, cells4_of] at e0 e1 e2 e3 e4 e5 e6 e7
    obtain ⟨a0, u0⟩ := oI Tryd.underlying3 e0
    obtain ⟨a1, u1⟩ := oI Tryd.underlying3 e1
    obtain ⟨a2, u2⟩ := oI Tryd.underlying3 e2
    obtain ⟨a3, u3⟩ := oI Tryd.underlying3 e3
    obtain ⟨a4, u4, _⟩ := DataW.trod_bool Tryd.underlying4 e4
    obtain ⟨a5, u5, _⟩ := DataW.trod_bool Tryd.underlying4 e5
    obtain ⟨a6, u6⟩ := oI Tryd.underlying3 e6
    obtain ⟨a7, u7, _⟩ := DataW.trod_bool Tryd.underlying4 e7
    simp at u0 u1 u2 u3 u4 u5 u6 u7
    subst u0 u1 u2 u3 u4 u5 u6 u7
    exact ⟨⟨a0, a1, a2, a3, a4, a5, a6, a7⟩, k85_mk w ⟨a0, a1, a2, a3, a4, a5, a6, a7⟩⟩
set_option maxRecDepth 100000 in
/-- A reply, opened. -/
theorem open27 {H : Type} {enc : TypeId × Value → H} {w : World} {base : Nat} {spare : Nat → Bool} {held : Bool} {n : Nat} {cs : List Value} {x : DataW H × List MemPlace} (h : DataW.trod enc Tryd.prog w base spare held n 27 cs = some x) :
    ∃ (X : S27) (R B S : Option Addr) (rc bc sc : Nat), cs = [.int .i64 X.e, .int .i64 X.n.1, .slice R X.r.length rc, .slice B X.b.length bc, .slice S X.s.length sc] ∧ RP X R B S w := by
  obtain ⟨y0, y1, y2, y3, y4, m, hl, _, e0, e1, e2, e3, e4⟩ := ts5 Tryd.underlying27 h
  rw [cells27_of] at hl
  match cs, hl with
  | [c0, c1, c2, c3, c4], _ =>
    simp [cells3_of, cells22_of, cells23_of, cells24_of, cells25_of] at e0 e1 e2 e3 e4
    obtain ⟨a0, u0⟩ := oI Tryd.underlying22 e0
    obtain ⟨a1, u1⟩ := oI Tryd.underlying3 e1
    obtain ⟨R, rc, rs, u2, hl2, hC2⟩ := open_kdc k41 Tryd.underlying23 cells41_of (fun n cs D Pl h => el41 h) e2
    obtain ⟨B, bc, bs, u3, hl3, hC3⟩ := open_kdc k31 Tryd.underlying24 cells31_of (fun n cs D Pl h => el31 h) e3
    obtain ⟨S, sc, ss, u4, hl4, hC4⟩ := open_kdc k85 Tryd.underlying25 cells85_of (fun n cs D Pl h => el85 h) e4
    simp at u0 u1 u2 u3 u4
    subst u0 u1 u2 u3 u4
    exact ⟨⟨a0.1, a1, rs, bs, ss⟩, R, B, S, rc, bc, sc, rfl, ⟨hC2, hC3, hC4⟩⟩
set_option maxRecDepth 100000 in
/-- A cable, opened. -/
theorem open36 {H : Type} {enc : TypeId × Value → H} {w : World} {base : Nat} {spare : Nat → Bool} {held : Bool} {n : Nat} {cs : List Value} {x : DataW H × List MemPlace} (h : DataW.trod enc Tryd.prog w base spare held n 36 cs = some x) :
    ∃ (a b : I64) (up : Bool) (ca cb : I64), cs = [.int .i64 a.1, .int .i64 b.1, .bool up, .int .i64 ca.1, .int .i64 cb.1] := by
  obtain ⟨y0, y1, y2, y3, y4, m, hl, _, e0, e1, e2, e3, e4⟩ := ts5 Tryd.underlying36 h
  rw [cells36_of] at hl
  match cs, hl with
  | [c0, c1, c2, c3, c4], _ =>
    simp [cells3_of, cells4_of] at e0 e1 e2 e3 e4
    obtain ⟨a0, u0⟩ := oI Tryd.underlying3 e0
    obtain ⟨a1, u1⟩ := oI Tryd.underlying3 e1
    obtain ⟨a2, u2, _⟩ := DataW.trod_bool Tryd.underlying4 e2
    obtain ⟨a3, u3⟩ := oI Tryd.underlying3 e3
    obtain ⟨a4, u4⟩ := oI Tryd.underlying3 e4
    simp at u0 u1 u2 u3 u4
    subst u0 u1 u2 u3 u4
    exact ⟨a0, a1, a2, a3, a4, rfl⟩
end Go.Proofs.YthimnnnfgangbaaDoor.Qr
