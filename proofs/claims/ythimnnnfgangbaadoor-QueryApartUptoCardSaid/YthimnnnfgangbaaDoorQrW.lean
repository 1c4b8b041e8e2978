/- Replies of bounded bulk: their links are few; QueryApart, walked whole. -/
import Derived.Test.YthimnnnfgangbaaDoorRows
import Derived.Test.YthimnnnfgangbaaDoorQrR
import Derived.Test.YthimnnnfgangbaaDoorQrV
set_option linter.unusedVariables false
set_option linter.unusedSimpArgs false
namespace Go.Proofs.YthimnnnfgangbaaDoor.Qr
open Go.RowKit Go.Deep Go.Proofs.YthimnnnfgangbaaDoorW.PrintWords Go.Proofs.YthimnnnfgangbaaDoorW.PrintLast Go.Proofs.YthimnnnfgangbaaDoorW.PrintMore
theorem bulk_one {H : Type} (d : DataW H) : 1 ≤ Rows.uptoBulk d := by
  cases d with
  | lit l => cases l <;> simp [Rows.uptoBulk]
  | nil => simp [Rows.uptoBulk]
  | ptr d => simp [Rows.uptoBulk]
  | slice elems spare => simp [Rows.uptoBulk]
  | agg parts => simp [Rows.uptoBulk]
  | iface t d => simp [Rows.uptoBulk]
  | map entries => simp [Rows.uptoBulk]
  | held h => simp [Rows.uptoBulk]
theorem bulk_sum {H α : Type} (m : α → Nat) (f : Nat → α) (D : Nat → DataW H) (l : List Nat) (h : ∀ i ∈ l, m (f i) ≤ Rows.uptoBulk (D i)) : ((l.map f).map m).sum ≤ Rows.uptoBulkAll (l.map D) := by
  induction l with
  | nil => simp
  | cons i l ih =>
    have h1 := h i (by simp)
    have h2 := ih (fun j hj => h j (List.mem_cons_of_mem _ hj))
    simp only [List.map_cons, List.sum_cons, Rows.uptoBulkAll]
    omega
/-- Opened, and measured. -/
theorem open_kdm {H : Type} {enc : TypeId × Value → H} {P : Program} {w : World} {base : Nat} {spare : Nat → Bool} {held : Bool} {α : Type} [Inhabited α] (d : Kd α) (m : α → Nat) {t e : TypeId} {fuel : Nat} {cs : List Value} {x : DataW H × List MemPlace}
    (ht : P.underlying t = some (.slice e)) (hs : P.cellsOf e = d.sz)
    (hel : ∀ n cs D Pl, DataW.trod enc P w base spare held n e cs = some (D, Pl) → ∃ x, d.K w x cs ∧ m x ≤ Rows.uptoBulk D)
    (h : DataW.trod enc P w base spare held fuel t cs = some x) : ∃ (A : Option Addr) (c : Nat) (xs : List α), cs = [.slice A xs.length c] ∧ xs.length ≤ c ∧ Kd.C d w A xs.length xs ∧ (xs.map m).sum ≤ Rows.uptoBulk x.1 := by
  rcases open_slice ht h with ⟨rfl, rfl⟩ | ⟨a, len0, cap0, mm, n, D, Pl, rfl, hb, hl, hm, hmm, rfl, hx⟩
  · exact ⟨none, 0, [], rfl, Nat.le_refl _, Kd.C_nil d w, Nat.zero_le _⟩
  · have hlm : len0 ≤ mm := by rw [hmm]; split <;> omega
    have hall : ∀ i, i < len0 → ∃ p : α, (∃ cs, w.cells? base (a.add (i * P.cellsOf e)) (P.cellsOf e) = some cs ∧ d.K w p cs) ∧ m p ≤ Rows.uptoBulk (D i) := by
      intro i hi
      obtain ⟨cs, h1, h2⟩ := hx i (by omega)
      obtain ⟨p, hp, hq⟩ := hel _ _ _ _ h2
      exact ⟨p, ⟨cs, h1, hp⟩, hq⟩
    obtain ⟨f, hf⟩ := choose_lt hall
    refine ⟨some a, cap0, (List.range len0).map f, by simp, by simpa using hl, ⟨by simp, by simp; unfold maxLen at hm; omega, fun _ => ⟨a, rfl, fun j p hp => ?_⟩⟩, ?_⟩
    · have hj : j < len0 := by
        have := (List.getElem?_eq_some_iff.1 hp).1
        simpa using this
      have hp' : f j = p := by
        have := (List.getElem?_eq_some_iff.1 hp).2
        simpa using this
      obtain ⟨cs, h1, h2⟩ := (hf j hj).1
      rw [hp'] at h2
      refine ⟨cs, d.K_len h2, h2, fun i u hu => ?_⟩
      obtain ⟨_, _, hcell⟩ := World.cells?_some h1
      have hi : i < P.cellsOf e := by
        have := (List.getElem?_eq_some_iff.1 hu).1
        have := d.K_len h2
        omega
      rw [← hs, ← Go.Deep.add_add, hcell i hi]
      exact hu
    · have := bulk_sum m f D (List.range len0) (fun i hi => (hf i (by simpa using hi)).2)
      simp only [Rows.uptoBulk]
      omega
set_option maxRecDepth 100000 in
theorem el31m {H : Type} {enc : TypeId × Value → H} {w : World} {base : Nat} {spare : Nat → Bool} {held : Bool} {n : Nat} {cs : List Value} {D : DataW H} {Pl : List MemPlace} (h : DataW.trod enc Tryd.prog w base spare held n 31 cs = some (D, Pl)) : ∃ x : S31, k31.K w x cs ∧ x.l.length ≤ Rows.uptoBulk D := by
  obtain ⟨y0, y1, y2, m, hl, hD, e0, e1, e2⟩ := ts3 Tryd.underlying31 h
  rw [cells31_of] at hl
  match cs, hl with
  | [c0, c1, c2], _ =>
    simp [cells3_of, cells29_of] at e0 e1 e2
    obtain ⟨a0, u0⟩ := oI Tryd.underlying3 e0
    obtain ⟨a1, u1⟩ := oI Tryd.underlying3 e1
    obtain ⟨A, c, xs, u2, hl1, hC1, hb⟩ := open_kdm k43 (fun _ => 1) Tryd.underlying29 cells43_of (fun n cs D Pl h => by obtain ⟨x, hx⟩ := el43 h; exact ⟨x, hx, bulk_one D⟩) e2
    simp at u0 u1 u2
    subst u0 u1 u2
    refine ⟨⟨a0, a1, xs⟩, k31_mk w ⟨a0, a1, xs⟩ hl1 hC1, ?_⟩
    have h3 : xs.length ≤ Rows.uptoBulk y2.1 := by
      have h4 : ∀ l : List S43, (l.map fun _ => 1).sum = l.length := by
        intro l
        induction l with
        | nil => rfl
        | cons a l ih => rw [List.map_cons, List.sum_cons, ih, List.length_cons]; omega
      have := h4 xs
      omega
    simp only at hD
    rw [hD]
    simp only [Rows.uptoBulk, Rows.uptoBulkAll]
    omega
set_option maxRecDepth 100000 in
/-- A reply, opened and measured. -/
theorem open27m {H : Type} {enc : TypeId × Value → H} {w : World} {base : Nat} {spare : Nat → Bool} {held : Bool} {n : Nat} {cs : List Value} {x : DataW H × List MemPlace} (h : DataW.trod enc Tryd.prog w base spare held n 27 cs = some x) :
    ∃ (X : S27) (R B S : Option Addr) (rc bc sc : Nat), cs = [.int .i64 X.e, .int .i64 X.n.1, .slice R X.r.length rc, .slice B X.b.length bc, .slice S X.s.length sc] ∧ RP X R B S w ∧ linksOf X.b ≤ Rows.uptoBulk x.1 := by
  obtain ⟨y0, y1, y2, y3, y4, m, hl, hD, e0, e1, e2, e3, e4⟩ := ts5 Tryd.underlying27 h
  rw [cells27_of] at hl
  match cs, hl with
  | [c0, c1, c2, c3, c4], _ =>
    simp [cells3_of, cells22_of, cells23_of, cells24_of, cells25_of] at e0 e1 e2 e3 e4
    obtain ⟨a0, u0⟩ := oI Tryd.underlying22 e0
    obtain ⟨a1, u1⟩ := oI Tryd.underlying3 e1
    obtain ⟨R, rc, rs, u2, hl2, hC2⟩ := open_kdc k41 Tryd.underlying23 cells41_of (fun n cs D Pl h => el41 h) e2
    obtain ⟨B, bc, bs, u3, hl3, hC3, hb⟩ := open_kdm k31 (fun y => y.l.length) Tryd.underlying24 cells31_of (fun n cs D Pl h => el31m h) e3
    obtain ⟨S, sc, ss, u4, hl4, hC4⟩ := open_kdc k85 Tryd.underlying25 cells85_of (fun n cs D Pl h => el85 h) e4
    simp at u0 u1 u2 u3 u4
    subst u0 u1 u2 u3 u4
    refine ⟨⟨a0.1, a1, rs, bs, ss⟩, R, B, S, rc, bc, sc, rfl, ⟨hC2, hC3, hC4⟩, ?_⟩
    show linksOf bs ≤ Rows.uptoBulk x.1
    rw [hD]
    simp only [Rows.uptoBulk, Rows.uptoBulkAll]
    unfold linksOf
    omega
theorem small_bulk {x : S27} (h1 : x.r.length ≤ 40) (h2 : x.b.length ≤ 40) (h3 : x.s.length ≤ 0) (h4 : linksOf x.b ≤ 1048576) : Small x := by
  have h6 := line_long x (by omega)
  exact ⟨by omega, by omega, by omega, fun y hy => Nat.le_trans (links_le hy) (by omega), by omega⟩
theorem apart_any (x y : S27) (R B S : Option Addr) (rc bc sc : Nat) (R2 B2 S2 : Option Addr) (rc2 bc2 sc2 : Nat) (w : World) (ht : Tab w) (hp : RP x R B S w) (hp2 : RP y R2 B2 S2 w) (hx : linksOf x.b ≤ 1048576) (hy : linksOf y.b ≤ 1048576) :
    Calls Tryd.prog 5 #[.agg #[.int .i64 x.e, .int .i64 x.n.1, .slice R x.r.length rc, .slice B x.b.length bc, .slice S x.s.length sc], .agg #[.int .i64 y.e, .int .i64 y.n.1, .slice R2 y.r.length rc2, .slice B2 y.b.length bc2, .slice S2 y.s.length sc2]] w fun r w' => r = .returned (.bool true) ∧ Below w.heap.size w w' := by
  by_cases g0 : 40 < x.r.length
  · exact guard0 _ _ R B S _ rc _ bc _ sc _ _ R2 B2 S2 _ rc2 _ bc2 _ sc2 w ht g0
  by_cases g1 : 40 < y.r.length
  · exact guard1 _ _ R B S _ rc _ bc _ sc _ _ R2 B2 S2 _ rc2 _ bc2 _ sc2 w ht g0 g1
  by_cases g2 : 40 < x.b.length
  · exact guard2 _ _ R B S _ rc _ bc _ sc _ _ R2 B2 S2 _ rc2 _ bc2 _ sc2 w ht g0 g1 g2
  by_cases g3 : 40 < y.b.length
  · exact guard3 _ _ R B S _ rc _ bc _ sc _ _ R2 B2 S2 _ rc2 _ bc2 _ sc2 w ht g0 g1 g2 g3
  by_cases g4 : 0 < x.s.length
  · exact guard4 _ _ R B S _ rc _ bc _ sc _ _ R2 B2 S2 _ rc2 _ bc2 _ sc2 w ht g0 g1 g2 g3 g4
  by_cases g5 : 0 < y.s.length
  · exact guard5 _ _ R B S _ rc _ bc _ sc _ _ R2 B2 S2 _ rc2 _ bc2 _ sc2 w ht g0 g1 g2 g3 g4 g5
  by_cases h0 : x.e < 0
  · exact err0 _ _ R B S _ rc _ bc _ sc _ _ R2 B2 S2 _ rc2 _ bc2 _ sc2 w ht g0 g1 g2 g3 g4 g5 h0
  by_cases h1 : 10 < x.e
  · exact err1 _ _ R B S _ rc _ bc _ sc _ _ R2 B2 S2 _ rc2 _ bc2 _ sc2 w ht g0 g1 g2 g3 g4 g5 h0 h1
  by_cases h2 : y.e < 0
  · exact err2 _ _ R B S _ rc _ bc _ sc _ _ R2 B2 S2 _ rc2 _ bc2 _ sc2 w ht g0 g1 g2 g3 g4 g5 h0 h1 h2
  by_cases h3 : 10 < y.e
  · exact err3 _ _ R B S _ rc _ bc _ sc _ _ R2 B2 S2 _ rc2 _ bc2 _ sc2 w ht g0 g1 g2 g3 g4 g5 h0 h1 h2 h3
  have sx := small_bulk (by omega) (by omega) (by omega) hx
  have sy := small_bulk (by omega) (by omega) (by omega) hy
  obtain ⟨e, ⟨n, hn⟩, rs, bs, ss⟩ := x
  obtain ⟨e2, ⟨n2, hn2⟩, rs2, bs2, ss2⟩ := y
  obtain rfl : ss = [] := List.length_eq_zero_iff.1 (by simpa using g4)
  obtain rfl : ss2 = [] := List.length_eq_zero_iff.1 (by simpa using g5)
  exact apart_main e n hn rs bs R B S rc bc sc e2 n2 hn2 rs2 bs2 R2 B2 S2 rc2 bc2 sc2 w ht hp hp2 sx sy g0 g1 g2 g3 h0 h1 h2 h3
end Go.Proofs.YthimnnnfgangbaaDoor.Qr
