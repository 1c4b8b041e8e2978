/- QueryApart, walked where it looks: for every input of bounded lines. -/
import Derived.Test.YthimnnnfgangbaaDoorQrU
import Derived.Test.YthimnnnfgangbaaDoorQrP
import Derived.Test.YthimnnnfgangbaaDoorWEqStruct
set_option linter.unusedVariables false
set_option linter.unusedSimpArgs false
namespace Go.Proofs.YthimnnnfgangbaaDoor.Qr
open Go.RowKit Go.Proofs.YthimnnnfgangbaaDoorW.PrintWords Go.Proofs.YthimnnnfgangbaaDoorW.PrintLast Go.Proofs.YthimnnnfgangbaaDoorW.PrintMore
def eqb41 (a b c a2 b2 c2 : Int) : Bool := a == a2 && (b == b2 && c == c2)
def eqb43 (a b a2 b2 : Int) : Bool := a == a2 && b == b2
theorem eqA41 (d : Nat) (w : World) (x0 y0 x1 y1 x2 y2 : Int) :
    (Op.equalIn (d + 2) 41 (.agg #[.int .i64 x0, .int .i64 x1, .int .u64 x2]) (.agg #[.int .i64 y0, .int .i64 y1, .int .u64 y2])).run Tryd.prog w = .ok (eqb41 x0 x1 x2 y0 y1 y2) w := by
  unfold eqb41
  refine eqA_of Tryd.underlying41 (by kernel_rfl) ?_
  refine eqf_cons (by rfl) (by go_simp; rfl) (by go_simp; rfl) (by go_simp) ?_
  refine eqf_cons (by rfl) (by go_simp; rfl) (by go_simp; rfl) (by go_simp) ?_
  exact eqf_last (by rfl) (by go_simp; rfl) (by go_simp; rfl) (by go_simp)
theorem eqA43 (d : Nat) (w : World) (x0 y0 x1 y1 : Int) :
    (Op.equalIn (d + 2) 43 (.agg #[.int .i64 x0, .int .i64 x1]) (.agg #[.int .i64 y0, .int .i64 y1])).run Tryd.prog w = .ok (eqb43 x0 x1 y0 y1) w := by
  unfold eqb43
  refine eqA_of Tryd.underlying43 (by kernel_rfl) ?_
  refine eqf_cons (by rfl) (by go_simp; rfl) (by go_simp; rfl) (by go_simp) ?_
  exact eqf_last (by rfl) (by go_simp; rfl) (by go_simp; rfl) (by go_simp)
attribute [local go_sem high] eqA41 eqA43
/-- Both boxes of the law's replies. -/
structure AS (w : World) (gx gy : Nat) (CX CY : Array Value) (W : World) : Prop where
  x : W.heap[gx]? = some (.cells CX 27 (0, 0))
  y : W.heap[gy]? = some (.cells CY 27 (0, 0))
  b : Below w.heap.size w W
theorem AS.below {w : World} {gx gy : Nat} {CX CY : Array Value} {W W' : World} (h : AS w gx gy CX CY W) (hb : Below W.heap.size W W') : AS w gx gy CX CY W' := ⟨blk_below h.x hb, blk_below h.y hb, below_step h.b hb⟩
theorem S41_ext {x y : S41} : x = y ↔ eqb41 x.a.1 x.b.1 x.c.1 y.a.1 y.b.1 y.c.1 = true := by
  obtain ⟨⟨a, _⟩, ⟨b, _⟩, ⟨c, _⟩⟩ := x
  obtain ⟨⟨a2, _⟩, ⟨b2, _⟩, ⟨c2, _⟩⟩ := y
  simp [eqb41]
  omega
theorem S43_ext {x y : S43} : x = y ↔ eqb43 x.a.1 x.b.1 y.a.1 y.b.1 = true := by
  obtain ⟨⟨a, _⟩, ⟨b, _⟩⟩ := x
  obtain ⟨⟨a2, _⟩, ⟨b2, _⟩⟩ := y
  simp [eqb43]
theorem take_step {α : Type} {xs ys : List α} {k : Nat} {x y : α} (hx : xs[k]? = some x) (hy : ys[k]? = some y) : xs.take (k + 1) = ys.take (k + 1) ↔ xs.take k = ys.take k ∧ x = y := by
  rw [List.take_add_one, List.take_add_one, hx, hy]
  constructor
  · intro h
    have hl : (xs.take k).length = (ys.take k).length := by
      have h1 := (List.getElem?_eq_some_iff.1 hx).1
      have h2 := (List.getElem?_eq_some_iff.1 hy).1
      simp
      omega
    have := List.append_inj h hl
    exact ⟨this.1, by simpa using this.2⟩
  · rintro ⟨h1, rfl⟩
    rw [h1]
theorem keep_ten {w1 W W' : World} {a0 a1 a2 a3 a4 b0 b1 b2 b3 b4 : Addr} {v0 v1 v2 v3 v4 u0 u1 u2 u3 u4 : Value} (h : ((W.cell? a0 = some v0 ∧ W.cell? a1 = some v1 ∧ W.cell? a2 = some v2 ∧ W.cell? a3 = some v3 ∧ W.cell? a4 = some v4) ∧ W.cell? b0 = some u0 ∧ W.cell? b1 = some u1 ∧ W.cell? b2 = some u2 ∧ W.cell? b3 = some u3 ∧ W.cell? b4 = some u4) ∧ Aside0 (Below w1.heap.size w1 W)) (hb : Below W.heap.size W W') : ((W'.cell? a0 = some v0 ∧ W'.cell? a1 = some v1 ∧ W'.cell? a2 = some v2 ∧ W'.cell? a3 = some v3 ∧ W'.cell? a4 = some v4) ∧ W'.cell? b0 = some u0 ∧ W'.cell? b1 = some u1 ∧ W'.cell? b2 = some u2 ∧ W'.cell? b3 = some u3 ∧ W'.cell? b4 = some u4) ∧ Aside0 (Below w1.heap.size w1 W') :=
  ⟨⟨⟨pw_cell_below hb h.1.1.1, pw_cell_below hb h.1.1.2.1, pw_cell_below hb h.1.1.2.2.1, pw_cell_below hb h.1.1.2.2.2.1, pw_cell_below hb h.1.1.2.2.2.2⟩, pw_cell_below hb h.1.2.1, pw_cell_below hb h.1.2.2.1, pw_cell_below hb h.1.2.2.2.1, pw_cell_below hb h.1.2.2.2.2.1, pw_cell_below hb h.1.2.2.2.2.2⟩, ⟨below_step h.2.out hb⟩⟩
theorem line_parts0 (e n : Int) (hn : i64 n) (rs : List S41) (bs : List S31) (R B S : Option Addr) (rc bc sc : Nat) (w : World) (ht : Tab w) (h : RP ⟨e, ⟨n, hn⟩, rs, bs, []⟩ R B S w) (hs : Small ⟨e, ⟨n, hn⟩, rs, bs, []⟩) :
    Calls Tryd.prog 11 #[.agg #[.int .i64 e, .int .i64 n, .slice R rs.length rc, .slice B bs.length bc, .slice S 0 sc]] w fun r w' => r = .returned (.string ⟨(lineL ⟨e, ⟨n, hn⟩, rs, bs, []⟩).toArray⟩) ∧ Below w.heap.size w w' :=
  line_parts e n hn rs bs [] R B S rc bc sc w ht h hs
/-- Are both routes alike, so far? -/
def P0 (e n : Int) (rs : List S41) (bs : List S31) (e2 n2 : Int) (rs2 : List S41) (bs2 : List S31) : Prop := e = e2 ∧ n = n2 ∧ rs.length = rs2.length ∧ bs.length = bs2.length
/-- A Bool that tells a proposition. -/
def Tells (s : Bool) (p : Prop) : Prop := s = true ↔ p
theorem Tells.yes {p : Prop} (h : p) : Tells true p := ⟨fun _ => h, fun _ => rfl⟩
theorem Tells.no {p : Prop} (h : ¬ p) : Tells false p := ⟨fun e => absurd e (by decide), fun k => (h k).elim⟩
theorem two_blocks (W : World) (a b : Obj) : ((W.alloc a).alloc b).drew.heap[W.heap.size]? = some a ∧ ((W.alloc a).alloc b).drew.heap[W.heap.size + 1]? = some b ∧ Below W.heap.size W ((W.alloc a).alloc b).drew :=
  ⟨blk_alloc (blk_new W a) b, by
    have h := blk_new (W.alloc a) b
    rw [show (W.alloc a).heap.size = W.heap.size + 1 by simp] at h
    exact h, below_drew (below_alloc (below_alloc (Below.refl _ _) _) _)⟩
theorem tells31 {xa xb ya yb : Int} {xl yl : List S43} (hxa : i64 xa) (hya : i64 ya) (hxb : i64 xb) (hyb : i64 yb) {s : Bool} (h : Tells s ((xa = ya ∧ xb = yb ∧ xl.length = yl.length) ∧ xl = yl)) : Tells s ((⟨⟨xa, hxa⟩, ⟨xb, hxb⟩, xl⟩ : S31) = ⟨⟨ya, hya⟩, ⟨yb, hyb⟩, yl⟩) := by
  constructor
  · intro e
    obtain ⟨⟨rfl, rfl, _⟩, rfl⟩ := h.1 e
    rfl
  · intro e
    injection e with h1 h2 h3
    injection h1 with h1
    injection h2 with h2
    exact h.2 ⟨⟨h1, h2, by rw [h3]⟩, h3⟩
theorem cell_lt {w : World} {a : Addr} {v : Value} (h : w.cell? a = some v) : a.block < w.heap.size := by
  rcases Nat.lt_or_ge a.block w.heap.size with h1 | h1
  · exact h1
  · have h2 : w.heap[a.block]? = none := Array.getElem?_eq_none h1
    simp [World.cell?, h2] at h
set_option maxHeartbeats 6400000 in
set_option maxRecDepth 100000 in
theorem apart_main (e n : Int) (hn : i64 n) (rs : List S41) (bs : List S31) (R B S : Option Addr) (rc bc sc : Nat) (e2 n2 : Int) (hn2 : i64 n2) (rs2 : List S41) (bs2 : List S31) (R2 B2 S2 : Option Addr) (rc2 bc2 sc2 : Nat) (w : World) (ht : Tab w)
    (hp : RP ⟨e, ⟨n, hn⟩, rs, bs, []⟩ R B S w) (hp2 : RP ⟨e2, ⟨n2, hn2⟩, rs2, bs2, []⟩ R2 B2 S2 w) (hs : Small ⟨e, ⟨n, hn⟩, rs, bs, []⟩) (hs2 : Small ⟨e2, ⟨n2, hn2⟩, rs2, bs2, []⟩)
    (g0 : ¬ 40 < rs.length) (g1 : ¬ 40 < rs2.length) (g2 : ¬ 40 < bs.length) (g3 : ¬ 40 < bs2.length) (h0 : ¬ e < 0) (h1 : ¬ 10 < e) (h2 : ¬ e2 < 0) (h3 : ¬ 10 < e2) :
    Calls Tryd.prog 5 #[.agg #[.int .i64 e, .int .i64 n, .slice R rs.length rc, .slice B bs.length bc, .slice S 0 sc], .agg #[.int .i64 e2, .int .i64 n2, .slice R2 rs2.length rc2, .slice B2 bs2.length bc2, .slice S2 0 sc2]] w fun r w' => r = .returned (.bool true) ∧ Below w.heap.size w w' := by
  have HT := Aside0.mk ht
  have HP := Aside0.mk hp
  have HP2 := Aside0.mk hp2
  have HS := Aside0.mk hs
  have HS2 := Aside0.mk hs2
  have HAP : Aside0 (lineL ⟨e, ⟨n, hn⟩, rs, bs, []⟩ = lineL ⟨e2, ⟨n2, hn2⟩, rs2, bs2, []⟩ → (⟨e, ⟨n, hn⟩, rs, bs, []⟩ : S27) = ⟨e2, ⟨n2, hn2⟩, rs2, bs2, []⟩) := ⟨fun h => line_apart rfl rfl (by show 0 ≤ e; omega) (by show e ≤ 10; omega) (by show 0 ≤ e2; omega) (by show e2 ≤ 10; omega) h⟩
  clear ht hp hp2 hs hs2
  have f0 : ¬ ((40 : Int) < (rs.length : Int)) := by omega
  have f1 : ¬ ((40 : Int) < (rs2.length : Int)) := by omega
  have f2 : ¬ ((40 : Int) < (bs.length : Int)) := by omega
  have f3 : ¬ ((40 : Int) < (bs2.length : Int)) := by omega
  have G := Aside0.mk (And.intro g0 (And.intro g1 (And.intro g2 g3)))
  clear g0 g1 g2 g3
  go_enter Tryd.func5, Tryd.ntmps5
  go_upto_region 5 with (fail)
  obtain ⟨gx, hgx⟩ : ∃ gx, w.heap.size = gx := ⟨_, rfl⟩
  obtain ⟨gy, hgy⟩ : ∃ gy, w.heap.size + 1 = gy := ⟨_, rfl⟩
  rw [hgy, hgx]
  obtain ⟨CX, hCX⟩ : ∃ X : Array Value, #[Value.int .i64 e, .int .i64 n, .slice R rs.length rc, .slice B bs.length bc, .slice S 0 sc] = X := ⟨_, rfl⟩
  obtain ⟨CY, hCY⟩ : ∃ X : Array Value, #[Value.int .i64 e2, .int .i64 n2, .slice R2 rs2.length rc2, .slice B2 bs2.length bc2, .slice S2 0 sc2] = X := ⟨_, rfl⟩
  have HCX := Aside0.mk hCX
  have HCY := Aside0.mk hCY
  refine wp_world (fun W => Aside0 (AS w gx gy CX CY W)) ⟨⟨by subst hgx; subst hCX; exact blk_alloc (blk_new w _) _, by
    have h := blk_new (w.alloc (.cells #[.int .i64 e, .int .i64 n, .slice R rs.length rc, .slice B bs.length bc, .slice S 0 sc] 27)) (.cells CY 27)
    rw [show (w.alloc (.cells #[.int .i64 e, .int .i64 n, .slice R rs.length rc, .slice B bs.length bc, .slice S 0 sc] 27)).heap.size = gy by simp; omega] at h
    subst hCY
    exact h, below_alloc (below_alloc (Below.refl _ _) _) _⟩⟩ ?_
  clear hgx hgy hCX hCY f0 f1 f2 f3 h0 h1 h2 h3
  rintro w1 HA
  have x0 := blk_cell HA.out.x 0
  have x1 := blk_cell HA.out.x 1
  have x2 := blk_cell HA.out.x 2
  have x3 := blk_cell HA.out.x 3
  have y0 := blk_cell HA.out.y 0
  have y1 := blk_cell HA.out.y 1
  have y2 := blk_cell HA.out.y 2
  have y3 := blk_cell HA.out.y 3
  rw [← HCX.out] at x0 x1 x2 x3
  rw [← HCY.out] at y0 y1 y2 y3
  simp at x0 x1 x2 x3 y0 y1 y2 y3
  go_cut [5] (fun v5 wx => ∃ s : Bool, v5 = .bool s ∧ Aside0 (Tells s (P0 e n rs bs e2 n2 rs2 bs2)) ∧ Aside0 (AS w gx gy CX CY wx))
  case first =>
    by_cases a1 : e = e2
    · have b1 : (e == e2) = true := by simpa using a1
      by_cases a2 : n = n2
      · have b2 : (n == n2) = true := by simpa using a2
        by_cases a3 : rs.length = rs2.length
        · have b3 : ((rs.length : Int) == (rs2.length : Int)) = true := by simp; omega
          by_cases a4 : bs.length = bs2.length
          · have b4 : ((bs.length : Int) == (bs2.length : Int)) = true := by simp; omega
            have HQ : Aside0 (Tells true (P0 e n rs bs e2 n2 rs2 bs2)) := ⟨.yes ⟨a1, a2, a3, a4⟩⟩
            clear a1 a2 a3 a4
            go_wp2_with fail
            go_meet
            exact ⟨true, rfl, HQ, HA⟩
          · have b4 : ((bs.length : Int) == (bs2.length : Int)) = false := by simp; omega
            have HQ : Aside0 (Tells false (P0 e n rs bs e2 n2 rs2 bs2)) := ⟨.no fun h => a4 h.2.2.2⟩
            clear a1 a2 a3 a4
            go_wp2_with fail
            go_meet
            exact ⟨false, rfl, HQ, HA⟩
        · have b3 : ((rs.length : Int) == (rs2.length : Int)) = false := by simp; omega
          have HQ : Aside0 (Tells false (P0 e n rs bs e2 n2 rs2 bs2)) := ⟨.no fun h => a3 h.2.2.1⟩
          clear a1 a2 a3
          go_wp2_with fail
          go_meet
          exact ⟨false, rfl, HQ, HA⟩
      · have b2 : (n == n2) = false := by simpa using a2
        have HQ : Aside0 (Tells false (P0 e n rs bs e2 n2 rs2 bs2)) := ⟨.no fun h => a2 h.2.1⟩
        clear a1 a2
        go_wp2_with fail
        go_meet
        exact ⟨false, rfl, HQ, HA⟩
    · have b1 : (e == e2) = false := by simpa using a1
      have HQ : Aside0 (Tells false (P0 e n rs bs e2 n2 rs2 bs2)) := ⟨.no fun h => a1 h.1⟩
      clear a1
      go_wp2_with fail
      go_meet
      exact ⟨false, rfl, HQ, HA⟩
  case rest =>
    obtain ⟨s, rfl, HQ, HA1⟩ := hcut
    clear HA x0 x1 x2 x3 y0 y1 y2 y3
    have x2 := blk_cell HA1.out.x 2
    have y2 := blk_cell HA1.out.y 2
    rw [← HCX.out] at x2
    rw [← HCY.out] at y2
    simp at x2 y2
    go_upto_block 0 with (fail)
    go_cut [5] (fun v5 wx => ∃ s : Bool, v5 = .bool s ∧ Aside0 (Tells s (P0 e n rs bs e2 n2 rs2 bs2 ∧ rs = rs2)) ∧ Aside0 (AS w gx gy CX CY wx))
    case first =>
      go_wp2_with fail
      go_loopw [5, 6] (fun v5 v6 W => ∃ (s : Bool) (k : Nat), k ≤ rs.length ∧ v5 = .bool s ∧ v6 = .int .i64 k ∧ Aside0 (Tells s (P0 e n rs bs e2 n2 rs2 bs2 ∧ rs.take k = rs2.take k)) ∧ Aside0 (AS w gx gy CX CY W)) (fun _ v6 _ => rs.length - (intOf v6).toNat)
      case atStart => exact ⟨s, 0, Nat.zero_le _, rfl, rfl, ⟨by have := HQ.out; simpa [Tells] using this⟩, HA1⟩
      case round =>
        clear HQ x2 y2 HA1
        obtain ⟨s, k, hk, rfl, rfl, HQ, HA⟩ := hrel
        have x2 := blk_cell HA.out.x 2
        have y2 := blk_cell HA.out.y 2
        rw [← HCX.out] at x2
        rw [← HCY.out] at y2
        simp at x2 y2
        by_cases hlt : k < rs.length
        · cases s
          · have HF : Aside0 (Tells false (P0 e n rs bs e2 n2 rs2 bs2 ∧ rs = rs2)) := ⟨.no fun h => by
              have := HQ.out.2 ⟨h.1, by rw [h.2]⟩
              cases this⟩
            clear HQ
            go_wp2_with fail
            go_meet
            exact ⟨false, rfl, HF, HA⟩
          · have hlt2 : k < rs2.length := by have := (HQ.out.1 rfl).1.2.2.1; omega
            obtain ⟨ad, ⟨⟨xa, hxa⟩, ⟨xb, hxb⟩, ⟨xc, hxc⟩⟩, rfl, hx, b0, b1, b2⟩ := at41 HP.out.r hlt
            obtain ⟨ad2, ⟨⟨ya, hya⟩, ⟨yb, hyb⟩, ⟨yc, hyc⟩⟩, rfl, hy, c0, c1, c2⟩ := at41 HP2.out.r hlt2
            simp only at b0 b1 b2 c0 c1 c2
            have p0 := pw_cell_below HA.out.b b0
            have p1 := pw_cell_below HA.out.b b1
            have p2 := pw_cell_below HA.out.b b2
            have q0 := pw_cell_below HA.out.b c0
            have q1 := pw_cell_below HA.out.b c1
            have q2 := pw_cell_below HA.out.b c2
            have HSTEP : Aside0 (Tells (eqb41 xa xb xc ya yb yc) (P0 e n rs bs e2 n2 rs2 bs2 ∧ rs.take (k + 1) = rs2.take (k + 1))) := ⟨by
              have h1 := S41_ext (x := ⟨⟨xa, hxa⟩, ⟨xb, hxb⟩, ⟨xc, hxc⟩⟩) (y := ⟨⟨ya, hya⟩, ⟨yb, hyb⟩, ⟨yc, hyc⟩⟩)
              have h2 := take_step hx hy
              have h3 := HQ.out.1 rfl
              exact ⟨fun h => ⟨h3.1, h2.2 ⟨h3.2, h1.2 h⟩⟩, fun h => h1.1 (h2.1 h.2).2⟩⟩
            have HLT := Aside0.mk hlt
            have hk5 : (k : Int) ≤ 1000 := by have := G.out.1; omega
            clear b0 b1 b2 c0 c1 c2 hx hy HQ hxa hxb hxc hya hyb hyc
            go_wp2_with fail
            go_quiet (fail)
            go_wp2
            go_roundw
            case rel => exact ⟨_, k + 1, HLT.out, rfl, by go_num, HSTEP, ⟨HA.out.below (pw_below_drewN (Below.refl _ _) _)⟩⟩
            case measure => have := HLT.out; simp [intOf]; omega
        · have HF : Aside0 (Tells s (P0 e n rs bs e2 n2 rs2 bs2 ∧ rs = rs2)) := ⟨⟨fun h => ⟨(HQ.out.1 h).1, by
              obtain ⟨h1, h2⟩ := HQ.out.1 h
              rw [List.take_of_length_le (by omega), List.take_of_length_le (by have := h1.2.2.1; omega)] at h2
              exact h2⟩, fun h => HQ.out.2 ⟨h.1, by rw [h.2]⟩⟩⟩
          have g0 : ¬ ((k : Int) < (rs.length : Int)) := by omega
          clear HQ
          go_wp2_with fail
          go_meet
          exact ⟨s, rfl, HF, HA⟩
    case rest =>
      clear x2 y2 HQ HA1
      obtain ⟨s, rfl, HQ, HA⟩ := hcut
      have x3 := blk_cell HA.out.x 3
      have y3 := blk_cell HA.out.y 3
      rw [← HCX.out] at x3
      rw [← HCY.out] at y3
      simp at x3 y3
      go_upto_block 2 with (fail)
      go_cut [5] (fun v5 wx => ∃ s : Bool, v5 = .bool s ∧ Aside0 (Tells s ((P0 e n rs bs e2 n2 rs2 bs2 ∧ rs = rs2) ∧ bs = bs2)) ∧ Aside0 (AS w gx gy CX CY wx))
      case first =>
        go_wp2_with fail
        go_loopw [5, 7] (fun v5 v7 W => ∃ (s : Bool) (k : Nat), k ≤ bs.length ∧ v5 = .bool s ∧ v7 = .int .i64 k ∧ Aside0 (Tells s ((P0 e n rs bs e2 n2 rs2 bs2 ∧ rs = rs2) ∧ bs.take k = bs2.take k)) ∧ Aside0 (AS w gx gy CX CY W)) (fun _ v7 _ => bs.length - (intOf v7).toNat)
        case atStart => exact ⟨s, 0, Nat.zero_le _, rfl, rfl, ⟨by have := HQ.out; simpa [Tells] using this⟩, HA⟩
        case round =>
          clear HQ x3 y3 HA
          obtain ⟨s, k, hk, rfl, rfl, HQ, HA⟩ := hrel
          have x3 := blk_cell HA.out.x 3
          have y3 := blk_cell HA.out.y 3
          rw [← HCX.out] at x3
          rw [← HCY.out] at y3
          simp at x3 y3
          by_cases hlt : k < bs.length
          · cases s
            · have HF : Aside0 (Tells false ((P0 e n rs bs e2 n2 rs2 bs2 ∧ rs = rs2) ∧ bs = bs2)) := ⟨.no fun h => by
                have := HQ.out.2 ⟨h.1, by rw [h.2]⟩
                cases this⟩
              clear HQ
              go_wp2_with fail
              go_meet
              exact ⟨false, rfl, HF, HA⟩
            · have hlt2 : k < bs2.length := by have := (HQ.out.1 rfl).1.1.2.2.2; omega
              obtain ⟨ad, ⟨⟨xa, hxa⟩, ⟨xb, hxb⟩, xl⟩, A2, ac, rfl, hx, b0, b1, b2, hl2, hC2⟩ := at31 HP.out.b hlt
              obtain ⟨ad2, ⟨⟨ya, hya⟩, ⟨yb, hyb⟩, yl⟩, D2, dc, rfl, hy, c0, c1, c2, hl3, hC3⟩ := at31 HP2.out.b hlt2
              simp only at b0 b1 b2 c0 c1 c2 hl2 hC2 hl3 hC3
              have p0 := pw_cell_below HA.out.b b0
              have p1 := pw_cell_below HA.out.b b1
              have p2 := pw_cell_below HA.out.b b2
              have q0 := pw_cell_below HA.out.b c0
              have q1 := pw_cell_below HA.out.b c1
              have q2 := pw_cell_below HA.out.b c2
              have HSTEP : Aside0 (∀ s : Bool, Tells s ((⟨⟨xa, hxa⟩, ⟨xb, hxb⟩, xl⟩ : S31) = ⟨⟨ya, hya⟩, ⟨yb, hyb⟩, yl⟩) → Tells s ((P0 e n rs bs e2 n2 rs2 bs2 ∧ rs = rs2) ∧ bs.take (k + 1) = bs2.take (k + 1))) := ⟨by
                intro s h1
                have h2 := take_step hx hy
                have h3 := HQ.out.1 rfl
                exact ⟨fun h => ⟨h3.1, h2.2 ⟨h3.2, h1.1 h⟩⟩, fun h => h1.2 (h2.1 h.2).2⟩⟩
              have HLT := Aside0.mk hlt
              have hk5 : (k : Int) ≤ 1000 := by have := G.out.2.2.1; omega
              have HC2 := Aside0.mk hC2
              have HC3 := Aside0.mk hC3
              have l0 := cell_lt p0
              have l1 := cell_lt q0
              have l2 := blk_lt HA.out.x
              have l3 := blk_lt HA.out.y
              have HNS := Aside0.mk (show bs2.length = bs.length by have := (HQ.out.1 rfl).1.1.2.2.2; omega)
              clear b0 b1 b2 c0 c1 c2 hx hy HQ hC2 hC3 hl2 hl3
              go_upto_region 13 with (fail)
              go_cut [8, 9] (fun v8 v9 wx => ∃ g8 g9, v8 = .pointer (some ⟨g8, 0, none⟩) ∧ v9 = .pointer (some ⟨g9, 0, none⟩) ∧ Aside0 (wx.heap[g8]? = some (.cells #[.int .i64 xa, .int .i64 xb, .slice A2 xl.length ac] 31 (0, 0))) ∧ Aside0 (wx.heap[g9]? = some (.cells #[.int .i64 ya, .int .i64 yb, .slice D2 yl.length dc] 31 (0, 0))) ∧ Aside0 (AS w gx gy CX CY wx))
              case first =>
                go_region
                · go_wp2_with fail
                  go_meet
                  have h := two_blocks wr (.cells #[.int .i64 xa, .int .i64 xb, .slice A2 xl.length ac] 31) (.cells #[.int .i64 ya, .int .i64 yb, .slice D2 yl.length dc] 31)
                  exact ⟨_, _, rfl, rfl, ⟨h.1⟩, ⟨h.2.1⟩, ⟨HA.out.below h.2.2⟩⟩
                · go_wp2_with fail
                  go_meet
                  have h := two_blocks wr (.cells #[.int .i64 ya, .int .i64 yb, .slice D2 yl.length dc] 31) (.cells #[.int .i64 xa, .int .i64 xb, .slice A2 xl.length ac] 31)
                  exact ⟨_, _, rfl, rfl, ⟨h.2.1⟩, ⟨h.1⟩, ⟨HA.out.below h.2.2⟩⟩
              case rest =>
                obtain ⟨g8, g9, rfl, rfl, HB8, HB9, HA2⟩ := hcut
                generalize wc = wq at *
                clear p0 p1 p2 q0 q1 q2 l0 l1 l2 l3 x3 y3 HA
                have z0 := blk_cell HB8.out 0
                have z1 := blk_cell HB8.out 1
                have z2 := blk_cell HB8.out 2
                have t0 := blk_cell HB9.out 0
                have t1 := blk_cell HB9.out 1
                have t2 := blk_cell HB9.out 2
                simp at z0 z1 z2 t0 t1 t2
                by_cases l4 : 40 < xl.length
                · have m4 : ((40 : Int) < (xl.length : Int)) := by omega
                  go_wp2_with fail
                  refine (awake_calls _ (tab_below HT.out HA2.out.b)).mono ?_
                  rintro r w2 ⟨rfl, hb⟩
                  have HB2 := Aside0.mk (below_step HA2.out.b hb)
                  clear hb
                  go_wp2
                  go_ret
                  exact ⟨rfl, HB2.out⟩
                · have m4 : ¬ ((40 : Int) < (xl.length : Int)) := by omega
                  by_cases l5 : 40 < yl.length
                  · have m5 : ((40 : Int) < (yl.length : Int)) := by omega
                    go_wp2_with fail
                    refine (awake_calls _ (tab_below HT.out HA2.out.b)).mono ?_
                    rintro r w2 ⟨rfl, hb⟩
                    have HB2 := Aside0.mk (below_step HA2.out.b hb)
                    clear hb
                    go_wp2
                    go_ret
                    exact ⟨rfl, HB2.out⟩
                  · have m5 : ¬ ((40 : Int) < (yl.length : Int)) := by omega
                    have HL4 := Aside0.mk l4
                    clear l4 l5
                    go_upto_region 16 with (fail)
                    clear m4 m5
                    go_cut [5] (fun v5 wx => ∃ s : Bool, v5 = .bool s ∧ Aside0 (Tells s (xa = ya ∧ xb = yb ∧ xl.length = yl.length)) ∧ Aside0 (wx = wq))
                    case first =>
                      by_cases a1 : xa = ya
                      · have b1 : (xa == ya) = true := by simpa using a1
                        by_cases a2 : xb = yb
                        · have b2 : (xb == yb) = true := by simpa using a2
                          by_cases a3 : xl.length = yl.length
                          · have b3 : ((xl.length : Int) == (yl.length : Int)) = true := by simp; omega
                            have HQ : Aside0 (Tells true (xa = ya ∧ xb = yb ∧ xl.length = yl.length)) := ⟨.yes ⟨a1, a2, a3⟩⟩
                            clear a1 a2 a3
                            go_wp2_with fail
                            go_meet
                            exact ⟨true, rfl, HQ, ⟨rfl⟩⟩
                          · have b3 : ((xl.length : Int) == (yl.length : Int)) = false := by simp; omega
                            have HQ : Aside0 (Tells false (xa = ya ∧ xb = yb ∧ xl.length = yl.length)) := ⟨.no fun h => a3 h.2.2⟩
                            clear a1 a2 a3
                            go_wp2_with fail
                            go_meet
                            exact ⟨false, rfl, HQ, ⟨rfl⟩⟩
                        · have b2 : (xb == yb) = false := by simpa using a2
                          have HQ : Aside0 (Tells false (xa = ya ∧ xb = yb ∧ xl.length = yl.length)) := ⟨.no fun h => a2 h.2.1⟩
                          clear a1 a2
                          go_wp2_with fail
                          go_meet
                          exact ⟨false, rfl, HQ, ⟨rfl⟩⟩
                      · have b1 : (xa == ya) = false := by simpa using a1
                        have HQ : Aside0 (Tells false (xa = ya ∧ xb = yb ∧ xl.length = yl.length)) := ⟨.no fun h => a1 h.1⟩
                        clear a1
                        go_wp2_with fail
                        go_meet
                        exact ⟨false, rfl, HQ, ⟨rfl⟩⟩
                    case rest =>
                      obtain ⟨s, rfl, HQ, HWE⟩ := hcut
                      obtain rfl := HWE.out
                      clear HWE
                      go_wp2_with fail
                      go_loopw [5, 10] (fun v5 v10 W => ∃ (s : Bool) (m : Nat), m ≤ xl.length ∧ v5 = .bool s ∧ v10 = .int .i64 m ∧ Aside0 (Tells s ((xa = ya ∧ xb = yb ∧ xl.length = yl.length) ∧ xl.take m = yl.take m)) ∧ Aside0 (W.heap[g8]? = some (.cells #[.int .i64 xa, .int .i64 xb, .slice A2 xl.length ac] 31 (0, 0))) ∧ Aside0 (W.heap[g9]? = some (.cells #[.int .i64 ya, .int .i64 yb, .slice D2 yl.length dc] 31 (0, 0))) ∧ Aside0 (AS w gx gy CX CY W)) (fun _ v10 _ => xl.length - (intOf v10).toNat)
                      case atStart => exact ⟨s, 0, Nat.zero_le _, rfl, rfl, ⟨by have := HQ.out; simpa [Tells] using this⟩, HB8, HB9, HA2⟩
                      case round =>
                        clear HQ z0 z1 z2 t0 t1 t2 HA2 HB8 HB9
                        obtain ⟨s, m, hm, rfl, rfl, HQ, HB8, HB9, HA⟩ := hrel
                        have z2 := blk_cell HB8.out 2
                        have t2 := blk_cell HB9.out 2
                        simp at z2 t2
                        by_cases hml : m < xl.length
                        · cases s
                          · have HF : Aside0 (Tells false ((xa = ya ∧ xb = yb ∧ xl.length = yl.length) ∧ xl = yl)) := ⟨.no fun h => by
                              have := HQ.out.2 ⟨h.1, by rw [h.2]⟩
                              cases this⟩
                            clear HQ
                            have HQ2 := Aside0.mk (HSTEP.out _ (tells31 hxa hya hxb hyb HF.out))
                            clear HF HSTEP
                            go_wp2
                            go_roundw
                            case rel => exact ⟨_, k + 1, HLT.out, rfl, by go_num, HQ2, HA⟩
                            case measure => have := HLT.out; simp [intOf]; omega
                          · have hml2 : m < yl.length := by have := (HQ.out.1 rfl).1.2.2; omega
                            obtain ⟨ad, ⟨⟨ua, hua⟩, ⟨ub, hub⟩⟩, rfl, hx, b0, b1⟩ := at43 HC2.out hml
                            obtain ⟨ad2, ⟨⟨va, hva⟩, ⟨vb, hvb⟩⟩, rfl, hy, c0, c1⟩ := at43 HC3.out hml2
                            simp only at b0 b1 c0 c1
                            have p0 := pw_cell_below HA.out.b b0
                            have p1 := pw_cell_below HA.out.b b1
                            have q0 := pw_cell_below HA.out.b c0
                            have q1 := pw_cell_below HA.out.b c1
                            have HSTEP2 : Aside0 (Tells (eqb43 ua ub va vb) ((xa = ya ∧ xb = yb ∧ xl.length = yl.length) ∧ xl.take (m + 1) = yl.take (m + 1))) := ⟨by
                              have h1 := S43_ext (x := ⟨⟨ua, hua⟩, ⟨ub, hub⟩⟩) (y := ⟨⟨va, hva⟩, ⟨vb, hvb⟩⟩)
                              have h2 := take_step hx hy
                              have h3 := HQ.out.1 rfl
                              exact ⟨fun h => ⟨h3.1, h2.2 ⟨h3.2, h1.2 h⟩⟩, fun h => h1.1 (h2.1 h.2).2⟩⟩
                            have HML := Aside0.mk hml
                            have hm5 : (m : Int) ≤ 1000 := by have := HL4.out; omega
                            clear b0 b1 c0 c1 hx hy HQ hua hub hva hvb
                            go_wp2_with fail
                            go_quiet (fail)
                            go_wp2
                            go_roundw
                            case rel => exact ⟨_, m + 1, HML.out, rfl, by go_num, HSTEP2, ⟨blk_below HB8.out (pw_below_drewN (Below.refl _ _) _)⟩, ⟨blk_below HB9.out (pw_below_drewN (Below.refl _ _) _)⟩, ⟨HA.out.below (pw_below_drewN (Below.refl _ _) _)⟩⟩
                            case measure => have := HML.out; simp [intOf]; omega
                        · have HF : Aside0 (Tells s ((xa = ya ∧ xb = yb ∧ xl.length = yl.length) ∧ xl = yl)) := ⟨⟨fun h => ⟨(HQ.out.1 h).1, by
                              obtain ⟨h1, h2⟩ := HQ.out.1 h
                              rw [List.take_of_length_le (by omega), List.take_of_length_le (by have := h1.2.2; omega)] at h2
                              exact h2⟩, fun h => HQ.out.2 ⟨h.1, by rw [h.2]⟩⟩⟩
                          have g0 : ¬ ((m : Int) < (xl.length : Int)) := by omega
                          clear HQ
                          have HQ2 := Aside0.mk (HSTEP.out _ (tells31 hxa hya hxb hyb HF.out))
                          clear HF HSTEP
                          go_wp2
                          go_roundw
                          case rel => exact ⟨_, k + 1, HLT.out, rfl, by go_num, HQ2, HA⟩
                          case measure => have := HLT.out; simp [intOf]; omega
          · have HF : Aside0 (Tells s ((P0 e n rs bs e2 n2 rs2 bs2 ∧ rs = rs2) ∧ bs = bs2)) := ⟨⟨fun h => ⟨(HQ.out.1 h).1, by
                obtain ⟨h1, h2⟩ := HQ.out.1 h
                rw [List.take_of_length_le (by omega), List.take_of_length_le (by have := h1.1.2.2.2; omega)] at h2
                exact h2⟩, fun h => HQ.out.2 ⟨h.1, by rw [h.2]⟩⟩⟩
            have g0 : ¬ ((k : Int) < (bs.length : Int)) := by omega
            clear HQ
            go_wp2_with fail
            go_meet
            exact ⟨s, rfl, HF, HA⟩
      case rest =>
        clear x3 y3 HQ HA
        obtain ⟨s, rfl, HQ, HA⟩ := hcut
        have x0 := blk_cell HA.out.x 0
        have x1 := blk_cell HA.out.x 1
        have x2 := blk_cell HA.out.x 2
        have x3 := blk_cell HA.out.x 3
        have x4 := blk_cell HA.out.x 4
        have y0 := blk_cell HA.out.y 0
        have y1 := blk_cell HA.out.y 1
        have y2 := blk_cell HA.out.y 2
        have y3 := blk_cell HA.out.y 3
        have y4 := blk_cell HA.out.y 4
        rw [← HCX.out] at x0 x1 x2 x3 x4
        rw [← HCY.out] at y0 y1 y2 y3 y4
        simp at x0 x1 x2 x3 x4 y0 y1 y2 y3 y4
        have HT1 := Aside0.mk (tab_below HT.out HA.out.b)
        have HP1 := Aside0.mk (HP.out.below HA.out.b)
        have HP21 := Aside0.mk (HP2.out.below HA.out.b)
        obtain ⟨L, hL⟩ : ∃ L, lineL ⟨e, ⟨n, hn⟩, rs, bs, []⟩ = L := ⟨_, rfl⟩
        obtain ⟨L2, hL2⟩ : ∃ L, lineL ⟨e2, ⟨n2, hn2⟩, rs2, bs2, []⟩ = L := ⟨_, rfl⟩
        have HL := Aside0.mk hL
        have HL2 := Aside0.mk hL2
        clear hL hL2
        cases s
        · have hne : (⟨L.toArray⟩ : ByteArray) ≠ ⟨L2.toArray⟩ := by
            intro h
            have h2 : L = L2 := by
              have := congrArg (fun b : ByteArray => b.data.toList) h
              simpa using this
            have h3 := HAP.out (by rw [HL.out, HL2.out, h2])
            injection h3 with h4 h5 h6 h7 h8
            injection h5 with h5
            subst h4 h5 h6 h7
            have := HQ.out.2 ⟨⟨⟨rfl, rfl, rfl, rfl⟩, rfl⟩, rfl⟩
            cases this
          have hne2 : ((⟨L.toArray⟩ : ByteArray) == ⟨L2.toArray⟩) = false := by
            rw [beq_toListBytes]
            simp only [ByteArray.toList_eq]
            simp only [beq_eq_false_iff_ne, ne_eq]
            intro h
            exact hne (by rw [show L = L2 by simpa using h])
          have hne3 : (L == L2) = false := by
            simp only [beq_eq_false_iff_ne, ne_eq]
            intro h
            exact hne (by rw [h])
          have hne4 : ¬ L = L2 := fun h => hne (by rw [h])
          clear hne HQ
          go_wp2_with fail
          go_region_held3 (fun W => ((W.cell? ⟨gx, 0, none⟩ = some (.int .i64 e) ∧ W.cell? ⟨gx, 1, none⟩ = some (.int .i64 n) ∧ W.cell? ⟨gx, 2, none⟩ = some (.slice R rs.length rc) ∧ W.cell? ⟨gx, 3, none⟩ = some (.slice B bs.length bc) ∧ W.cell? ⟨gx, 4, none⟩ = some (.slice S 0 sc)) ∧ W.cell? ⟨gy, 0, none⟩ = some (.int .i64 e2) ∧ W.cell? ⟨gy, 1, none⟩ = some (.int .i64 n2) ∧ W.cell? ⟨gy, 2, none⟩ = some (.slice R2 rs2.length rc2) ∧ W.cell? ⟨gy, 3, none⟩ = some (.slice B2 bs2.length bc2) ∧ W.cell? ⟨gy, 4, none⟩ = some (.slice S2 0 sc2)) ∧ Aside0 (Below wc.heap.size wc W))
            ((first | (with_reducible assumption) | exact ⟨⟨⟨x0, x1, x2, x3, x4⟩, y0, y1, y2, y3, y4⟩, ⟨below_drew (Below.refl _ _)⟩⟩ | exact ⟨⟨⟨x0, x1, x2, x3, x4⟩, y0, y1, y2, y3, y4⟩, ⟨Below.refl _ _⟩⟩))
            (first
              | (go_at_call 11; (with_reducible refine (line_parts0 e n hn rs bs R B S rc bc sc _ (tab_and HT1.out (by with_reducible assumption)) (rp_and HP1.out (by with_reducible assumption)) HS.out).mono ?_); rintro r w' ⟨rfl, hb⟩; rw [HL.out]; have hS' := keep_ten (by with_reducible assumption) hb)
              | (go_at_call 11; (with_reducible refine (line_parts0 e2 n2 hn2 rs2 bs2 R2 B2 S2 rc2 bc2 sc2 _ (tab_and HT1.out (by with_reducible assumption)) (rp_and HP21.out (by with_reducible assumption)) HS2.out).mono ?_); rintro r w' ⟨rfl, hb⟩; rw [HL2.out]; have hS' := keep_ten (by with_reducible assumption) hb)
              | (go_at_call 10; (with_reducible refine (awake_calls _ (tab_and HT1.out (by with_reducible assumption))).mono ?_); rintro r w' ⟨rfl, hb⟩; have hS' := keep_ten (by with_reducible assumption) hb))
          have HB2 := Aside0.mk (below_step HA.out.b hS'.2.out)
          clear hS'
          go_wp2
          go_ret
          exact ⟨rfl, HB2.out⟩
        · have h := HQ.out.1 rfl
          obtain ⟨⟨⟨h1, h2, h5, h6⟩, h3⟩, h4⟩ := h
          have HL2' : Aside0 (lineL ⟨e2, ⟨n2, hn2⟩, rs2, bs2, []⟩ = L) := ⟨by
            rw [← HL.out]
            subst h1 h2 h3 h4
            rfl⟩
          clear HL2 h1 h2 h3 h4 h5 h6 HQ
          have HL2 := HL2'
          clear HL2'
          go_wp2_with fail
          go_region_held3 (fun W => ((W.cell? ⟨gx, 0, none⟩ = some (.int .i64 e) ∧ W.cell? ⟨gx, 1, none⟩ = some (.int .i64 n) ∧ W.cell? ⟨gx, 2, none⟩ = some (.slice R rs.length rc) ∧ W.cell? ⟨gx, 3, none⟩ = some (.slice B bs.length bc) ∧ W.cell? ⟨gx, 4, none⟩ = some (.slice S 0 sc)) ∧ W.cell? ⟨gy, 0, none⟩ = some (.int .i64 e2) ∧ W.cell? ⟨gy, 1, none⟩ = some (.int .i64 n2) ∧ W.cell? ⟨gy, 2, none⟩ = some (.slice R2 rs2.length rc2) ∧ W.cell? ⟨gy, 3, none⟩ = some (.slice B2 bs2.length bc2) ∧ W.cell? ⟨gy, 4, none⟩ = some (.slice S2 0 sc2)) ∧ Aside0 (Below wc.heap.size wc W))
            ((first | (with_reducible assumption) | exact ⟨⟨⟨x0, x1, x2, x3, x4⟩, y0, y1, y2, y3, y4⟩, ⟨below_drew (Below.refl _ _)⟩⟩ | exact ⟨⟨⟨x0, x1, x2, x3, x4⟩, y0, y1, y2, y3, y4⟩, ⟨Below.refl _ _⟩⟩))
            (first
              | (go_at_call 11; (with_reducible refine (line_parts0 e n hn rs bs R B S rc bc sc _ (tab_and HT1.out (by with_reducible assumption)) (rp_and HP1.out (by with_reducible assumption)) HS.out).mono ?_); rintro r w' ⟨rfl, hb⟩; rw [HL.out]; have hS' := keep_ten (by with_reducible assumption) hb)
              | (go_at_call 11; (with_reducible refine (line_parts0 e2 n2 hn2 rs2 bs2 R2 B2 S2 rc2 bc2 sc2 _ (tab_and HT1.out (by with_reducible assumption)) (rp_and HP21.out (by with_reducible assumption)) HS2.out).mono ?_); rintro r w' ⟨rfl, hb⟩; rw [HL2.out]; have hS' := keep_ten (by with_reducible assumption) hb)
              | (go_at_call 10; (with_reducible refine (awake_calls _ (tab_and HT1.out (by with_reducible assumption))).mono ?_); rintro r w' ⟨rfl, hb⟩; have hS' := keep_ten (by with_reducible assumption) hb))
          have HB2 := Aside0.mk (below_step HA.out.b hS'.2.out)
          clear hS'
          go_wp2
          go_ret
          exact ⟨rfl, HB2.out⟩
end Go.Proofs.YthimnnnfgangbaaDoor.Qr
