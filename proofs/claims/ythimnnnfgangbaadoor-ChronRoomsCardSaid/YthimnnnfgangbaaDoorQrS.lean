/- QueryLines, walked: for every input. -/
import Derived.Test.YthimnnnfgangbaaDoorQrQ
set_option linter.unusedVariables false
set_option linter.unusedSimpArgs false
namespace Go.Proofs.YthimnnnfgangbaaDoor.Qr
open Go.RowKit Go.Proofs.YthimnnnfgangbaaDoorW.PrintWords Go.Proofs.YthimnnnfgangbaaDoorW.PrintLast Go.Proofs.YthimnnnfgangbaaDoorW.PrintMore
/-- A reply's three rows, read. -/
structure RP (x : S27) (R B S : Option Addr) (w : World) : Prop where
  r : Kd.C k41 w R x.r.length x.r
  b : Kd.C k31 w B x.b.length x.b
  s : Kd.C k85 w S x.s.length x.s
theorem RP.below {x : S27} {R B S : Option Addr} {w w' : World} (h : RP x R B S w) (hb : Below w.heap.size w w') : RP x R B S w' := ⟨Kd.C_below h.r hb, Kd.C_below h.b hb, Kd.C_below h.s hb⟩
theorem rp_and {p : Prop} {x : S27} {R B S : Option Addr} {w1 W : World} (ht : RP x R B S w1) (h : p ∧ Aside0 (Below w1.heap.size w1 W)) : RP x R B S W := ht.below h.2.out
/-- A reply whose line is not too long. -/
structure Small (x : S27) : Prop where
  r : x.r.length ≤ 1000000000
  b : x.b.length ≤ 1000000000
  s : x.s.length ≤ 1000000000
  l : ∀ y ∈ x.b, y.l.length ≤ 1000000000
  line : (lineL x).length ≤ 50000000
theorem links_few {c : Nat} (bs : List S31) (h : ∀ y ∈ bs, y.l.length ≤ c) : linksOf bs ≤ c * bs.length := by
  induction bs with
  | nil => exact Nat.zero_le _
  | cons y bs ih =>
    have h1 := ih (fun z hz => h z (List.mem_cons_of_mem _ hz))
    have h2 := h y (by simp)
    show y.l.length + linksOf bs ≤ c * (bs.length + 1)
    rw [Nat.mul_add]
    omega
theorem small_few {x : S27} (h1 : x.r.length ≤ 70) (h2 : x.b.length ≤ 70) (h3 : x.s.length ≤ 70) (h4 : ∀ y ∈ x.b, y.l.length ≤ 40) : Small x := by
  have h5 := links_few x.b h4
  have h6 := line_long x (by omega)
  exact ⟨by omega, by omega, by omega, fun y hy => Nat.le_trans (h4 y hy) (by omega), by omega⟩
theorem line_small (x : S27) (R B S : Option Addr) (rc bc sc : Nat) (w : World) (ht : Tab w) (h : RP x R B S w) (hs : Small x) :
    Calls Tryd.prog 11 #[.agg #[.int .i64 x.e, .int .i64 x.n.1, .slice R x.r.length rc, .slice B x.b.length bc, .slice S x.s.length sc]] w fun e w' => e = .returned (.string ⟨(lineL x).toArray⟩) ∧ Below w.heap.size w w' :=
  line_calls x R B S rc bc sc w ht h.r h.b h.s hs.r hs.b hs.s hs.l hs.line
theorem rline_small (x : S27) (R B S : Option Addr) (rc bc sc : Nat) (w : World) (h : RP x R B S w) (hs : Small x) :
    Calls Tryd.prog 12 #[.agg #[.int .i64 x.e, .int .i64 x.n.1, .slice R x.r.length rc, .slice B x.b.length bc, .slice S x.s.length sc]] w fun e w' => e = .returned (.string ⟨(lineL x).toArray⟩) ∧ Below w.heap.size w w' :=
  rline_calls x R B S rc bc sc w h.r h.b h.s hs.r hs.b hs.s hs.l hs.line
theorem line_parts (e n : Int) (hn : i64 n) (rs : List S41) (bs : List S31) (ss : List S85) (R B S : Option Addr) (rc bc sc : Nat) (w : World) (ht : Tab w) (h : RP ⟨e, ⟨n, hn⟩, rs, bs, ss⟩ R B S w) (hs : Small ⟨e, ⟨n, hn⟩, rs, bs, ss⟩) :
    Calls Tryd.prog 11 #[.agg #[.int .i64 e, .int .i64 n, .slice R rs.length rc, .slice B bs.length bc, .slice S ss.length sc]] w fun r w' => r = .returned (.string ⟨(lineL ⟨e, ⟨n, hn⟩, rs, bs, ss⟩).toArray⟩) ∧ Below w.heap.size w w' :=
  line_small ⟨e, ⟨n, hn⟩, rs, bs, ss⟩ R B S rc bc sc w ht h hs
theorem rline_parts (e n : Int) (hn : i64 n) (rs : List S41) (bs : List S31) (ss : List S85) (R B S : Option Addr) (rc bc sc : Nat) (w : World) (h : RP ⟨e, ⟨n, hn⟩, rs, bs, ss⟩ R B S w) (hs : Small ⟨e, ⟨n, hn⟩, rs, bs, ss⟩) :
    Calls Tryd.prog 12 #[.agg #[.int .i64 e, .int .i64 n, .slice R rs.length rc, .slice B bs.length bc, .slice S ss.length sc]] w fun r w' => r = .returned (.string ⟨(lineL ⟨e, ⟨n, hn⟩, rs, bs, ss⟩).toArray⟩) ∧ Below w.heap.size w w' :=
  rline_small ⟨e, ⟨n, hn⟩, rs, bs, ss⟩ R B S rc bc sc w h hs
set_option maxHeartbeats 3200000 in
set_option maxRecDepth 100000 in
/-- Too much to be looked at. -/
theorem lines_long (x : S27) (e2 : Int) (R B S : Option Addr) (rc bc sc : Nat) (w : World) (ht : Tab w) (h : 70 < x.r.length ∨ 70 < x.b.length ∨ 70 < x.s.length) :
    Calls Tryd.prog 3 #[.agg #[.int .i64 x.e, .int .i64 x.n.1, .slice R x.r.length rc, .slice B x.b.length bc, .slice S x.s.length sc], .int .i64 e2] w fun e w' => e = .returned (.bool true) ∧ Below w.heap.size w w' := by
  obtain ⟨e, ⟨n, hn⟩, rs, bs, ss⟩ := x
  have HT := Aside0.mk ht
  clear ht
  simp only at h ⊢
  clear hn
  by_cases h1 : 70 < rs.length
  · have g1 : ((70 : Int) < (rs.length : Int)) := by omega
    clear h
    go_enter Tryd.func3, Tryd.ntmps3
    go_wp2_with fail
    refine (awake_calls _ (tab_below HT.out (below_alloc (Below.refl _ _) _))).mono ?_
    rintro e w2 ⟨rfl, hb⟩
    have HB2 := Aside0.mk (below_step (below_alloc (Below.refl _ _) _) hb)
    clear hb
    go_wp2
    go_ret
    exact ⟨rfl, HB2.out⟩
  · have g1 : ¬ ((70 : Int) < (rs.length : Int)) := by omega
    by_cases h2 : 70 < bs.length
    · have g2 : ((70 : Int) < (bs.length : Int)) := by omega
      clear h
      go_enter Tryd.func3, Tryd.ntmps3
      go_wp2_with fail
      refine (awake_calls _ (tab_below HT.out (below_alloc (Below.refl _ _) _))).mono ?_
      rintro e w2 ⟨rfl, hb⟩
      have HB2 := Aside0.mk (below_step (below_alloc (Below.refl _ _) _) hb)
      clear hb
      go_wp2
      go_ret
      exact ⟨rfl, HB2.out⟩
    · have g2 : ¬ ((70 : Int) < (bs.length : Int)) := by omega
      have h3 : 70 < ss.length := by omega
      have g3 : ((70 : Int) < (ss.length : Int)) := by omega
      clear h
      go_enter Tryd.func3, Tryd.ntmps3
      go_wp2_with fail
      refine (awake_calls _ (tab_below HT.out (below_alloc (Below.refl _ _) _))).mono ?_
      rintro e w2 ⟨rfl, hb⟩
      have HB2 := Aside0.mk (below_step (below_alloc (Below.refl _ _) _) hb)
      clear hb
      go_wp2
      go_ret
      exact ⟨rfl, HB2.out⟩
set_option maxHeartbeats 6400000 in
set_option maxRecDepth 100000 in
theorem lines_short (x : S27) (e2 : Int) (R B S : Option Addr) (rc bc sc : Nat) (w : World) (ht : Tab w) (hp : RP x R B S w) (h1 : x.r.length ≤ 70) (h2 : x.b.length ≤ 70) (h3 : x.s.length ≤ 70) :
    Calls Tryd.prog 3 #[.agg #[.int .i64 x.e, .int .i64 x.n.1, .slice R x.r.length rc, .slice B x.b.length bc, .slice S x.s.length sc], .int .i64 e2] w fun e w' => e = .returned (.bool true) ∧ Below w.heap.size w w' := by
  obtain ⟨X, hX⟩ : ∃ X, x = X := ⟨_, rfl⟩
  have HX := Aside0.mk hX
  have HP : Aside0 (RP X R B S w) := ⟨by rw [← hX]; exact hp⟩
  have HS1 : Aside0 ((∀ y ∈ X.b, y.l.length ≤ 40) → Small X) := ⟨by rw [← hX]; exact small_few h1 h2 h3⟩
  clear hX hp
  obtain ⟨e, ⟨n, hn⟩, rs, bs, ss⟩ := x
  have HT := Aside0.mk ht
  clear ht
  simp only at h1 h2 h3 ⊢
  have g1 : ¬ ((70 : Int) < (rs.length : Int)) := by omega
  have g2 : ¬ ((70 : Int) < (bs.length : Int)) := by omega
  have g3 : ¬ ((70 : Int) < (ss.length : Int)) := by omega
  have HX2 := Aside0.mk (show S27.b X = bs by rw [← HX.out])
  go_enter Tryd.func3, Tryd.ntmps3
  go_upto_region 3 with (fail)
  obtain ⟨gx, hgx⟩ : ∃ gx, w.heap.size = gx := ⟨_, rfl⟩
  rw [hgx]
  refine wp_world (fun W => Aside0 (W.heap[gx]? = some (.cells #[.int .i64 e, .int .i64 n, .slice R rs.length rc, .slice B bs.length bc, .slice S ss.length sc] 27 (0, 0))) ∧ Aside0 (Below w.heap.size w W)) ⟨⟨by subst hgx; exact blk_new w _⟩, ⟨below_alloc (Below.refl _ _) _⟩⟩ ?_
  clear hgx g1 g2 g3
  rintro w1 ⟨HC, HB⟩
  have k3 := blk_cell HC.out 3
  simp at k3
  have HP1 := Aside0.mk (HP.out.below HB.out)
  have HT1 := Aside0.mk (tab_below HT.out HB.out)
  clear HP HT
  go_wp2_with fail
  go_loop [5] (fun v5 => ∃ k : Nat, k ≤ bs.length ∧ v5 = .int .i64 k ∧ Aside0 (∀ y ∈ bs.take k, y.l.length ≤ 40)) (fun v5 => bs.length - (intOf v5).toNat)
  case atStart => exact ⟨0, Nat.zero_le _, rfl, ⟨by simp⟩⟩
  case round =>
    obtain ⟨k, hk, rfl, HK⟩ := hrel
    by_cases hlt : k < bs.length
    · have hB : Kd.C k31 w1 B bs.length bs := by have := HP1.out.b; rw [HX2.out] at this; exact this
      obtain ⟨ad, ⟨⟨xa, hxa⟩, ⟨xb, hxb⟩, xl⟩, A2, c2, rfl, hx, b0, b1, b2, hl2, hC2⟩ := at31 hB hlt
      simp only at b0 b1 b2 hl2 hC2
      have HXM := Aside0.mk hx
      clear hB hx hC2 hl2 b0 b1
      by_cases h4 : 40 < xl.length
      · have g4 : ((40 : Int) < (xl.length : Int)) := by omega
        go_wp2_with fail
        refine (awake_calls _ HT1.out).mono ?_
        rintro e w2 ⟨rfl, hb⟩
        have HB2 := Aside0.mk (below_step HB.out hb)
        clear hb
        go_wp2
        go_ret
        exact ⟨rfl, HB2.out⟩
      · have g4 : ¬ ((40 : Int) < (xl.length : Int)) := by omega
        have H4 := Aside0.mk h4
        have HLT := Aside0.mk hlt
        go_wp2
        go_round
        case rel =>
          exact ⟨k + 1, HLT.out, by go_num, ⟨fun y hy => by
            rw [List.take_add_one, HXM.out] at hy
            rcases List.mem_append.1 hy with hy | hy
            · exact HK.out y hy
            · simp at hy
              subst hy
              have := H4.out
              simp
              omega⟩⟩
        case measure => have := HLT.out; simp [intOf]; omega
    · obtain rfl : k = bs.length := by omega
      have HS : Aside0 (Small X) := ⟨HS1.out (by rw [HX2.out]; have := HK.out; rw [List.take_length] at this; exact this)⟩
      clear HK HS1 hk
      obtain rfl := HX.out
      clear HX HX2 h1 h2 h3
      go_upto_region 8 with (fail)
      clear k3
      obtain ⟨L, hL⟩ : ∃ L, lineL ⟨e, ⟨n, hn⟩, rs, bs, ss⟩ = L := ⟨_, rfl⟩
      have HL := Aside0.mk hL
      clear hL
      have k0 := blk_cell HC.out 0
      have k1 := blk_cell HC.out 1
      have k2 := blk_cell HC.out 2
      have k3 := blk_cell HC.out 3
      have k4 := blk_cell HC.out 4
      simp at k0 k1 k2 k3 k4
      go_region_held3 (fun W => (W.cell? ⟨gx, 0, none⟩ = some (.int .i64 e) ∧ W.cell? ⟨gx, 1, none⟩ = some (.int .i64 n) ∧ W.cell? ⟨gx, 2, none⟩ = some (.slice R rs.length rc) ∧ W.cell? ⟨gx, 3, none⟩ = some (.slice B bs.length bc) ∧ W.cell? ⟨gx, 4, none⟩ = some (.slice S ss.length sc)) ∧ Aside0 (Below w1.heap.size w1 W))
        ((first | (with_reducible assumption) | exact ⟨⟨k0, k1, k2, k3, k4⟩, ⟨below_drew (Below.refl _ _)⟩⟩ | exact ⟨⟨k0, k1, k2, k3, k4⟩, ⟨Below.refl _ _⟩⟩))
        (first
          | (go_at_call 11; (with_reducible refine (line_parts e n hn rs bs ss R B S rc bc sc _ (tab_and HT1.out (by with_reducible assumption)) (rp_and HP1.out (by with_reducible assumption)) HS.out).mono ?_); rintro e w' ⟨rfl, hb⟩; rw [HL.out]; have hS' := keep_five (by with_reducible assumption) hb)
          | (go_at_call 12; (with_reducible refine (rline_parts e n hn rs bs ss R B S rc bc sc _ (rp_and HP1.out (by with_reducible assumption)) HS.out).mono ?_); rintro e w' ⟨rfl, hb⟩; rw [HL.out]; have hS' := keep_five (by with_reducible assumption) hb)
          | (go_at_call 13; (with_reducible refine (word13 e2 _).mono ?_); rintro e w' ⟨rfl, hb⟩; have hS' := keep_five (by with_reducible assumption) hb)
          | (go_at_call 14; (with_reducible refine (rword14 e2 _).mono ?_); rintro e w' ⟨rfl, hb⟩; have hS' := keep_five (by with_reducible assumption) hb)
          | (go_at_call 10; (with_reducible refine (awake_calls _ (tab_and HT1.out (by with_reducible assumption))).mono ?_); rintro e w' ⟨rfl, hb⟩; have hS' := keep_five (by with_reducible assumption) hb))
      have HB2 := Aside0.mk (below_step HB.out hS'.2.out)
      clear hS' k0 k1 k2 k3 k4 HB
      go_wp2
      go_ret
      exact ⟨rfl, HB2.out⟩
theorem lines_any (x : S27) (e2 : Int) (R B S : Option Addr) (rc bc sc : Nat) (w : World) (ht : Tab w) (hp : RP x R B S w) :
    Calls Tryd.prog 3 #[.agg #[.int .i64 x.e, .int .i64 x.n.1, .slice R x.r.length rc, .slice B x.b.length bc, .slice S x.s.length sc], .int .i64 e2] w fun e w' => e = .returned (.bool true) ∧ Below w.heap.size w w' := by
  by_cases h : 70 < x.r.length ∨ 70 < x.b.length ∨ 70 < x.s.length
  · exact lines_long x e2 R B S rc bc sc w ht h
  · exact lines_short x e2 R B S rc bc sc w ht hp (by omega) (by omega) (by omega)
end Go.Proofs.YthimnnnfgangbaaDoor.Qr
