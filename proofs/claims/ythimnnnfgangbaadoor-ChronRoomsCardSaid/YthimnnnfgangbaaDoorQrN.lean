/- Contract of the reference's Line, for every input. -/
import Derived.Test.YthimnnnfgangbaaDoorQrM
set_option linter.unusedVariables false
set_option linter.unusedSimpArgs false
namespace Go.Proofs.YthimnnnfgangbaaDoor.Qr
open Go.RowKit Go.Proofs.YthimnnnfgangbaaDoorW.PrintWords Go.Proofs.YthimnnnfgangbaaDoorW.PrintLast Go.Proofs.YthimnnnfgangbaaDoorW.PrintMore
theorem keep_three {w1 W W' : World} {a0 a1 a2 : Addr} {v0 v1 v2 : Value} (h : (W.cell? a0 = some v0 ∧ W.cell? a1 = some v1 ∧ W.cell? a2 = some v2) ∧ Aside0 (Below w1.heap.size w1 W)) (hb : Below W.heap.size W W') : (W'.cell? a0 = some v0 ∧ W'.cell? a1 = some v1 ∧ W'.cell? a2 = some v2) ∧ Aside0 (Below w1.heap.size w1 W') :=
  ⟨⟨pw_cell_below hb h.1.1, pw_cell_below hb h.1.2.1, pw_cell_below hb h.1.2.2⟩, ⟨below_step h.2.out hb⟩⟩
theorem keep_four {w1 W W' : World} {a0 a1 a2 a3 : Addr} {v0 v1 v2 v3 : Value} (h : (W.cell? a0 = some v0 ∧ W.cell? a1 = some v1 ∧ W.cell? a2 = some v2 ∧ W.cell? a3 = some v3) ∧ Aside0 (Below w1.heap.size w1 W)) (hb : Below W.heap.size W W') : (W'.cell? a0 = some v0 ∧ W'.cell? a1 = some v1 ∧ W'.cell? a2 = some v2 ∧ W'.cell? a3 = some v3) ∧ Aside0 (Below w1.heap.size w1 W') :=
  ⟨⟨pw_cell_below hb h.1.1, pw_cell_below hb h.1.2.1, pw_cell_below hb h.1.2.2.1, pw_cell_below hb h.1.2.2.2⟩, ⟨below_step h.2.out hb⟩⟩
/-- The reply's own copy, and all that was there before the call. -/
def RS (w : World) (gx : Nat) (X : Array Value) (W : World) : Prop := W.heap[gx]? = some (.cells X 27 (0, 0)) ∧ Below w.heap.size w W
theorem RS.below {w : World} {gx : Nat} {X : Array Value} {W W' : World} (h : RS w gx X W) (hb : Below W.heap.size W W') : RS w gx X W' := ⟨blk_below h.1 hb, below_step h.2 hb⟩
theorem RS.alloc {w : World} {gx : Nat} {X : Array Value} {W : World} (h : RS w gx X W) (o : Obj) : RS w gx X (W.alloc o) := ⟨blk_alloc h.1 _, below_alloc h.2 _⟩
theorem wd_cons {l : List UInt8} (s : List UInt8) (h : l ≠ []) : wd l s = l ++ 32 :: s := by unfold wd; rw [if_neg h]
theorem howL_ne (x : S85) : howL x ≠ [] := by unfold howL; split <;> (try split) <;> simp
theorem route_ref {l : List UInt8} (x : S41) (h : l ≠ []) : routeL l x = l ++ [32, 114, 111, 117, 116, 101, 32] ++ it x.a.1 ++ [32] ++ it x.b.1 ++ [32] ++ dd x.c.1 := by
  unfold routeL nw
  simp only [List.foldl_cons, List.foldl_nil]
  rw [wd_cons _ h, wd_cons _ (by first | exact wd_ne _ (it_ne _) | exact wd_ne _ (howL_ne _) | simp), wd_cons _ (by first | exact wd_ne _ (it_ne _) | exact wd_ne _ (howL_ne _) | simp), wd_cons _ (by first | exact wd_ne _ (it_ne _) | exact wd_ne _ (howL_ne _) | simp)]
  simp
theorem link_ref {l : List UInt8} (x : S43) (h : l ≠ []) : linkL l x = l ++ [32] ++ it x.a.1 ++ [32] ++ it x.b.1 := by
  unfold linkL nw
  simp only [List.foldl_cons, List.foldl_nil]
  rw [wd_cons _ h, wd_cons _ (by first | exact wd_ne _ (it_ne _) | exact wd_ne _ (howL_ne _) | simp)]
  simp
theorem lsaHead_ref {l : List UInt8} (x : S31) (h : l ≠ []) : lsaHead l x = l ++ [32, 108, 115, 97, 32] ++ it x.a.1 ++ [32] ++ it x.b.1 ++ [32] ++ it (x.l.length : Int) := by
  unfold lsaHead nw
  simp only [List.foldl_cons, List.foldl_nil]
  rw [wd_cons _ h, wd_cons _ (by first | exact wd_ne _ (it_ne _) | exact wd_ne _ (howL_ne _) | simp), wd_cons _ (by first | exact wd_ne _ (it_ne _) | exact wd_ne _ (howL_ne _) | simp), wd_cons _ (by first | exact wd_ne _ (it_ne _) | exact wd_ne _ (howL_ne _) | simp)]
  simp
theorem near_ref {l : List UInt8} (x : S85) (h : l ≠ []) : nearL l x = l ++ [32, 110, 101, 97, 114, 32] ++ it x.a.1 ++ [32] ++ it x.b.1 ++ [32] ++ it x.c.1 ++ [32] ++ howL x ++ [32] ++ it x.g.1 := by
  unfold nearL nw
  simp only [List.foldl_cons, List.foldl_nil]
  rw [wd_cons _ h, wd_cons _ (by first | exact wd_ne _ (it_ne _) | exact wd_ne _ (howL_ne _) | simp), wd_cons _ (by first | exact wd_ne _ (it_ne _) | exact wd_ne _ (howL_ne _) | simp), wd_cons _ (by first | exact wd_ne _ (it_ne _) | exact wd_ne _ (howL_ne _) | simp), wd_cons _ (by first | exact wd_ne _ (it_ne _) | exact wd_ne _ (howL_ne _) | simp), wd_cons _ (by first | exact wd_ne _ (it_ne _) | exact wd_ne _ (howL_ne _) | simp)]
  simp
theorem head_ref (x : S27) : headL x = if x.n.1 = 0 then wordL x.e else wordL x.e ++ [32, 110, 32] ++ it x.n.1 := by
  unfold headL nw
  simp only [List.foldl_cons, List.foldl_nil]
  rw [show wd [] (wordL x.e) = wordL x.e from rfl, wd_cons [110] (wordL_ne _), wd_cons _ (by simp)]
  simp

set_option maxHeartbeats 16000000 in
set_option maxRecDepth 100000 in
theorem rline_calls (x : S27) (R B S : Option Addr) (rc bc sc : Nat) (w : World) (hR : Kd.C k41 w R x.r.length x.r) (hB : Kd.C k31 w B x.b.length x.b) (hS : Kd.C k85 w S x.s.length x.s)
    (hrr : x.r.length ≤ 1000000000) (hbb : x.b.length ≤ 1000000000) (hss : x.s.length ≤ 1000000000) (hb : ∀ y ∈ x.b, y.l.length ≤ 1000000000) (hl : (lineL x).length ≤ 50000000) :
    Calls Tryd.prog 12 #[.agg #[.int .i64 x.e, .int .i64 x.n.1, .slice R x.r.length rc, .slice B x.b.length bc, .slice S x.s.length sc]] w fun e w' => e = .returned (.string ⟨(lineL x).toArray⟩) ∧ Below w.heap.size w w' := by
  have HR := Aside0.mk hR
  have HB := Aside0.mk hB
  have HS := Aside0.mk hS
  have HBL := Aside0.mk hb
  have HRR := Aside0.mk hrr
  have HBB := Aside0.mk hbb
  have HSS := Aside0.mk hss
  have hne0 := head_ne x
  have hhr := head_ref x
  obtain ⟨e, ⟨n, hn⟩, rs, bs, ss⟩ := x
  have HN := Aside0.mk hn
  obtain ⟨L0, hL0⟩ : ∃ L, headL ⟨e, ⟨n, HN.out⟩, rs, bs, ss⟩ = L := ⟨_, rfl⟩
  obtain ⟨L1, hL1⟩ : ∃ L, rs.foldl routeL L0 = L := ⟨_, rfl⟩
  obtain ⟨L2, hL2⟩ : ∃ L, bs.foldl lsaL L1 = L := ⟨_, rfl⟩
  obtain ⟨L3, hL3⟩ : ∃ L, ss.foldl nearL L2 = L := ⟨_, rfl⟩
  have hlin : lineL ⟨e, ⟨n, HN.out⟩, rs, bs, ss⟩ = L3 := by unfold lineL; rw [hL0, hL1, hL2, hL3]
  have q3 : L3.length ≤ 50000000 := by rw [← hlin]; exact hl
  have q2 : L2.length ≤ 50000000 := Nat.le_trans (by rw [← hL3]; exact fold_grow near_grow _ _) q3
  have q1 : L1.length ≤ 50000000 := Nat.le_trans (by rw [← hL2]; exact fold_grow lsa_grow _ _) q2
  rw [hL0] at hne0 hhr
  have Q1 := Aside0.mk q1
  have Q2 := Aside0.mk q2
  have Q3 := Aside0.mk q3
  have N0 := Aside0.mk hne0
  have N1 : Aside0 (L1 ≠ []) := ⟨by rw [← hL1]; exact fold_ne route_grow _ hne0⟩
  have N2 : Aside0 (L2 ≠ []) := ⟨by rw [← hL2]; exact fold_ne lsa_grow _ N1.out⟩
  have E0 := Aside0.mk hhr
  have E1 := Aside0.mk hL1
  have E2 := Aside0.mk hL2
  have E3 := Aside0.mk hL3
  rw [hlin]
  clear hL0 hL1 hL2 hL3 hlin q1 q2 q3 hne0 hhr
  clear hR hB hS hb hl hrr hbb hss
  simp only at HR HB HS HBL HRR HBB HSS
  show Calls Tryd.prog 12 #[.agg #[.int .i64 e, .int .i64 n, .slice R rs.length rc, .slice B bs.length bc, .slice S ss.length sc]] w _
  go_enter Tryd.func12, Tryd.ntmps12
  go_upto_region 1 with (fail)
  obtain ⟨gx, hgx⟩ : ∃ gx, w.heap.size = gx := ⟨_, rfl⟩
  rw [hgx]
  obtain ⟨X, hX⟩ : ∃ X : Array Value, #[Value.int .i64 e, .int .i64 n, .slice R rs.length rc, .slice B bs.length bc, .slice S ss.length sc] = X := ⟨_, rfl⟩
  have HX := Aside0.mk hX
  refine wp_world (fun W => Aside0 (RS w gx X W)) ⟨⟨by subst hgx; subst hX; exact blk_new w _, below_alloc (Below.refl _ _) _⟩⟩ ?_
  clear hgx hX
  rintro w1 HL
  have k0 := blk_cell HL.out.1 0
  rw [← HX.out] at k0
  simp at k0
  go_wp2_with fail
  refine (rword14 e _).mono ?_
  rintro e' w2 ⟨rfl, hb⟩
  have HL2 := Aside0.mk (HL.out.below hb)
  clear hb HL k0
  have k1 := blk_cell HL2.out.1 1
  rw [← HX.out] at k1
  simp at k1
  have hwl := (wordL_len e).2
  obtain ⟨we, hwe⟩ : ∃ we, wordL e = we := ⟨_, rfl⟩
  rw [hwe] at hwl
  simp only [hwe] at E0 ⊢
  have HW := Aside0.mk hwe
  have HWL := Aside0.mk hwl
  clear hwe hwl
  go_upto_if 16 with (fail)
  go_cut [3] (fun v3 wx => v3 = .string ⟨L0.toArray⟩ ∧ Aside0 (RS w gx X wx))
  case first =>
    by_cases h0 : n = 0
    · have HZ : Aside0 (L0 = we) := ⟨by rw [E0.out, if_pos h0]⟩
      go_wp2_with fail
      go_meet
      exact ⟨by rw [HZ.out], HL2⟩
    · have HZ : Aside0 (L0 = we ++ [32, 110, 32] ++ it n) := ⟨by rw [E0.out, if_neg h0]⟩
      have li := (it_len HN.out.1 HN.out.2).2
      have b1 : ¬ 9223372036854775807 < we.length + 3 := by have := HWL.out; omega
      have b2 : ¬ 9223372036854775807 < we.length + 3 + (it n).length := by have := HWL.out; omega
      clear li
      go_wp2_with fail
      refine (digits_i n HN.out _).mono ?_
      rintro e' w3 ⟨rfl, hb⟩
      have HL3 := Aside0.mk (HL2.out.below hb)
      clear hb k1
      go_wp2_with fail
      go_meet
      exact ⟨by rw [HZ.out]; simp only [cat_bytes], HL3⟩
  case rest =>
    obtain ⟨rfl, HC0⟩ := hcut
    have HC := Aside0.mk HC0.out
    clear HC0 HL2 k1 E0 HW HWL
    go_upto_block 0 with (fail)
    go_cut [3, 4] (fun v3 v4 wx => v3 = .string ⟨L1.toArray⟩ ∧ Aside0 (RS w gx X wx))
    case first =>
      go_wp2_with fail
      go_loopw [3, 4] (fun v3 v4 W => ∃ k : Nat, k ≤ rs.length ∧ v3 = .string ⟨((rs.take k).foldl routeL L0).toArray⟩ ∧ v4 = .int .i64 k ∧ Aside0 (RS w gx X W)) (fun _ v4 _ => rs.length - (intOf v4).toNat)
      case atStart => exact ⟨0, Nat.zero_le _, rfl, rfl, HC⟩
      case round =>
        clear HC
        obtain ⟨k, hk, rfl, rfl, HK⟩ := hrel
        have k2 := blk_cell HK.out.1 2
        rw [← HX.out] at k2
        simp at k2
        by_cases hlt : k < rs.length
        · obtain ⟨ad, ⟨⟨xa, hxa⟩, ⟨xb, hxb⟩, ⟨xc, hxc⟩⟩, rfl, hx, b0', b1', b2'⟩ := at41 HR.out hlt
          simp only at b0' b1' b2'
          have a0 := pw_cell_below HK.out.2 b0'
          have a1 := pw_cell_below HK.out.2 b1'
          have a2 := pw_cell_below HK.out.2 b2'
          have HIA := Aside0.mk hxa
          have HIB := Aside0.mk hxb
          have HIC := Aside0.mk hxc
          have hp : ((rs.take k).foldl routeL L0).length ≤ 50000000 := Nat.le_trans (fold_part route_grow _ _ _) (by rw [E1.out]; exact Q1.out)
          have hne : (rs.take k).foldl routeL L0 ≠ [] := fold_ne route_grow _ N0.out
          have HSTEP : Aside0 ((rs.take (k + 1)).foldl routeL L0 = (rs.take k).foldl routeL L0 ++ [32, 114, 111, 117, 116, 101, 32] ++ it xa ++ [32] ++ it xb ++ [32] ++ dd xc) := ⟨(fold_take hx).trans (route_ref _ hne)⟩
          obtain ⟨P, hP⟩ : ∃ P, (rs.take k).foldl routeL L0 = P := ⟨_, rfl⟩
          rw [hP] at hp HSTEP ⊢
          have la := (it_len hxa.1 hxa.2).2
          have lb := (it_len hxb.1 hxb.2).2
          have lc := (dd_len hxc).2
          have q0 : ¬ 9223372036854775807 < P.length + 7 := by have := hp; omega
          have q1 : ¬ 9223372036854775807 < P.length + 7 + (it xa).length := by have := hp; omega
          have q2 : ¬ 9223372036854775807 < P.length + 7 + (it xa).length + 1 := by have := hp; omega
          have q3 : ¬ 9223372036854775807 < P.length + 7 + (it xa).length + 1 + (it xb).length := by have := hp; omega
          have q4 : ¬ 9223372036854775807 < P.length + 7 + (it xa).length + 1 + (it xb).length + 1 := by have := hp; omega
          have q5 : ¬ 9223372036854775807 < P.length + 7 + (it xa).length + 1 + (it xb).length + 1 + (dd xc).length := by have := hp; omega
          have HLT := Aside0.mk hlt
          have hk5 : (k : Int) ≤ 1000000000 := by have := HRR.out; omega
          clear b0' b1' b2' hx hxa hxb hxc hP hp hne la lb lc
          go_upto_region 7 with (fail)
          go_region_held3 (fun W => (W.cell? ⟨gx, 2, none⟩ = some (.slice (some ad) rs.length rc) ∧ W.cell? (ad.add (k * 3)) = some (.int .i64 xa) ∧ W.cell? ⟨(ad.add (k * 3)).block, (ad.add (k * 3)).off + 1, none⟩ = some (.int .i64 xb) ∧ W.cell? ⟨(ad.add (k * 3)).block, (ad.add (k * 3)).off + 2, none⟩ = some (.int .u64 xc)) ∧ Aside0 (Below wr.heap.size wr W))
            ((first | (with_reducible assumption) | exact ⟨⟨k2, a0, a1, a2⟩, ⟨below_drew (Below.refl _ _)⟩⟩ | exact ⟨⟨k2, a0, a1, a2⟩, ⟨Below.refl _ _⟩⟩))
            (first
              | (go_at_call 41; (with_reducible refine (digits_i xa HIA.out _).mono ?_); rintro e w4 ⟨rfl, hb⟩; have hS' := keep_four (by with_reducible assumption) hb)
              | (go_at_call 41; (with_reducible refine (digits_i xb HIB.out _).mono ?_); rintro e w4 ⟨rfl, hb⟩; have hS' := keep_four (by with_reducible assumption) hb)
              | (go_at_call 42; (with_reducible refine (long_any xc HIC.out _).mono ?_); rintro e w4 ⟨rfl, hb⟩; have hS' := keep_four (by with_reducible assumption) hb))
          have H4 := Aside0.mk (HK.out.below hS'.2.out)
          clear hS' k2 a0 a1 a2 HK
          go_wp2
          go_roundw
          case rel => exact ⟨k + 1, HLT.out, by rw [HSTEP.out]; simp only [cat_bytes], by go_num, H4⟩
          case measure => have := HLT.out; simp [intOf]; omega
        · obtain rfl : k = rs.length := by omega
          rw [List.take_length, E1.out]
          go_wp2_with fail
          go_meet
          exact ⟨rfl, HK⟩
    case rest =>
      obtain ⟨rfl, HD0⟩ := hcut
      have HD := Aside0.mk HD0.out
      clear HD0 HC
      go_upto_block 2 with (fail)
      go_cut [3, 5] (fun v3 v5 wx => v3 = .string ⟨L2.toArray⟩ ∧ Aside0 (RS w gx X wx))
      case first =>
        go_wp2_with fail
        go_loopw [3, 5] (fun v3 v5 W => ∃ k : Nat, k ≤ bs.length ∧ v3 = .string ⟨((bs.take k).foldl lsaL L1).toArray⟩ ∧ v5 = .int .i64 k ∧ Aside0 (RS w gx X W)) (fun _ v5 _ => bs.length - (intOf v5).toNat)
        case atStart => exact ⟨0, Nat.zero_le _, rfl, rfl, HD⟩
        case round =>
          clear HD
          obtain ⟨k, hk, rfl, rfl, HK⟩ := hrel
          have k3 := blk_cell HK.out.1 3
          rw [← HX.out] at k3
          simp at k3
          by_cases hlt : k < bs.length
          · obtain ⟨ad, ⟨⟨xa, hxa⟩, ⟨xb, hxb⟩, xl⟩, A2, c2, rfl, hx, b0', b1', b2', hl2, hC2⟩ := at31 HB.out hlt
            simp only at b0' b1' b2' hl2 hC2
            have a0 := pw_cell_below HK.out.2 b0'
            have a1 := pw_cell_below HK.out.2 b1'
            have a2 := pw_cell_below HK.out.2 b2'
            have hxl : xl.length ≤ 1000000000 := HBL.out _ (List.mem_of_getElem? hx)
            have HIA := Aside0.mk hxa
            have HIB := Aside0.mk hxb
            have HIL : Aside0 (i64 (xl.length : Int)) := ⟨by unfold i64; omega⟩
            have HC2 := Aside0.mk hC2
            have HXL := Aside0.mk hxl
            have hp : ((bs.take k).foldl lsaL L1).length ≤ 50000000 := Nat.le_trans (fold_part lsa_grow _ _ _) (by rw [E2.out]; exact Q2.out)
            have hne : (bs.take k).foldl lsaL L1 ≠ [] := fold_ne lsa_grow _ N1.out
            have hst : (bs.take (k + 1)).foldl lsaL L1 = xl.foldl linkL (lsaHead ((bs.take k).foldl lsaL L1) ⟨⟨xa, hxa⟩, ⟨xb, hxb⟩, xl⟩) := fold_take hx
            rw [lsaHead_ref _ hne] at hst
            simp only at hst
            have HQ : Aside0 (((bs.take (k + 1)).foldl lsaL L1).length ≤ 50000000) := ⟨Nat.le_trans (fold_part lsa_grow _ _ _) (by rw [E2.out]; exact Q2.out)⟩
            obtain ⟨P, hP⟩ : ∃ P, (bs.take k).foldl lsaL L1 = P := ⟨_, rfl⟩
            rw [hP] at hp hne hst ⊢
            obtain ⟨N, hN⟩ : ∃ N, (bs.take (k + 1)).foldl lsaL L1 = N := ⟨_, rfl⟩
            rw [hN] at HQ hst
            have HNN := Aside0.mk hN
            obtain ⟨P1, hP1⟩ : ∃ P1, P ++ [32, 108, 115, 97, 32] ++ it xa ++ [32] ++ it xb ++ [32] ++ it (xl.length : Int) = P1 := ⟨_, rfl⟩
            have HP1 := Aside0.mk hP1
            have hn1 : P1 ≠ [] := by rw [← hP1]; simp
            have HN1 := Aside0.mk hn1
            rw [hP1] at hst
            have HSTEP := Aside0.mk hst
            have la := (it_len hxa.1 hxa.2).2
            have lb := (it_len hxb.1 hxb.2).2
            have lc := (it_len HIL.out.1 HIL.out.2).2
            obtain ⟨xn, hxn⟩ : ∃ xn : Int, (xl.length : Int) = xn := ⟨_, rfl⟩
            have q0 : ¬ 9223372036854775807 < P.length + 5 := by have := hp; omega
            have q1 : ¬ 9223372036854775807 < P.length + 5 + (it xa).length := by have := hp; omega
            have q2 : ¬ 9223372036854775807 < P.length + 5 + (it xa).length + 1 := by have := hp; omega
            have q3 : ¬ 9223372036854775807 < P.length + 5 + (it xa).length + 1 + (it xb).length := by have := hp; omega
            have q4 : ¬ 9223372036854775807 < P.length + 5 + (it xa).length + 1 + (it xb).length + 1 := by have := hp; omega
            have q5 : ¬ 9223372036854775807 < P.length + 5 + (it xa).length + 1 + (it xb).length + 1 + (it (xl.length : Int)).length := by have := hp; omega
            have HLT := Aside0.mk hlt
            have hk5 : (k : Int) ≤ 1000000000 := by have := HBB.out; omega
            clear hxn b0' b1' b2' hx hxa hxb hC2 hP hN hP1 hp hne hst hn1 la lb lc hxl
            go_upto_region 12 with (fail)
            obtain ⟨g6, hg6⟩ : ∃ g6, wr.heap.size = g6 := ⟨_, rfl⟩
            rw [hg6]
            refine wp_world (fun W => Aside0 (RS w gx X W) ∧ Aside0 (W.heap[g6]? = some (.cells #[.int .i64 xa, .int .i64 xb, .slice A2 xl.length c2] 31 (0, 0)))) ⟨⟨HK.out.alloc _⟩, ⟨by subst hg6; exact blk_new _ _⟩⟩ ?_
            clear hg6 a0 a1 a2 k3 HK
            rintro w5 ⟨HK, HG⟩
            have c0 := blk_cell HG.out 0
            have c1 := blk_cell HG.out 1
            have c2' := blk_cell HG.out 2
            simp at c0 c1 c2'
            go_cut [3] (fun v3 wx => v3 = .string ⟨P1.toArray⟩ ∧ Aside0 (RS w gx X wx) ∧ Aside0 (wx.heap[g6]? = some (.cells #[.int .i64 xa, .int .i64 xb, .slice A2 xl.length c2] 31 (0, 0))))
            case first =>
              go_region_held3 (fun W => (W.cell? ⟨g6, 0, none⟩ = some (.int .i64 xa) ∧ W.cell? ⟨g6, 1, none⟩ = some (.int .i64 xb) ∧ W.cell? ⟨g6, 2, none⟩ = some (.slice A2 xl.length c2)) ∧ Aside0 (Below w5.heap.size w5 W))
                ((first | (with_reducible assumption) | exact ⟨⟨c0, c1, c2'⟩, ⟨below_drew (Below.refl _ _)⟩⟩ | exact ⟨⟨c0, c1, c2'⟩, ⟨Below.refl _ _⟩⟩))
                (first
                  | (go_at_call 41; (with_reducible refine (digits_i xa HIA.out _).mono ?_); rintro e w4 ⟨rfl, hb⟩; have hS' := keep_three (by with_reducible assumption) hb)
                  | (go_at_call 41; (with_reducible refine (digits_i xb HIB.out _).mono ?_); rintro e w4 ⟨rfl, hb⟩; have hS' := keep_three (by with_reducible assumption) hb)
                  | (go_at_call 41; (with_reducible refine (digits_i (xl.length : Int) HIL.out _).mono ?_); rintro e w4 ⟨rfl, hb⟩; have hS' := keep_three (by with_reducible assumption) hb))
              have H4 := Aside0.mk (HK.out.below hS'.2.out)
              have G4 := Aside0.mk (blk_below HG.out hS'.2.out)
              clear hS' c0 c1 c2' HK HG
              go_wp2_with fail
              go_meet
              exact ⟨by rw [← HP1.out]; simp only [cat_bytes], H4, G4⟩
            case rest =>
            obtain ⟨rfl, H4, G4⟩ := hcut
            clear HK HG c0 c1 c2'
            clear q0 q1 q2 q3 q4 q5
            go_upto_block 4 with (fail)
            go_wp2_with fail
            go_loopw [3, 7] (fun v3 v7 W => ∃ j : Nat, j ≤ xl.length ∧ v3 = .string ⟨((xl.take j).foldl linkL P1).toArray⟩ ∧ v7 = .int .i64 j ∧ Aside0 (RS w gx X W) ∧ Aside0 (W.heap[g6]? = some (.cells #[.int .i64 xa, .int .i64 xb, .slice A2 xl.length c2] 31 (0, 0)))) (fun _ v7 _ => xl.length - (intOf v7).toNat)
            case atStart => exact ⟨0, Nat.zero_le _, rfl, rfl, H4, G4⟩
            case round =>
              clear H4 G4
              obtain ⟨j, hj, rfl, rfl, HJ, GJ⟩ := hrel
              have c2' := blk_cell GJ.out 2
              simp at c2'
              by_cases hjt : j < xl.length
              · obtain ⟨ad2, ⟨⟨ya, hya⟩, ⟨yb, hyb⟩⟩, rfl, hy, d0, d1⟩ := at43 HC2.out hjt
                simp only at d0 d1
                have a0 := pw_cell_below HJ.out.2 d0
                have a1 := pw_cell_below HJ.out.2 d1
                have HIC := Aside0.mk hya
                have HID := Aside0.mk hyb
                have hp : ((xl.take j).foldl linkL P1).length ≤ 50000000 := Nat.le_trans (fold_part link_grow _ _ _) (by rw [← HSTEP.out]; exact HQ.out)
                have hne : (xl.take j).foldl linkL P1 ≠ [] := fold_ne link_grow _ HN1.out
                have HSJ : Aside0 ((xl.take (j + 1)).foldl linkL P1 = (xl.take j).foldl linkL P1 ++ [32] ++ it ya ++ [32] ++ it yb) := ⟨(fold_take hy).trans (link_ref _ hne)⟩
                obtain ⟨PJ, hPJ⟩ : ∃ P, (xl.take j).foldl linkL P1 = P := ⟨_, rfl⟩
                rw [hPJ] at hp HSJ ⊢
                have la := (it_len hya.1 hya.2).2
                have lb := (it_len hyb.1 hyb.2).2
                have q0 : ¬ 9223372036854775807 < PJ.length + 1 := by have := hp; omega
                have q1 : ¬ 9223372036854775807 < PJ.length + 1 + (it ya).length := by have := hp; omega
                have q2 : ¬ 9223372036854775807 < PJ.length + 1 + (it ya).length + 1 := by have := hp; omega
                have q3 : ¬ 9223372036854775807 < PJ.length + 1 + (it ya).length + 1 + (it yb).length := by have := hp; omega
                have HJT := Aside0.mk hjt
                have hj5 : (j : Int) ≤ 1000000000 := by have := HXL.out; omega
                clear d0 d1 hy hPJ hp hne la lb
                go_upto_region 16 with (fail)
                go_region_held3 (fun W => (W.cell? ⟨g6, 2, none⟩ = some (.slice (some ad2) xl.length c2) ∧ W.cell? (ad2.add (j * 2)) = some (.int .i64 ya) ∧ W.cell? ⟨(ad2.add (j * 2)).block, (ad2.add (j * 2)).off + 1, none⟩ = some (.int .i64 yb)) ∧ Aside0 (Below wr.heap.size wr W))
                  ((first | (with_reducible assumption) | exact ⟨⟨c2', a0, a1⟩, ⟨below_drew (Below.refl _ _)⟩⟩ | exact ⟨⟨c2', a0, a1⟩, ⟨Below.refl _ _⟩⟩))
                  (first
                    | (go_at_call 41; (with_reducible refine (digits_i ya HIC.out _).mono ?_); rintro e w6 ⟨rfl, hb⟩; have hS' := keep_three (by with_reducible assumption) hb)
                    | (go_at_call 41; (with_reducible refine (digits_i yb HID.out _).mono ?_); rintro e w6 ⟨rfl, hb⟩; have hS' := keep_three (by with_reducible assumption) hb))
                have H6 := Aside0.mk (HJ.out.below hS'.2.out)
                have G6 := Aside0.mk (blk_below GJ.out hS'.2.out)
                clear hS' c2' a0 a1 HJ GJ
                go_wp2
                go_roundw
                case rel => exact ⟨j + 1, HJT.out, by rw [HSJ.out]; simp only [cat_bytes], by go_num, H6, G6⟩
                case measure => have := HJT.out; simp [intOf]; omega
              · obtain rfl : j = xl.length := by omega
                rw [List.take_length, ← HSTEP.out]
                have hk5 : (k : Int) ≤ 1000000000 := by have := HBB.out; have := HLT.out; omega
                clear GJ
                go_wp2
                go_roundw
                case rel => exact ⟨k + 1, HLT.out, by rw [HNN.out], by go_num, HJ⟩
                case measure => have := HLT.out; simp [intOf]; omega
          · obtain rfl : k = bs.length := by omega
            rw [List.take_length, E2.out]
            go_wp2_with fail
            go_meet
            exact ⟨rfl, HK⟩
      case rest =>
        obtain ⟨rfl, HE0⟩ := hcut
        have HE := Aside0.mk HE0.out
        clear HE0 HD
        go_upto_block 6 with (fail)
        go_cut [3, 8] (fun v3 v8 wx => v3 = .string ⟨L3.toArray⟩ ∧ Aside0 (RS w gx X wx))
        case first =>
          go_wp2_with fail
          go_loopw [3, 8] (fun v3 v8 W => ∃ k : Nat, k ≤ ss.length ∧ v3 = .string ⟨((ss.take k).foldl nearL L2).toArray⟩ ∧ v8 = .int .i64 k ∧ Aside0 (RS w gx X W)) (fun _ v8 _ => ss.length - (intOf v8).toNat)
          case atStart => exact ⟨0, Nat.zero_le _, rfl, rfl, HE⟩
          case round =>
            clear HE
            obtain ⟨k, hk, rfl, rfl, HK⟩ := hrel
            have k4 := blk_cell HK.out.1 4
            rw [← HX.out] at k4
            simp at k4
            by_cases hlt : k < ss.length
            · obtain ⟨ad, ⟨⟨xa, hxa⟩, ⟨xb, hxb⟩, ⟨xc, hxc⟩, ⟨xd, hxd⟩, xh, xf, ⟨xg, hxg⟩, xt⟩, rfl, hx, b0', b1', b2', b3', b4', b5', b6', b7'⟩ := at85 HS.out hlt
              simp only at b0' b1' b2' b3' b4' b5' b6' b7'
              have a0 := pw_cell_below HK.out.2 b0'
              have a1 := pw_cell_below HK.out.2 b1'
              have a2 := pw_cell_below HK.out.2 b2'
              have a3 := pw_cell_below HK.out.2 b3'
              have a4 := pw_cell_below HK.out.2 b4'
              have a5 := pw_cell_below HK.out.2 b5'
              have a6 := pw_cell_below HK.out.2 b6'
              have a7 := pw_cell_below HK.out.2 b7'
              have HIA := Aside0.mk hxa
              have HIB := Aside0.mk hxb
              have HIC := Aside0.mk hxc
              have HIG := Aside0.mk hxg
              have hp : ((ss.take k).foldl nearL L2).length ≤ 50000000 := Nat.le_trans (fold_part near_grow _ _ _) (by rw [E3.out]; exact Q3.out)
              have hne : (ss.take k).foldl nearL L2 ≠ [] := fold_ne near_grow _ N2.out
              have hst : (ss.take (k + 1)).foldl nearL L2 = nearL ((ss.take k).foldl nearL L2) ⟨⟨xa, hxa⟩, ⟨xb, hxb⟩, ⟨xc, hxc⟩, ⟨xd, hxd⟩, xh, xf, ⟨xg, hxg⟩, xt⟩ := fold_take hx
              rw [near_ref _ hne] at hst
              simp only at hst
              obtain ⟨hw, hhw⟩ : ∃ hw, howL ⟨⟨xa, hxa⟩, ⟨xb, hxb⟩, ⟨xc, hxc⟩, ⟨xd, hxd⟩, xh, xf, ⟨xg, hxg⟩, xt⟩ = hw := ⟨_, rfl⟩
              have h5 : hw.length ≤ 6 := by rw [← hhw]; unfold howL; split <;> (try split) <;> decide
              rw [hhw] at hst
              have HHW : Aside0 (hw = if xf = true then [102, 117, 108, 108] else if xh = true then [104, 101, 97, 114, 100] else [115, 105, 108, 101, 110, 116]) := ⟨hhw.symm⟩
              obtain ⟨P, hP⟩ : ∃ P, (ss.take k).foldl nearL L2 = P := ⟨_, rfl⟩
              rw [hP] at hp hne hst ⊢
              have HSTEP := Aside0.mk hst
              have la := (it_len hxa.1 hxa.2).2
              have lb := (it_len hxb.1 hxb.2).2
              have lc := (it_len hxc.1 hxc.2).2
              have lg := (it_len hxg.1 hxg.2).2
              have q0 : ¬ 9223372036854775807 < P.length + 6 := by have := hp; omega
              have q1 : ¬ 9223372036854775807 < P.length + 6 + (it xa).length := by have := hp; omega
              have q2 : ¬ 9223372036854775807 < P.length + 6 + (it xa).length + 1 := by have := hp; omega
              have q3 : ¬ 9223372036854775807 < P.length + 6 + (it xa).length + 1 + (it xb).length := by have := hp; omega
              have q4 : ¬ 9223372036854775807 < P.length + 6 + (it xa).length + 1 + (it xb).length + 1 := by have := hp; omega
              have q5 : ¬ 9223372036854775807 < P.length + 6 + (it xa).length + 1 + (it xb).length + 1 + (it xc).length := by have := hp; omega
              have q6 : ¬ 9223372036854775807 < P.length + 6 + (it xa).length + 1 + (it xb).length + 1 + (it xc).length + 1 := by have := hp; omega
              have q7 : ¬ 9223372036854775807 < P.length + 6 + (it xa).length + 1 + (it xb).length + 1 + (it xc).length + 1 + hw.length := by have := hp; omega
              have q8 : ¬ 9223372036854775807 < P.length + 6 + (it xa).length + 1 + (it xb).length + 1 + (it xc).length + 1 + hw.length + 1 := by have := hp; omega
              have q9 : ¬ 9223372036854775807 < P.length + 6 + (it xa).length + 1 + (it xb).length + 1 + (it xc).length + 1 + hw.length + 1 + (it xg).length := by have := hp; omega
              have HLT := Aside0.mk hlt
              have hk5 : (k : Int) ≤ 1000000000 := by have := HSS.out; omega
              clear b0' b1' b2' b3' b4' b5' b6' b7' hx hP hp hne hst la lb lc lg hhw h5
              go_upto_region 21 with (fail)
              obtain ⟨g9, hg9⟩ : ∃ g9, wr.heap.size = g9 := ⟨_, rfl⟩
              rw [hg9]
              refine wp_world (fun W => Aside0 (RS w gx X W) ∧ Aside0 (W.heap[g9]? = some (.cells #[.int .i64 xa, .int .i64 xb, .int .i64 xc, .int .i64 xd, .bool xh, .bool xf, .int .i64 xg, .bool xt] 85 (0, 0)))) ⟨⟨HK.out.alloc _⟩, ⟨by subst hg9; exact blk_new _ _⟩⟩ ?_
              clear hg9 a0 a1 a2 a3 a4 a5 a6 a7 k4 HK
              rintro w5 ⟨HK, HG⟩
              have c4 := blk_cell HG.out 4
              have c5 := blk_cell HG.out 5
              simp at c4 c5
              go_upto_if 126 with (fail)
              go_cut [10] (fun v10 wx => v10 = .string ⟨(if xh = true then [104, 101, 97, 114, 100] else [115, 105, 108, 101, 110, 116] : List UInt8).toArray⟩ ∧ Aside0 (RS w gx X wx) ∧ Aside0 (wx.heap[g9]? = some (.cells #[.int .i64 xa, .int .i64 xb, .int .i64 xc, .int .i64 xd, .bool xh, .bool xf, .int .i64 xg, .bool xt] 85 (0, 0))))
              case first =>
                cases xh
                · go_wp2_with fail
                  go_meet
                  exact ⟨rfl, HK, HG⟩
                · go_wp2_with fail
                  go_meet
                  exact ⟨rfl, HK, HG⟩
              case rest =>
                obtain ⟨rfl, HK1, HG1⟩ := hcut
                clear c4 c5 HK HG
                have c5 := blk_cell HG1.out 5
                simp at c5
                go_upto_if 128 with (fail)
                go_cut [10] (fun v10 wx => v10 = .string ⟨hw.toArray⟩ ∧ Aside0 (RS w gx X wx) ∧ Aside0 (wx.heap[g9]? = some (.cells #[.int .i64 xa, .int .i64 xb, .int .i64 xc, .int .i64 xd, .bool xh, .bool xf, .int .i64 xg, .bool xt] 85 (0, 0))))
                case first =>
                  cases xf
                  · cases xh
                    · go_wp2_with fail
                      go_meet
                      exact ⟨by rw [HHW.out]; rfl, HK1, HG1⟩
                    · go_wp2_with fail
                      go_meet
                      exact ⟨by rw [HHW.out]; rfl, HK1, HG1⟩
                  · generalize (if xh = true then [104, 101, 97, 114, 100] else [115, 105, 108, 101, 110, 116] : List UInt8) = hz
                    go_wp2_with fail
                    go_meet
                    exact ⟨by rw [HHW.out]; rfl, HK1, HG1⟩
                case rest =>
                  obtain ⟨rfl, HK2, HG2⟩ := hcut
                  clear c5 HK1 HG1
                  have c0 := blk_cell HG2.out 0
                  have c1 := blk_cell HG2.out 1
                  have c2 := blk_cell HG2.out 2
                  have c6 := blk_cell HG2.out 6
                  simp at c0 c1 c2 c6
                  go_upto_region 26 with (fail)
                  go_region_held3 (fun W => (W.cell? ⟨g9, 0, none⟩ = some (.int .i64 xa) ∧ W.cell? ⟨g9, 1, none⟩ = some (.int .i64 xb) ∧ W.cell? ⟨g9, 2, none⟩ = some (.int .i64 xc) ∧ W.cell? ⟨g9, 6, none⟩ = some (.int .i64 xg)) ∧ Aside0 (Below wc.heap.size wc W))
                    ((first | (with_reducible assumption) | exact ⟨⟨c0, c1, c2, c6⟩, ⟨below_drew (Below.refl _ _)⟩⟩ | exact ⟨⟨c0, c1, c2, c6⟩, ⟨Below.refl _ _⟩⟩))
                    (first
                      | (go_at_call 41; (with_reducible refine (digits_i xa HIA.out _).mono ?_); rintro e w6 ⟨rfl, hb⟩; have hS' := keep_four (by with_reducible assumption) hb)
                      | (go_at_call 41; (with_reducible refine (digits_i xb HIB.out _).mono ?_); rintro e w6 ⟨rfl, hb⟩; have hS' := keep_four (by with_reducible assumption) hb)
                      | (go_at_call 41; (with_reducible refine (digits_i xc HIC.out _).mono ?_); rintro e w6 ⟨rfl, hb⟩; have hS' := keep_four (by with_reducible assumption) hb)
                      | (go_at_call 41; (with_reducible refine (digits_i xg HIG.out _).mono ?_); rintro e w6 ⟨rfl, hb⟩; have hS' := keep_four (by with_reducible assumption) hb))
                  have H6 := Aside0.mk (HK2.out.below hS'.2.out)
                  clear hS' c0 c1 c2 c6 HK2 HG2
                  go_wp2
                  go_roundw
                  case rel => exact ⟨k + 1, HLT.out, by rw [HSTEP.out]; simp only [cat_bytes], by go_num, H6⟩
                  case measure => have := HLT.out; simp [intOf]; omega
            · obtain rfl : k = ss.length := by omega
              rw [List.take_length, E3.out]
              go_wp2_with fail
              go_meet
              exact ⟨rfl, HK⟩
        case rest =>
          obtain ⟨rfl, HF⟩ := hcut
          have HB9 := Aside0.mk HF.out.2
          clear HF HE
          go_wp2
          go_ret
          exact ⟨rfl, HB9.out⟩
end Go.Proofs.YthimnnnfgangbaaDoor.Qr
