/- Contract of query.Line, for every input. -/
import Derived.Test.YthimnnnfgangbaaDoorQrL
set_option linter.unusedVariables false
set_option linter.unusedSimpArgs false
namespace Go.Proofs.YthimnnnfgangbaaDoor.Qr
open Go.RowKit Go.Proofs.YthimnnnfgangbaaDoorW.PrintWords Go.Proofs.YthimnnnfgangbaaDoorW.PrintLast Go.Proofs.YthimnnnfgangbaaDoorW.PrintMore
/-- The line that is being written, the reply's own copy beside it. -/
def LS (w : World) (gx b : Nat) (X : Array Value) (l : List UInt8) (W : World) : Prop := W.heap[gx]? = some (.cells X 27 (0, 0)) ∧ LN w.heap.size b l W ∧ Below w.heap.size w W
theorem LS.word {w : World} {gx b : Nat} {X : Array Value} {l : List UInt8} {W : World} (h : LS w gx b X l W) (s : List UInt8) (hl : l.length + s.length ≤ 1000000000) :
    Calls Tryd.prog 36 #[.pointer (some ⟨b, 0, none⟩), .string ⟨s.toArray⟩] W fun e W' => e = .returned (.tuple #[]) ∧ LS w gx b X (wd l s) W' ∧ Fr 80 W W' :=
  (word_calls w.heap.size b l s W h.2.1 h.2.2.size hl).mono (by
    rintro e W' ⟨he, h1, h2, h3⟩
    exact ⟨he, ⟨h3 gx _ 27 (by decide) (by decide) h.1, h1, h.2.2.trans h2⟩, h3⟩)
theorem LS.alloc {w : World} {gx b : Nat} {X : Array Value} {l : List UInt8} {W : World} (h : LS w gx b X l W) (o : Obj) : LS w gx b X l (W.alloc o) :=
  ⟨blk_alloc h.1 _, h.2.1.below (below_alloc (Below.refl _ _) _), below_alloc h.2.2 _⟩
theorem LS.below {w : World} {gx b : Nat} {X : Array Value} {l : List UInt8} {W W' : World} (h : LS w gx b X l W) (hb : Below W.heap.size W W') : LS w gx b X l W' :=
  ⟨blk_below h.1 hb, h.2.1.below hb, below_step h.2.2 hb⟩
theorem LS.nums {w : World} {gx b : Nat} {X : Array Value} {l : List UInt8} {W : World} (h : LS w gx b X l W) (ht : Tab w) (ns : List Int) (hl : l.length + 22 * ns.length ≤ 100000000) (hn : ∀ n ∈ ns, i64 n) (h0 : 0 < ns.length) :
    Calls Tryd.prog 37 #[.pointer (some ⟨b, 0, none⟩), .slice (some ⟨W.heap.size, 0, none⟩) ns.length ns.length] (W.alloc (.cells (ns.map fun n => Value.int .i64 n).toArray 3)) fun e W' => e = .returned (.tuple #[]) ∧ LS w gx b X (nw l ns) W' ∧ Fr 80 W W' :=
  (nums_calls w.heap.size b W.heap.size l ns _ (h.alloc _).2.1 (h.alloc _).2.2.size (tab_keep ht (h.alloc _).2.2 (tab_pos ht)) (tab_pos ht) hl hn (blk_new W _) h0).mono (by
    rintro e W' ⟨he, h1, h2, h3⟩
    have h4 := h.alloc (.cells (ns.map fun n => Value.int .i64 n).toArray 3)
    exact ⟨he, ⟨h3 gx _ 27 (by decide) (by decide) h4.1, h1, h4.2.2.trans h2⟩, fun k cs t e1 e2 e3 => h3 k cs t e1 e2 (blk_alloc e3 _)⟩)
theorem how39 (x : S85) (w : World) : Calls Tryd.prog 39 #[.agg #[.int .i64 x.a.1, .int .i64 x.b.1, .int .i64 x.c.1, .int .i64 x.d.1, .bool x.h, .bool x.f, .int .i64 x.g.1, .bool x.t]] w fun e w' => e = .returned (.string ⟨(howL x).toArray⟩) ∧ Below w.heap.size w w' := by
  obtain ⟨a, b, c, d, h, f, g, t⟩ := x
  cases f
  · cases h
    · go_enter Tryd.func39, Tryd.ntmps39
      go_wp2
      go_ret
      exact ⟨rfl, below_alloc (Below.refl _ _) _⟩
    · go_enter Tryd.func39, Tryd.ntmps39
      go_wp2
      go_ret
      exact ⟨rfl, below_alloc (Below.refl _ _) _⟩
  · go_enter Tryd.func39, Tryd.ntmps39
    go_wp2
    go_ret
    exact ⟨rfl, below_alloc (Below.refl _ _) _⟩
set_option maxHeartbeats 16000000 in
set_option maxRecDepth 100000 in
theorem line_calls (x : S27) (R B S : Option Addr) (rc bc sc : Nat) (w : World) (ht : Tab w) (hR : Kd.C k41 w R x.r.length x.r) (hB : Kd.C k31 w B x.b.length x.b) (hS : Kd.C k85 w S x.s.length x.s)
    (hrr : x.r.length ≤ 1000000000) (hbb : x.b.length ≤ 1000000000) (hss : x.s.length ≤ 1000000000) (hb : ∀ y ∈ x.b, y.l.length ≤ 1000000000) (hl : (lineL x).length ≤ 50000000) :
    Calls Tryd.prog 11 #[.agg #[.int .i64 x.e, .int .i64 x.n.1, .slice R x.r.length rc, .slice B x.b.length bc, .slice S x.s.length sc]] w fun e w' => e = .returned (.string ⟨(lineL x).toArray⟩) ∧ Below w.heap.size w w' := by
  have HT := Aside0.mk ht
  have HR := Aside0.mk hR
  have HB := Aside0.mk hB
  have HS := Aside0.mk hS
  have HBL := Aside0.mk hb
  have HRR := Aside0.mk hrr
  have HBB := Aside0.mk hbb
  have HSS := Aside0.mk hss
  have HLL := Aside0.mk hl
  have HNE := Aside0.mk (line_ne x)
  obtain ⟨e, ⟨n, hn⟩, rs, bs, ss⟩ := x
  have HN := Aside0.mk hn
  obtain ⟨L0, hL0⟩ : ∃ L, headL ⟨e, ⟨n, HN.out⟩, rs, bs, ss⟩ = L := ⟨_, rfl⟩
  obtain ⟨L1, hL1⟩ : ∃ L, rs.foldl routeL L0 = L := ⟨_, rfl⟩
  obtain ⟨L2, hL2⟩ : ∃ L, bs.foldl lsaL L1 = L := ⟨_, rfl⟩
  obtain ⟨L3, hL3⟩ : ∃ L, ss.foldl nearL L2 = L := ⟨_, rfl⟩
  have hlin : lineL ⟨e, ⟨n, HN.out⟩, rs, bs, ss⟩ = L3 := by unfold lineL; rw [hL0, hL1, hL2, hL3]
  have q3 : L3.length ≤ 50000000 := by rw [← hlin]; exact hl
  have q2 : L2.length ≤ 50000000 := Nat.le_trans (by rw [← hL3]; exact fold_grow near_grow _ _) q3
  have q1 : L1.length ≤ 50000000 := Nat.le_trans (by rw [← hL2]; exact fold_grow lsa_grow _ _) q2
  have Q1 := Aside0.mk q1
  have Q2 := Aside0.mk q2
  have Q3 := Aside0.mk q3
  have E0 := Aside0.mk hL0
  have E1 := Aside0.mk hL1
  have E2 := Aside0.mk hL2
  have E3 := Aside0.mk hL3
  have HNE3 : Aside0 (L3 ≠ []) := ⟨by rw [← hlin]; exact HNE.out⟩
  rw [hlin]
  clear hL0 hL1 hL2 hL3 hlin q1 q2 q3 HNE HLL
  clear ht hR hB hS hb hl hrr hbb hss
  simp only at HR HB HS HBL HRR HBB HSS
  show Calls Tryd.prog 11 #[.agg #[.int .i64 e, .int .i64 n, .slice R rs.length rc, .slice B bs.length bc, .slice S ss.length sc]] w _
  go_enter Tryd.func11, Tryd.ntmps11
  go_upto_region 2 with (fail)
  obtain ⟨gx, hgx⟩ : ∃ gx, w.heap.size = gx := ⟨_, rfl⟩
  obtain ⟨b0, hb0⟩ : ∃ b0, w.heap.size + 1 = b0 := ⟨_, rfl⟩
  rw [hb0, hgx]
  obtain ⟨X, hX⟩ : ∃ X : Array Value, #[Value.int .i64 e, .int .i64 n, .slice R rs.length rc, .slice B bs.length bc, .slice S ss.length sc] = X := ⟨_, rfl⟩
  have HX := Aside0.mk hX
  refine wp_world (fun W => Aside0 (LS w gx b0 X [] W)) ⟨⟨by subst hgx; subst hX; exact blk_alloc (blk_new w _) _, by
    have h := LN.fresh (B := w.heap.size) (w := w.alloc (.cells #[.int .i64 e, .int .i64 n, .slice R rs.length rc, .slice B bs.length bc, .slice S ss.length sc] 27)) (by simp)
    rw [show (w.alloc (.cells #[.int .i64 e, .int .i64 n, .slice R rs.length rc, .slice B bs.length bc, .slice S ss.length sc] 27)).heap.size = b0 by simp; omega] at h
    exact h, below_alloc (below_alloc (Below.refl _ _) _) _⟩⟩ ?_
  clear hgx hb0 hX
  rintro w1 HL
  have k0 := blk_cell HL.out.1 0
  rw [← HX.out] at k0
  simp at k0
  go_wp2_with fail
  refine (word13 e _).mono ?_
  rintro e w2 ⟨rfl, hb⟩
  have HL2 := Aside0.mk (HL.out.below hb)
  clear hb HL k0
  go_wp2_with fail
  refine (HL2.out.word (wordL e) (by have := wordL_len e; simp; omega)).mono ?_
  rintro e' w3 ⟨rfl, hls, hf⟩
  have HL3 := Aside0.mk hls
  clear hls hf HL2
  have k1 := blk_cell HL3.out.1 1
  rw [← HX.out] at k1
  simp at k1
  have HH : Aside0 ((wd [] (wordL e)).length ≤ 100) := ⟨by have := wd_length [] (wordL e); have := wordL_len e; simp at *; omega⟩
  go_upto_if 18 with (fail)
  go_cut [] (fun wx => Aside0 (LS w gx b0 X L0 wx))
  case first =>
    by_cases h0 : n = 0
    · have HZ : Aside0 (L0 = wd [] (wordL e)) := ⟨by rw [← E0.out]; unfold headL; rw [if_pos h0]⟩
      go_wp2_with fail
      go_meet
      exact ⟨by rw [HZ.out]; exact HL3.out⟩
    · have HZ : Aside0 (L0 = nw (wd (wd [] (wordL e)) [110]) [n]) := ⟨by rw [← E0.out]; unfold headL; rw [if_neg h0]⟩
      go_wp2_with fail
      refine (HL3.out.word [110] (by have := HH.out; simp; omega)).mono ?_
      rintro e' w4 ⟨rfl, hls, hf⟩
      have HL4 := Aside0.mk hls
      clear hls hf k1
      have k1 := blk_cell HL4.out.1 1
      rw [← HX.out] at k1
      simp at k1
      go_wp2_with fail
      refine (HL4.out.nums HT.out [n] (by have := HH.out; have := wd_length (wd [] (wordL e)) [110]; simp at *; omega) (one_i64 HN.out) (by simp)).mono ?_
      rintro e' w5 ⟨rfl, hls, hf⟩
      have HL5 := Aside0.mk hls
      clear hls hf k1
      go_wp2_with fail
      go_meet
      exact ⟨by rw [HZ.out]; exact HL5.out⟩
  case rest =>
    have HC := Aside0.mk hcut.out
    clear hcut HL3 HH k1
    have k2 := blk_cell HC.out.1 2
    rw [← HX.out] at k2
    simp at k2
    go_upto_block 0 with (fail)
    go_cut [] (fun wx => Aside0 (LS w gx b0 X L1 wx))
    case first =>
      go_wp2_with fail
      go_loopw [27] (fun v27 W => ∃ k : Nat, k ≤ rs.length ∧ v27 = .int .i64 k ∧ Aside0 (LS w gx b0 X ((rs.take k).foldl routeL L0) W)) (fun v27 _ => rs.length - (intOf v27).toNat)
      case atStart => exact ⟨0, Nat.zero_le _, rfl, HC⟩
      case round =>
        clear HC k2
        obtain ⟨k, hk, rfl, HK⟩ := hrel
        by_cases hlt : k < rs.length
        · obtain ⟨ad, ⟨⟨xa, hxa⟩, ⟨xb, hxb⟩, ⟨xc, hxc⟩⟩, rfl, hx, b0', b1', b2'⟩ := at41 HR.out hlt
          simp only at b0' b1' b2'
          have a0 := pw_cell_below HK.out.2.2 b0'
          have a1 := pw_cell_below HK.out.2.2 b1'
          have a2 := pw_cell_below HK.out.2.2 b2'
          have HI2 := Aside0.mk (two_i64 hxa hxb)
          have HU := Aside0.mk hxc
          have HP : Aside0 (((rs.take k).foldl routeL L0).length ≤ 50000000) := ⟨Nat.le_trans (fold_part route_grow _ _ _) (by rw [E1.out]; exact Q1.out)⟩
          have HSTEP : Aside0 ((rs.take (k + 1)).foldl routeL L0 = wd (nw (wd ((rs.take k).foldl routeL L0) [114, 111, 117, 116, 101]) [xa, xb]) (dd xc)) := ⟨fold_take hx⟩
          obtain ⟨P, hP⟩ : ∃ P, (rs.take k).foldl routeL L0 = P := ⟨_, rfl⟩
          rw [hP] at HK HP HSTEP
          have HLT := Aside0.mk hlt
          have hk5 : (k : Int) ≤ 1000000000 := by have := HRR.out; omega
          clear b0' b1' b2' hx hxa hxb hxc hP
          go_wp2_with fail
          refine ((HK.out.alloc _).word [114, 111, 117, 116, 101] (by have := HP.out; simp; omega)).mono ?_
          rintro e' w4 ⟨rfl, hls, hf⟩
          have H4 := Aside0.mk hls
          have G4 := Aside0.mk (hf _ _ 41 (by decide) (by decide) (blk_new _ _))
          clear hls hf HK a0 a1 a2
          have c0 := blk_cell G4.out 0
          have c1 := blk_cell G4.out 1
          simp at c0 c1
          have HP4 : Aside0 ((wd P [114, 111, 117, 116, 101]).length ≤ 50000010) := ⟨by have := HP.out; have := wd_length P [114, 111, 117, 116, 101]; simp at this; omega⟩
          clear HP
          go_wp2_with fail
          refine (H4.out.nums HT.out [xa, xb] (by have := HP4.out; simp; omega) HI2.out (by simp)).mono ?_
          rintro e' w5 ⟨rfl, hls, hf⟩
          have H5 := Aside0.mk hls
          have G5 := Aside0.mk (hf _ _ 41 (by decide) (by decide) G4.out)
          have HP5 : Aside0 ((nw (wd P [114, 111, 117, 116, 101]) [xa, xb]).length ≤ 50000060) := ⟨by have := HP4.out; have := nw_length HI2.out (wd P [114, 111, 117, 116, 101]); simp at this; omega⟩
          clear hls hf c0 c1 H4 G4 HP4
          have c2 := blk_cell G5.out 2
          simp at c2
          go_wp2_with fail
          refine (fmtu_calls xc HU.out _ (tab_keep HT.out H5.out.2.2 (tab_pos HT.out))).mono ?_
          rintro e' w6 ⟨rfl, hb⟩
          have H6 := Aside0.mk (H5.out.below hb)
          clear hb c2 H5 G5
          go_wp2_with fail
          refine (H6.out.word (dd xc) (by have := HP5.out; have := (dd_len HU.out).2; omega)).mono ?_
          rintro e' w7 ⟨rfl, hls, hf⟩
          have H7 := Aside0.mk hls
          clear hls hf H6
          go_wp2
          go_roundw
          case rel => exact ⟨k + 1, HLT.out, by go_num, ⟨by rw [HSTEP.out]; exact H7.out⟩⟩
          case measure => have := HLT.out; simp [intOf]; omega
        · obtain rfl : k = rs.length := by omega
          have HK2 : Aside0 (LS w gx b0 X L1 wr) := ⟨by have := HK.out; rw [List.take_length, E1.out] at this; exact this⟩
          clear HK
          go_wp2_with fail
          go_meet
          exact HK2
    case rest =>
      have HD := Aside0.mk hcut.out
      clear hcut HC k2
      have k3 := blk_cell HD.out.1 3
      rw [← HX.out] at k3
      simp at k3
      go_upto_block 2 with (fail)
      go_cut [] (fun wx => Aside0 (LS w gx b0 X L2 wx))
      case first =>
        go_wp2_with fail
        go_loopw [46] (fun v46 W => ∃ k : Nat, k ≤ bs.length ∧ v46 = .int .i64 k ∧ Aside0 (LS w gx b0 X ((bs.take k).foldl lsaL L1) W)) (fun v46 _ => bs.length - (intOf v46).toNat)
        case atStart => exact ⟨0, Nat.zero_le _, rfl, HD⟩
        case round =>
          clear HD k3
          obtain ⟨k, hk, rfl, HK⟩ := hrel
          by_cases hlt : k < bs.length
          · obtain ⟨ad, ⟨⟨xa, hxa⟩, ⟨xb, hxb⟩, xl⟩, A2, c2, rfl, hx, b0', b1', b2', hl2, hC2⟩ := at31 HB.out hlt
            simp only at b0' b1' b2' hl2 hC2
            have a0 := pw_cell_below HK.out.2.2 b0'
            have a1 := pw_cell_below HK.out.2.2 b1'
            have a2 := pw_cell_below HK.out.2.2 b2'
            have hxl : xl.length ≤ 1000000000 := HBL.out _ (List.mem_of_getElem? hx)
            have HI3 := Aside0.mk (three_i64 hxa hxb (show i64 (xl.length : Int) by unfold i64; omega))
            have HC2 := Aside0.mk hC2
            have HXL := Aside0.mk hxl
            have HP : Aside0 (((bs.take k).foldl lsaL L1).length ≤ 50000000) := ⟨Nat.le_trans (fold_part lsa_grow _ _ _) (by rw [E2.out]; exact Q2.out)⟩
            have HSTEP : Aside0 ((bs.take (k + 1)).foldl lsaL L1 = xl.foldl linkL (nw (wd ((bs.take k).foldl lsaL L1) [108, 115, 97]) [xa, xb, (xl.length : Int)])) := ⟨fold_take hx⟩
            have HQ : Aside0 (((bs.take (k + 1)).foldl lsaL L1).length ≤ 50000000) := ⟨Nat.le_trans (fold_part lsa_grow _ _ _) (by rw [E2.out]; exact Q2.out)⟩
            obtain ⟨P, hP⟩ : ∃ P, (bs.take k).foldl lsaL L1 = P := ⟨_, rfl⟩
            rw [hP] at HK HP HSTEP
            obtain ⟨N, hN⟩ : ∃ N, (bs.take (k + 1)).foldl lsaL L1 = N := ⟨_, rfl⟩
            rw [hN] at HQ HSTEP
            have HNN := Aside0.mk hN
            have HLT := Aside0.mk hlt
            clear b0' b1' b2' hx hC2 hP hN hxa hxb
            go_wp2_with fail
            refine ((HK.out.alloc _).word [108, 115, 97] (by have := HP.out; simp; omega)).mono ?_
            rintro e' w4 ⟨rfl, hls, hf⟩
            have H4 := Aside0.mk hls
            have G4 := Aside0.mk (hf _ _ 31 (by decide) (by decide) (blk_new _ _))
            clear hls hf HK a0 a1 a2
            have c0 := blk_cell G4.out 0
            have c1 := blk_cell G4.out 1
            have c2' := blk_cell G4.out 2
            simp at c0 c1 c2'
            have HP4 : Aside0 ((wd P [108, 115, 97]).length ≤ 50000010) := ⟨by have := HP.out; have := wd_length P [108, 115, 97]; simp at this; omega⟩
            clear HP
            go_wp2_with fail
            refine (H4.out.nums HT.out [xa, xb, (xl.length : Int)] (by have := HP4.out; simp; omega) HI3.out (by simp)).mono ?_
            rintro e' w5 ⟨rfl, hls, hf⟩
            have H5 := Aside0.mk hls
            have G5 := Aside0.mk (hf _ _ 31 (by decide) (by decide) G4.out)
            clear hls hf c0 c1 c2' H4 G4
            obtain ⟨P1, hP1⟩ : ∃ P1, nw (wd P [108, 115, 97]) [xa, xb, (xl.length : Int)] = P1 := ⟨_, rfl⟩
            rw [hP1] at H5 HSTEP
            clear hP1 HP4
            have c2' := blk_cell G5.out 2
            simp at c2'
            go_wp2_with fail
            go_loopw [63] (fun v63 W => ∃ j : Nat, j ≤ xl.length ∧ v63 = .int .i64 j ∧ Aside0 (LS w gx b0 X ((xl.take j).foldl linkL P1) W)) (fun v63 _ => xl.length - (intOf v63).toNat)
            case atStart => exact ⟨0, Nat.zero_le _, rfl, H5⟩
            case round =>
              clear H5 G5 c2'
              obtain ⟨j, hj, rfl, HJ⟩ := hrel
              by_cases hjt : j < xl.length
              · obtain ⟨ad2, ⟨⟨ya, hya⟩, ⟨yb, hyb⟩⟩, rfl, hy, d0, d1⟩ := at43 HC2.out hjt
                simp only at d0 d1
                have a0 := pw_cell_below HJ.out.2.2 d0
                have a1 := pw_cell_below HJ.out.2.2 d1
                have HI2 := Aside0.mk (two_i64 hya hyb)
                have HPJ : Aside0 (((xl.take j).foldl linkL P1).length ≤ 50000000) := ⟨Nat.le_trans (fold_part link_grow _ _ _) (by rw [← HSTEP.out]; exact HQ.out)⟩
                have HSJ : Aside0 ((xl.take (j + 1)).foldl linkL P1 = nw ((xl.take j).foldl linkL P1) [ya, yb]) := ⟨fold_take hy⟩
                have HJT := Aside0.mk hjt
                have hj5 : (j : Int) ≤ 1000000000 := by have := HXL.out; omega
                clear d0 d1 hy hya hyb
                go_upto_region 21 with (fail)
                obtain ⟨g9, hg9⟩ : ∃ g9, wr.heap.size = g9 := ⟨_, rfl⟩
                rw [hg9]
                refine wp_world (fun W => Aside0 (LS w gx b0 X ((xl.take j).foldl linkL P1) W) ∧ Aside0 (W.heap[g9]? = some (.cells #[.int .i64 ya, .int .i64 yb] 43 (0, 0)))) ⟨⟨HJ.out.alloc _⟩, ⟨by subst hg9; exact blk_new _ _⟩⟩ ?_
                clear hg9 a0 a1 HJ
                rintro w7 ⟨H7, G7⟩
                have a0 := blk_cell G7.out 0
                have a1 := blk_cell G7.out 1
                simp at a0 a1
                go_wp2_with fail
                refine (H7.out.nums HT.out [ya, yb] (by have := HPJ.out; simp; omega) HI2.out (by simp)).mono ?_
                rintro e' w6 ⟨rfl, hls, hf⟩
                have H6 := Aside0.mk hls
                clear hls hf a0 a1 H7 G7
                go_wp2
                go_roundw
                case rel => exact ⟨j + 1, HJT.out, by go_num, ⟨by rw [HSJ.out]; exact H6.out⟩⟩
                case measure => have := HJT.out; simp [intOf]; omega
              · obtain rfl : j = xl.length := by omega
                have H6 : Aside0 (LS w gx b0 X N wr) := ⟨by have := HJ.out; rw [List.take_length, ← HSTEP.out] at this; exact this⟩
                have hk5 : (k : Int) ≤ 1000000000 := by have := HBB.out; have := HLT.out; omega
                clear HJ
                go_wp2
                go_roundw
                case rel => exact ⟨k + 1, HLT.out, by go_num, ⟨by rw [HNN.out]; exact H6.out⟩⟩
                case measure => have := HLT.out; simp [intOf]; omega
          · obtain rfl : k = bs.length := by omega
            have HK2 : Aside0 (LS w gx b0 X L2 wr) := ⟨by have := HK.out; rw [List.take_length, E2.out] at this; exact this⟩
            clear HK
            go_wp2_with fail
            go_meet
            exact HK2
      case rest =>
        have HE := Aside0.mk hcut.out
        clear hcut HD k3
        have k4 := blk_cell HE.out.1 4
        rw [← HX.out] at k4
        simp at k4
        go_upto_block 6 with (fail)
        go_cut [] (fun wx => Aside0 (LS w gx b0 X L3 wx))
        case first =>
          go_wp2_with fail
          go_loopw [78] (fun v78 W => ∃ k : Nat, k ≤ ss.length ∧ v78 = .int .i64 k ∧ Aside0 (LS w gx b0 X ((ss.take k).foldl nearL L2) W)) (fun v78 _ => ss.length - (intOf v78).toNat)
          case atStart => exact ⟨0, Nat.zero_le _, rfl, HE⟩
          case round =>
            clear HE k4
            obtain ⟨k, hk, rfl, HK⟩ := hrel
            by_cases hlt : k < ss.length
            · obtain ⟨ad, ⟨⟨xa, hxa⟩, ⟨xb, hxb⟩, ⟨xc, hxc⟩, ⟨xd, hxd⟩, xh, xf, ⟨xg, hxg⟩, xt⟩, rfl, hx, b0', b1', b2', b3', b4', b5', b6', b7'⟩ := at85 HS.out hlt
              simp only at b0' b1' b2' b3' b4' b5' b6' b7'
              have a0 := pw_cell_below HK.out.2.2 b0'
              have a1 := pw_cell_below HK.out.2.2 b1'
              have a2 := pw_cell_below HK.out.2.2 b2'
              have a3 := pw_cell_below HK.out.2.2 b3'
              have a4 := pw_cell_below HK.out.2.2 b4'
              have a5 := pw_cell_below HK.out.2.2 b5'
              have a6 := pw_cell_below HK.out.2.2 b6'
              have a7 := pw_cell_below HK.out.2.2 b7'
              have HI3 := Aside0.mk (three_i64 hxa hxb hxc)
              have HI1 := Aside0.mk (one_i64 hxg)
              have HHOW : ∀ W, Calls Tryd.prog 39 #[.agg #[.int .i64 xa, .int .i64 xb, .int .i64 xc, .int .i64 xd, .bool xh, .bool xf, .int .i64 xg, .bool xt]] W fun e w' => e = .returned (.string ⟨(howL ⟨⟨xa, hxa⟩, ⟨xb, hxb⟩, ⟨xc, hxc⟩, ⟨xd, hxd⟩, xh, xf, ⟨xg, hxg⟩, xt⟩).toArray⟩) ∧ Below W.heap.size W w' := how39 ⟨⟨xa, hxa⟩, ⟨xb, hxb⟩, ⟨xc, hxc⟩, ⟨xd, hxd⟩, xh, xf, ⟨xg, hxg⟩, xt⟩
              have HP : Aside0 (((ss.take k).foldl nearL L2).length ≤ 50000000) := ⟨Nat.le_trans (fold_part near_grow _ _ _) (by rw [E3.out]; exact Q3.out)⟩
              have HSTEP : Aside0 ((ss.take (k + 1)).foldl nearL L2 = nw (wd (nw (wd ((ss.take k).foldl nearL L2) [110, 101, 97, 114]) [xa, xb, xc]) (howL ⟨⟨xa, hxa⟩, ⟨xb, hxb⟩, ⟨xc, hxc⟩, ⟨xd, hxd⟩, xh, xf, ⟨xg, hxg⟩, xt⟩)) [xg]) := ⟨fold_take hx⟩
              obtain ⟨hw, hhw⟩ : ∃ hw, howL ⟨⟨xa, hxa⟩, ⟨xb, hxb⟩, ⟨xc, hxc⟩, ⟨xd, hxd⟩, xh, xf, ⟨xg, hxg⟩, xt⟩ = hw := ⟨_, rfl⟩
              have h5 : hw.length ≤ 6 := by rw [← hhw]; unfold howL; split <;> (try split) <;> decide
              have HHL := Aside0.mk h5
              rw [hhw] at HHOW HSTEP
              have HHW := Aside0.mk HHOW
              obtain ⟨P, hP⟩ : ∃ P, (ss.take k).foldl nearL L2 = P := ⟨_, rfl⟩
              rw [hP] at HK HP HSTEP
              have HLT := Aside0.mk hlt
              have hk5 : (k : Int) ≤ 1000000000 := by have := HSS.out; omega
              clear b0' b1' b2' b3' b4' b5' b6' b7' hx hP HHOW hhw h5 hxa hxb hxc hxd hxg
              go_wp2_with fail
              refine ((HK.out.alloc _).word [110, 101, 97, 114] (by have := HP.out; simp; omega)).mono ?_
              rintro e' w4 ⟨rfl, hls, hf⟩
              have H4 := Aside0.mk hls
              have G4 := Aside0.mk (hf _ _ 85 (by decide) (by decide) (blk_new _ _))
              clear hls hf HK a0 a1 a2 a3 a4 a5 a6 a7
              have c0 := blk_cell G4.out 0
              have c1 := blk_cell G4.out 1
              have c2 := blk_cell G4.out 2
              simp at c0 c1 c2
              have HP4 : Aside0 ((wd P [110, 101, 97, 114]).length ≤ 50000010) := ⟨by have := HP.out; have := wd_length P [110, 101, 97, 114]; simp at this; omega⟩
              clear HP
              go_wp2_with fail
              refine (H4.out.nums HT.out [xa, xb, xc] (by have := HP4.out; simp; omega) HI3.out (by simp)).mono ?_
              rintro e' w5 ⟨rfl, hls, hf⟩
              have H5 := Aside0.mk hls
              have G5 := Aside0.mk (hf _ _ 85 (by decide) (by decide) G4.out)
              have HP5 : Aside0 ((nw (wd P [110, 101, 97, 114]) [xa, xb, xc]).length ≤ 50000080) := ⟨by have := HP4.out; have := nw_length HI3.out (wd P [110, 101, 97, 114]); simp at this; omega⟩
              clear hls hf c0 c1 c2 H4 G4 HP4
              have c0 := blk_cell G5.out 0
              have c1 := blk_cell G5.out 1
              have c2 := blk_cell G5.out 2
              have c3 := blk_cell G5.out 3
              have c4 := blk_cell G5.out 4
              have c5 := blk_cell G5.out 5
              have c6 := blk_cell G5.out 6
              have c7 := blk_cell G5.out 7
              simp at c0 c1 c2 c3 c4 c5 c6 c7
              go_wp2_with fail
              refine (HHW.out _).mono ?_
              rintro e' w6 ⟨rfl, hb⟩
              have H6 := Aside0.mk (H5.out.below hb)
              have G6 := Aside0.mk (blk_below G5.out hb)
              clear hb c0 c1 c2 c3 c4 c5 c6 c7 H5 G5
              go_wp2_with fail
              refine (H6.out.word hw (by have := HP5.out; have := HHL.out; omega)).mono ?_
              rintro e' w7 ⟨rfl, hls, hf⟩
              have H7 := Aside0.mk hls
              have G7 := Aside0.mk (hf _ _ 85 (by decide) (by decide) G6.out)
              have HP7 : Aside0 ((wd (nw (wd P [110, 101, 97, 114]) [xa, xb, xc]) hw).length ≤ 50000100) := ⟨by have := HP5.out; have := HHL.out; have := wd_length (nw (wd P [110, 101, 97, 114]) [xa, xb, xc]) hw; omega⟩
              clear hls hf H6 G6 HP5
              have c6 := blk_cell G7.out 6
              simp at c6
              go_wp2_with fail
              refine (H7.out.nums HT.out [xg] (by have := HP7.out; simp; omega) HI1.out (by simp)).mono ?_
              rintro e' w8 ⟨rfl, hls, hf⟩
              have H8 := Aside0.mk hls
              clear hls hf c6 H7 G7
              go_wp2
              go_roundw
              case rel => exact ⟨k + 1, HLT.out, by go_num, ⟨by rw [HSTEP.out]; exact H8.out⟩⟩
              case measure => have := HLT.out; simp [intOf]; omega
            · obtain rfl : k = ss.length := by omega
              have HK2 : Aside0 (LS w gx b0 X L3 wr) := ⟨by have := HK.out; rw [List.take_length, E3.out] at this; exact this⟩
              clear HK
              go_wp2_with fail
              go_meet
              exact HK2
        case rest =>
          have HF := Aside0.mk hcut.out
          clear hcut HE k4
          go_wp2_with fail
          refine (string_calls 80 w.heap.size b0 _ _ HF.out.2.1 HNE3.out).mono ?_
          rintro e' w9 ⟨rfl, hb⟩
          have HB9 := Aside0.mk (HF.out.2.2.trans hb)
          clear hb
          go_wp2
          go_ret
          exact ⟨rfl, HB9.out⟩
end Go.Proofs.YthimnnnfgangbaaDoor.Qr
