/- Contracts of the reference's Address and Parse, for every text of bounded length. -/
import Derived.Test.YtagpkphehkfjgaaDoorPxM
set_option linter.unusedVariables false
set_option linter.unusedSimpArgs false
namespace Go.Proofs.YtagpkphehkfjgaaDoor.Px
open Go.RowKit Go.Proofs.YtagpkphehkfjgaaDoorW.PrintWords Go.Proofs.YtagpkphehkfjgaaDoorW.PrintLast Go.Proofs.YtagpkphehkfjgaaDoorW.PrintMore
theorem nstep_digits (l : List UInt8) (h : ∀ b ∈ l, 48 ≤ b.toNat ∧ b.toNat ≤ 57) : ∀ n, l.foldl nstep n = l.foldl (fun n b => 10 * n + (b.toNat - 48)) n := by
  induction l with
  | nil => intro n; rfl
  | cons b l ih =>
    intro n
    rw [List.foldl_cons, List.foldl_cons, ih (fun x hx => h x (List.mem_cons_of_mem _ hx))]
    congr 1
    unfold nstep
    rw [if_pos (h b (by simp))]
theorem rnum_dd {c n : Nat} (h : (dd n).length ≤ c) : rnum c (dd n) = n := by
  unfold rnum
  rw [List.take_of_length_le h, nstep_digits _ (dd_digits n)]
  exact val_dd n
/-- The address that the first four parts seem to be. -/
def av (ps : List (List UInt8)) (k : Nat) : Nat := base ((ps.take k).map fun w => rnum 4 w % 256)
theorem av_succ {ps : List (List UInt8)} {k : Nat} {x : List UInt8} (h : ps[k]? = some x) : av ps (k + 1) = av ps k * 256 + rnum 4 x % 256 := by
  unfold av
  rw [List.take_add_one, h]
  simp only [Option.toList_some, List.map_append, List.map_cons, List.map_nil]
  rw [base_snoc]
theorem av_lt (ps : List (List UInt8)) (k : Nat) : av ps k < 256 ^ k := by
  unfold av
  refine Nat.lt_of_lt_of_le (base_lt _ ?_) (Nat.pow_le_pow_right (by decide) (by simp; omega))
  intro n hn
  obtain ⟨w, _, rfl⟩ := List.mem_map.1 hn
  omega
theorem av_end (ps : List (List UInt8)) {k : Nat} (h : ps.length ≤ k) (hk : k ≤ 4) : av ps k = av ps 4 := by
  unfold av
  rw [List.take_of_length_le h, List.take_of_length_le (by omega)]
theorem av_dotted {a : Nat} (h : a < 4294967296) : av (pieces 46 (dotted a)) 4 = a := by
  rw [pieces_dotted]
  unfold av
  rw [List.take_of_length_le (by simp)]
  simp only [List.map_cons, List.map_nil]
  rw [rnum_dd (by have := dd_len3 (show a / 16777216 < 256 by omega); omega), rnum_dd (by have := dd_len3 (show a / 65536 % 256 < 256 by omega); omega), rnum_dd (by have := dd_len3 (show a / 256 % 256 < 256 by omega); omega), rnum_dd (by have := dd_len3 (show a % 256 < 256 by omega); omega)]
  show (((0 * 256 + a / 16777216 % 256) * 256 + a / 65536 % 256 % 256) * 256 + a / 256 % 256 % 256) * 256 + a % 256 % 256 = a
  omega
/-- What the reference's address reader answers. -/
def RD (l : List UInt8) (x : Nat) (ok : Bool) : Prop := (ok = true ∧ AD l x 0) ∨ (ok = false ∧ x = 0 ∧ AD l 0 2)
theorem rd_yes {l : List UInt8} (h : dotted (av (pieces 46 l) 4) = l) : RD l (av (pieces 46 l) 4) true := Or.inl ⟨rfl, Or.inl ⟨rfl, Nat.lt_of_lt_of_le (av_lt _ 4) (by decide), h.symm⟩⟩
theorem rd_no {l : List UInt8} (h : dotted (av (pieces 46 l) 4) ≠ l) : RD l 0 false := Or.inr ⟨rfl, rfl, Or.inr ⟨rfl, rfl, fun a ha e => h (by subst e; rw [av_dotted ha])⟩⟩
set_option maxHeartbeats 1600000 in
set_option maxRecDepth 100000 in
theorem raddress_calls (l : List UInt8) (w : World) (hl : l.length ≤ 100000) :
    Calls Tryd.prog 20 #[Sv l] w fun e w' => (∃ x ok, e = .returned (.tuple #[.int .u32 (x : Nat), .bool ok]) ∧ RD l x ok) ∧ Below w.heap.size w w' := by
  have HL := Aside0.mk hl
  clear hl
  go_enter Tryd.func20, Tryd.ntmps20
  go_wp2_with fail
  refine (rcut31_calls l 46 46 w HL.out rfl).mono ?_
  obtain ⟨ps, hps⟩ : ∃ ps, pieces 46 l = ps := ⟨_, rfl⟩
  have HPS := Aside0.mk hps
  have HNE : Aside0 (0 < ps.length) := ⟨by rw [← hps]; exact List.length_pos_iff.2 (pieces_ne 46 l)⟩
  have HPL : Aside0 (∀ x ∈ ps, x.length ≤ 100000) := ⟨fun x hx => by
    have := pieces_len 46 l x (by rw [hps]; exact hx)
    have := HL.out
    omega⟩
  rw [hps]
  clear hps
  rintro e w1 ⟨⟨v, rfl, hr⟩, hb⟩
  have HB := Aside0.mk hb
  obtain ⟨g, c, rfl, hc, hgl, hcell⟩ := rs_open hr HNE.out
  have HCELL := Aside0.mk hcell
  clear hb hr hc hgl hcell
  go_wp2
  go_loopw [5, 6] (fun v5 v6 W => ∃ k : Nat, k ≤ ps.length ∧ k ≤ 4 ∧ v5 = .int .u32 (av ps k : Nat) ∧ v6 = .int .i64 k ∧ Aside0 (w1 = W)) (fun _ v6 _ => 4 - (intOf v6).toNat)
  case atStart => exact ⟨0, by omega, by omega, rfl, rfl, ⟨rfl⟩⟩
  case round =>
    obtain ⟨k, hk, hk4, rfl, rfl, HW⟩ := hrel
    obtain rfl := HW.out
    by_cases h1 : k < ps.length
    · have d1 : decide ((k : Int) < (ps.length : Int)) = true := decide_eq_true (by omega)
      by_cases h2 : k < 4
      · have d2 : decide ((k : Int) < 4) = true := decide_eq_true (by omega)
        obtain ⟨x, hx⟩ : ∃ x, ps[k]? = some x := ⟨_, List.getElem?_eq_getElem h1⟩
        have hki : (k : Int) < (ps.length : Int) := by omega
        have c0 := HCELL.out k x hx
        have HX := Aside0.mk hx
        have HXL : Aside0 (x.length ≤ 100000) := ⟨HPL.out x (List.mem_of_getElem? hx)⟩
        clear hx
        go_wp2_with fail
        refine (rnumber_calls x _ HXL.out).mono ?_
        rintro e w2 ⟨rfl, rfl⟩
        go_wp2
        go_roundw
        case rel =>
          have hav := av_lt ps k
          have hpw : 256 ^ k ≤ 256 ^ 3 := Nat.pow_le_pow_right (by decide) (by omega)
          exact ⟨k + 1, by omega, by omega, by rw [av_succ HX.out]; congr 1; omega, by go_num, ⟨trivial⟩⟩
        case measure => simp [intOf]; omega
      · obtain rfl : k = 4 := by omega
        have d2 : True := trivial
        have HA4 : Aside0 (av ps 4 < 4294967296) := ⟨Nat.lt_of_lt_of_le (av_lt ps 4) (by decide)⟩
        go_wp2_with fail
        refine (rdotted_calls (av ps 4) _ HA4.out).mono ?_
        rintro e w3 ⟨rfl, hb⟩
        have HB3 := Aside0.mk (below_step HB.out hb)
        clear hb
        by_cases h3 : dotted (av ps 4) = l
        · have d3 : (dotted (av ps 4) == l) = true := beq_iff_eq.2 h3
          have d4 : (dotted (av ps 4) != l) = false := by rw [bne, d3]; rfl
          have HE : Aside0 (RD l (av ps 4) true) := ⟨by rw [← HPS.out] at h3 ⊢; exact rd_yes h3⟩
          clear h3
          go_wp2
          go_ret2
          exact ⟨⟨_, _, rfl, HE.out⟩, HB3.out⟩
        · have d3 : (dotted (av ps 4) == l) = false := beq_eq_false_iff_ne.2 h3
          have d4 : (dotted (av ps 4) != l) = true := by rw [bne, d3]; rfl
          have HE : Aside0 (RD l 0 false) := ⟨by rw [← HPS.out] at h3; exact rd_no h3⟩
          clear h3
          go_wp2
          go_ret2
          exact ⟨⟨0, _, rfl, HE.out⟩, HB3.out⟩
    · have d1 : decide ((k : Int) < (ps.length : Int)) = false := decide_eq_false (by omega)
      have HA4 : Aside0 (av ps 4 < 4294967296) := ⟨Nat.lt_of_lt_of_le (av_lt ps 4) (by decide)⟩
      rw [av_end ps (by omega) hk4]
      go_wp2_with fail
      refine (rdotted_calls (av ps 4) _ HA4.out).mono ?_
      rintro e w3 ⟨rfl, hb⟩
      have HB3 := Aside0.mk (below_step HB.out hb)
      clear hb
      by_cases h3 : dotted (av ps 4) = l
      · have d3 : (dotted (av ps 4) == l) = true := beq_iff_eq.2 h3
        have d4 : (dotted (av ps 4) != l) = false := by rw [bne, d3]; rfl
        have HE : Aside0 (RD l (av ps 4) true) := ⟨by rw [← HPS.out] at h3 ⊢; exact rd_yes h3⟩
        clear h3
        go_wp2
        go_ret2
        exact ⟨⟨_, _, rfl, HE.out⟩, HB3.out⟩
      · have d3 : (dotted (av ps 4) == l) = false := beq_eq_false_iff_ne.2 h3
        have d4 : (dotted (av ps 4) != l) = true := by rw [bne, d3]; rfl
        have HE : Aside0 (RD l 0 false) := ⟨by rw [← HPS.out] at h3; exact rd_no h3⟩
        clear h3
        go_wp2
        go_ret2
        exact ⟨⟨0, _, rfl, HE.out⟩, HB3.out⟩
/-- What the reference's prefix reader answers. -/
def RPD (l : List UInt8) (x n : Nat) (ok : Bool) : Prop := (ok = true ∧ PD l x n 0) ∨ (ok = false ∧ x = 0 ∧ n = 0 ∧ PD l 0 0 2)
theorem rpd_len {l : List UInt8} {ps : List (List UInt8)} (hps : pieces 47 l = ps) (h : ps.length ≠ 2) : RPD l 0 0 false := Or.inr ⟨rfl, rfl, rfl, Or.inr ⟨rfl, rfl, rfl, fun b m _ _ e => h (by rw [← hps, e, pieces_ptext]; rfl)⟩⟩
theorem two_parts {l x0 x1 : List UInt8} {b m : Nat} (hps : pieces 47 l = [x0, x1]) (e : l = ptext b m) : x0 = dotted b ∧ x1 = dd m := by
  rw [e, pieces_ptext] at hps
  injection hps with e1 t
  injection t with e2 _
  exact ⟨e1.symm, e2.symm⟩
theorem rpd_addr {l x0 x1 : List UInt8} (hps : pieces 47 l = [x0, x1]) (h : AD x0 0 2) : RPD l 0 0 false := Or.inr ⟨rfl, rfl, rfl, Or.inr ⟨rfl, rfl, rfl, fun b m hb _ e => by
  rcases h with ⟨h, _⟩ | ⟨_, _, h⟩
  · cases h
  · exact h b hb (two_parts hps e).1⟩⟩
theorem two_nums {l x0 x1 : List UInt8} {a b m : Nat} (hps : pieces 47 l = [x0, x1]) (h : AD x0 a 0) (hm : May b m) (e : l = ptext b m) : a = b ∧ rnum 4 x1 = m := by
  obtain ⟨e1, e2⟩ := two_parts hps e
  rcases h with ⟨_, _, h⟩ | ⟨h, _⟩
  · refine ⟨dotted_inj (h.symm.trans e1), ?_⟩
    rw [e2]
    exact rnum_dd (by have := dd_len2 (u := m) (by have := hm.2.1; omega); omega)
  · cases h
theorem rpd_may {l x0 x1 : List UInt8} {a : Nat} (hps : pieces 47 l = [x0, x1]) (h : AD x0 a 0) (hn : ¬ May a (rnum 4 x1 : Nat)) : RPD l 0 0 false := Or.inr ⟨rfl, rfl, rfl, Or.inr ⟨rfl, rfl, rfl, fun b m hb hm e => by
  obtain ⟨e1, e2⟩ := two_nums hps h hm e
  rw [e1, e2] at hn
  exact hn hm⟩⟩
theorem rpd_text {l x0 x1 : List UInt8} {a : Nat} (hps : pieces 47 l = [x0, x1]) (h : AD x0 a 0) (ht : ptext a (rnum 4 x1) ≠ l) : RPD l 0 0 false := Or.inr ⟨rfl, rfl, rfl, Or.inr ⟨rfl, rfl, rfl, fun b m hb hm e => by
  obtain ⟨e1, e2⟩ := two_nums hps h hm e
  rw [e1, e2] at ht
  exact ht e.symm⟩⟩
theorem rpd_ok {l : List UInt8} {a n : Nat} (ha : a < 4294967296) (hm : May a n) (ht : ptext a n = l) : RPD l a n true := Or.inl ⟨rfl, Or.inl ⟨rfl, ha, hm, ht.symm⟩⟩
theorem rd_lt {l : List UInt8} {x : Nat} {ok : Bool} (h : RD l x ok) : x < 4294967296 := by rcases h with ⟨_, h⟩ | ⟨_, rfl, _⟩; exact ad_lt h; omega
set_option maxHeartbeats 1600000 in
set_option maxRecDepth 100000 in
theorem rparse_calls (l : List UInt8) (w : World) (hl : l.length ≤ 100000) :
    Calls Tryd.prog 19 #[Sv l] w fun e w' => (∃ x n ok, e = .returned (.tuple #[pv x (n : Nat), .bool ok]) ∧ RPD l x n ok) ∧ Below w.heap.size w w' := by
  have HL := Aside0.mk hl
  clear hl
  go_enter Tryd.func19, Tryd.ntmps19
  go_upto_region 1 with (fail)
  obtain ⟨gr, hgr⟩ : ∃ gr, w.heap.size = gr := ⟨_, rfl⟩
  rw [hgr]
  refine wp_world (fun W => W.heap[gr]? = some (.cells #[.int .u32 (0 : Nat), .int .i64 0] 24 (0, 0)) ∧ w.heap.size ≤ gr ∧ Below w.heap.size w W) (by
    subst hgr
    exact ⟨blk_new w _, Nat.le_refl _, below_alloc (Below.refl _ _) _⟩) ?_
  clear hgr
  rintro w1 ⟨h1, h2, h4⟩
  have HBR := Aside0.mk h1
  have HGE := Aside0.mk h2
  have HB := Aside0.mk h4
  clear h1 h2 h4
  go_wp2_with fail
  refine (rcut31_calls l 47 47 w1 HL.out rfl).mono ?_
  obtain ⟨ps, hps⟩ : ∃ ps, pieces 47 l = ps := ⟨_, rfl⟩
  have HPS := Aside0.mk hps
  have HNE : Aside0 (0 < ps.length) := ⟨by rw [← hps]; exact List.length_pos_iff.2 (pieces_ne 47 l)⟩
  have HPL : Aside0 (∀ x ∈ ps, x.length ≤ 100000) := ⟨fun x hx => by
    have := pieces_len 47 l x (by rw [hps]; exact hx)
    have := HL.out
    omega⟩
  rw [hps]
  clear hps
  rintro e w2 ⟨⟨v, rfl, hr⟩, hb⟩
  have HB2 := Aside0.mk (below_step HB.out hb)
  have HBR2 := Aside0.mk (blk_below HBR.out hb)
  obtain ⟨g, c, rfl, hc, hgl, hcell⟩ := rs_open hr HNE.out
  have HCELL := Aside0.mk hcell
  clear hb hr hc hgl hcell HBR HB
  by_cases hlen : ps.length = 2
  · have hq : ((ps.length : Int) != 2) = false := by rw [hlen]; rfl
    obtain ⟨x0, x1, rfl⟩ : ∃ x0 x1, ps = [x0, x1] := by
      match ps, hlen with
      | [x0, x1], _ => exact ⟨x0, x1, rfl⟩
    have c0 := HCELL.out 0 x0 rfl
    have c1 := HCELL.out 1 x1 rfl
    have hL2 : (([x0, x1].length : Nat) : Int) = 2 := rfl
    have HX0 : Aside0 (x0.length ≤ 100000) := ⟨HPL.out x0 (by simp)⟩
    have HX1 : Aside0 (x1.length ≤ 100000) := ⟨HPL.out x1 (by simp)⟩
    clear hlen hq
    go_wp2_with fail
    refine (raddress_calls x0 w2 HX0.out).mono ?_
    rintro e w3 ⟨⟨a, ok, rfl, had⟩, hb⟩
    have HAD := Aside0.mk had
    have HB3 := Aside0.mk (below_step HB2.out hb)
    have HBR3 := Aside0.mk (blk_below HBR2.out hb)
    have d1 := pw_cell_below hb c1
    clear hb HB2 HBR2 c0 c1 had HCELL
    go_wp2_with fail
    refine (rnumber_calls x1 w3 HX1.out).mono ?_
    rintro e w4 ⟨rfl, rfl⟩
    obtain ⟨n, hn⟩ : ∃ n, rnum 4 x1 = n := ⟨_, rfl⟩
    have HN := Aside0.mk hn
    have HN4 : Aside0 (n < 10000) := ⟨by rw [← hn]; exact rnum_lt x1 4⟩
    rw [hn]
    clear hn d1
    go_upto_region 6 with (fail)
    obtain ⟨gp, hgp⟩ : ∃ gp, w3.heap.size = gp := ⟨_, rfl⟩
    rw [hgp]
    refine wp_world (K2 w gp gr a n) (by
      have h1 := blk_lt HBR3.out
      have h2 := HB3.out.size
      subst hgp
      exact ⟨blk_new w3 _, blk_alloc HBR3.out _, by omega, HGE.out, h2, below_alloc HB3.out _⟩) ?_
    clear hgp HBR3 HB3
    intro w5 hk
    have HK := Aside0.mk hk
    clear hk
    rcases HAD.out with ⟨rfl, had⟩ | ⟨rfl, rfl, had⟩
    · have HA4 : Aside0 (a < 4294967296) := ⟨ad_lt had⟩
      by_cases hm : May a n
      · have HM : Aside0 (decide (May a n) = true) := ⟨decide_eq_true hm⟩
        have HMM := Aside0.mk hm
        have HADD := Aside0.mk had
        clear hm had HAD
        obtain ⟨k0, k1, r0, r1, f0, f1⟩ := K2.cell HK.out
        go_wp2_with fail
        refine (rmay_calls a n _ HA4.out).mono ?_
        rw [HM.out]
        rintro e w6 ⟨rfl, hb⟩
        have HK6 := Aside0.mk (HK.out.below hb)
        clear hb HK k0 k1 r0 r1 f0 f1
        obtain ⟨k0, k1, r0, r1, f0, f1⟩ := K2.cell HK6.out
        go_wp2_with fail
        refine (rtext_calls a n _ HA4.out (by have := HN4.out; omega)).mono ?_
        rintro e w7 ⟨rfl, hb⟩
        have HK7 := Aside0.mk (HK6.out.below hb)
        clear hb HK6 k0 k1 r0 r1 f0 f1
        by_cases ht : ptext a n = l
        · have d3 : (ptext a n == l) = true := beq_iff_eq.2 ht
          have d4 : (ptext a n != l) = false := by rw [bne, d3]; rfl
          have HE := Aside0.mk (rpd_ok HA4.out HMM.out ht)
          clear ht
          obtain ⟨k0, k1, r0, r1, f0, f1⟩ := K2.cell HK7.out
          go_wp2
          refine bodyPost_ret (results_ct rfl _ _ gr 24 #[.int .u32 (a : Nat), .int .i64 n] (0, 0) _ rfl (K2.end HK7.out a n).1 Tryd.underlying24 rfl (by kernel_rfl)) rfl ?_
          exact ⟨⟨a, n, _, rfl, HE.out⟩, (K2.end HK7.out a n).2⟩
        · have d3 : (ptext a n == l) = false := beq_eq_false_iff_ne.2 ht
          have d4 : (ptext a n != l) = true := by rw [bne, d3]; rfl
          have HE := Aside0.mk (rpd_text HPS.out HADD.out (by rw [HN.out]; exact ht))
          clear ht
          obtain ⟨k0, k1, r0, r1, f0, f1⟩ := K2.cell HK7.out
          go_wp2
          refine bodyPost_ret (results_ct rfl _ _ gr 24 #[.int .u32 (0 : Nat), .int .i64 0] (0, 0) _ rfl (K2.end HK7.out 0 0).1 Tryd.underlying24 rfl (by kernel_rfl)) rfl ?_
          exact ⟨⟨0, 0, _, rfl, HE.out⟩, (K2.end HK7.out 0 0).2⟩
      · have HM : Aside0 (decide (May a n) = false) := ⟨decide_eq_false hm⟩
        have HE := Aside0.mk (rpd_may HPS.out had (by rw [HN.out]; exact hm))
        clear hm had HAD
        obtain ⟨k0, k1, r0, r1, f0, f1⟩ := K2.cell HK.out
        go_wp2_with fail
        refine (rmay_calls a n _ HA4.out).mono ?_
        rw [HM.out]
        rintro e w6 ⟨rfl, hb⟩
        have HK6 := Aside0.mk (HK.out.below hb)
        clear hb HK k0 k1 r0 r1 f0 f1
        obtain ⟨k0, k1, r0, r1, f0, f1⟩ := K2.cell HK6.out
        go_wp2
        refine bodyPost_ret (results_ct rfl _ _ gr 24 #[.int .u32 (0 : Nat), .int .i64 0] (0, 0) _ rfl (K2.end HK6.out 0 0).1 Tryd.underlying24 rfl (by kernel_rfl)) rfl ?_
        exact ⟨⟨0, 0, _, rfl, HE.out⟩, (K2.end HK6.out 0 0).2⟩
    · have HE := Aside0.mk (rpd_addr HPS.out had)
      clear had HAD
      obtain ⟨k0, k1, r0, r1, f0, f1⟩ := K2.cell HK.out
      go_wp2
      refine bodyPost_ret (results_ct rfl _ _ gr 24 #[.int .u32 (0 : Nat), .int .i64 0] (0, 0) _ rfl (K2.end HK.out 0 0).1 Tryd.underlying24 rfl (by kernel_rfl)) rfl ?_
      exact ⟨⟨0, 0, _, rfl, HE.out⟩, (K2.end HK.out 0 0).2⟩
  · have hq : ((ps.length : Int) != 2) = true := by rw [bne_iff_ne]; omega
    have HE := Aside0.mk (rpd_len HPS.out hlen)
    clear hlen
    have r0 := pc0 HBR2.out
    have r1 := pc1 HBR2.out
    have f0 := blk_frozen HBR2.out 0
    have f1 := blk_frozen HBR2.out 1
    go_wp2
    refine bodyPost_ret (results_ct rfl _ _ gr 24 #[.int .u32 (0 : Nat), .int .i64 0] (0, 0) _ rfl (blk_put (blk_put HBR2.out 0 _ rfl) 1 _ rfl) Tryd.underlying24 rfl (by kernel_rfl)) rfl ?_
    exact ⟨⟨0, 0, _, rfl, HE.out⟩, (HB2.out.setCell (p := ⟨gr, 0, none⟩) HGE.out _).setCell (p := ⟨gr, 1, none⟩) HGE.out _⟩
end Go.Proofs.YtagpkphehkfjgaaDoor.Px
