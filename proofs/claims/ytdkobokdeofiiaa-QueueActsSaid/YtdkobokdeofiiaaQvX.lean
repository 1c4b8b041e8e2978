/- QueueActs, walked: for every input. -/
import Derived.Test.YtdkobokdeofiiaaQvT
set_option linter.unusedVariables false
set_option linter.unusedSimpArgs false
namespace Go.Proofs.Ytdkobokdeofiiaa.Qu
open Go.RowKit Go.Proofs.YtdkobokdeofiiaaW.PrintWords Go.Proofs.YtdkobokdeofiiaaW.PrintLast Go.Proofs.YtdkobokdeofiiaaW.PrintMore

/-- An act: what is done, with which text, at which place. -/
structure A78 where
  d : Int
  b : List Int
  n : Int
def k78 : Kd A78 := Kd.iso (Kd.pair (Kd.int .i64) (Kd.pair (Kd.slice 5 (Kd.int .u8)) (Kd.int .i64))) (fun x : A78 => (x.d, x.b, x.n))
theorem k78_open {w : World} {x : A78} {cs : List Value} (h : k78.K w x cs) : ∃ A c, cs = [.int .i64 x.d, .slice A x.b.length c, .int .i64 x.n] ∧ x.b.length ≤ c ∧ Kd.C kB w A x.b.length x.b := by
  obtain ⟨_, _, rfl, rfl, _, _, rfl, ⟨A, c, rfl, hl, hC⟩, rfl⟩ := h
  exact ⟨A, c, rfl, hl, hC⟩
theorem k78_mk (w : World) (x : A78) (A : Option Addr) (c : Nat) (hl : x.b.length ≤ c) (hC : Kd.C kB w A x.b.length x.b) : k78.K w x [.int .i64 x.d, .slice A x.b.length c, .int .i64 x.n] :=
  ⟨[.int .i64 x.d], [.slice A x.b.length c, .int .i64 x.n], rfl, rfl, ⟨[.slice A x.b.length c], [.int .i64 x.n], rfl, ⟨A, c, rfl, hl, hC⟩, rfl⟩⟩
theorem act_at {w : World} {A : Option Addr} {n : Nat} {xs : List A78} (h : Kd.C k78 w A n xs) {k : Nat} (hk : k < xs.length) (hn : n = xs.length) :
    ∃ ad x A0 c0, A = some ad ∧ xs[k]? = some x ∧ x.b.length ≤ c0 ∧ Kd.C kB w A0 x.b.length x.b ∧ w.cell? (ad.add (k * 3)) = some (.int .i64 x.d) ∧ w.cell? ⟨(ad.add (k * 3)).block, (ad.add (k * 3)).off + 1, none⟩ = some (.slice A0 x.b.length c0) ∧ w.cell? ⟨(ad.add (k * 3)).block, (ad.add (k * 3)).off + 2, none⟩ = some (.int .i64 x.n) := by
  obtain ⟨ad, c, e, _, hK, hc0⟩ := Kd.C_get h ⟨0, [], 0⟩ (k : Int) (by omega) (by omega)
  rw [show ((k : Int)).toNat = k from by omega] at hK hc0
  obtain ⟨x, hx⟩ : ∃ x, xs[k]? = some x := ⟨xs[k], List.getElem?_eq_getElem hk⟩
  have hg : xs.getD k ⟨0, [], 0⟩ = x := by rw [List.getD_eq_getElem?_getD, hx]; rfl
  rw [hg] at hK
  obtain ⟨A0, c0, rfl, hl, hC⟩ := k78_open hK
  exact ⟨ad, x, A0, c0, e, hx, hl, hC, hc0 0 _ rfl, by rw [← add_field _ _ 1 (by omega)]; exact hc0 1 _ rfl, by rw [← add_field _ _ 2 (by omega)]; exact hc0 2 _ rfl⟩

set_option maxHeartbeats 800000 in
set_option maxRecDepth 100000 in
theorem acts_long (A : Option Addr) (c : Nat) (as_ : List A78) (w : World) (h : 100 < as_.length) :
    Calls Try.prog 13 #[.slice A as_.length c] w fun e w' => e = .returned (.bool true) ∧ Below w.heap.size w w' := by
  have h1 : (100 : Int) < (as_.length : Int) := by omega
  clear h
  go_enter Try.func13, Try.ntmps13
  go_wp2_with fail
  refine (awake_calls _).mono ?_
  rintro e w1 ⟨rfl, hb⟩
  have HB := Aside0.mk hb
  clear hb
  go_wp2
  go_ret
  exact ⟨rfl, HB.out⟩

set_option maxHeartbeats 8000000 in
set_option maxRecDepth 100000 in
theorem acts_short (A : Option Addr) (c : Nat) (as_ : List A78) (w : World) (hC : Kd.C k78 w A as_.length as_) (h1 : as_.length ≤ 100) :
    Calls Try.prog 13 #[.slice A as_.length c] w fun e w' => e = .returned (.bool true) ∧ Below w.heap.size w w' := by
  have HC := Aside0.mk hC
  have HL := Aside0.mk h1
  have i1 : ¬ (100 : Int) < (as_.length : Int) := by omega
  clear hC h1
  go_enter Try.func13, Try.ntmps13
  go_wp2_with fail
  refine (new_calls w).mono ?_
  rintro e w1 ⟨g, rfl, hg, hq, hb⟩
  have HQ := Aside0.mk hq
  have HB := Aside0.mk hb
  clear hg hq hb
  go_wp2_with (first | ((with_reducible refine gate_dst (N := 20) rfl ?_); refine Kd.N_lit kT (w0 := w1) w1.heap.size 23 ?hg (N' := 20) ?hd (xs := ([] : List (List Int))) (inner := []) (ok := fun k => w1.heap.size ≤ k) (okp := fun _ => False) ?hr ?hp (fun _ hk => hk.elim) (Nat.le_refl _) (Below.refl _ _) (Nat.le_refl _) (by simp) ?_; (case hd => rfl); (case hg => rfl); (case hr => first | (go_simp; done) | (go_simp; rfl)); (case hp => exact (Reps.none _ _)); intro v5 w5 ho5 hb5 hg5 hnew5; have HO5 := Aside0.mk ho5; have HB5 := Aside0.mk hb5; clear ho5 hb5 hg5 hnew5))
  have HT : Aside0 (Two w.heap.size w5 g v5 []) := ⟨⟨_, _, _, ⟨HQ.out.below HB5.out, Kd.N_lower HO5.out HB.out.size, fun k hk => by have := blk_lt HQ.out.1; omega, fun k _ => by simp [Value.ownBlock], fun k hk => hk.elim⟩, by simp, by simp⟩⟩
  have HB1 := Aside0.mk (below_step HB.out HB5.out)
  go_loopw [4, 5] (fun v4 v5 W => ∃ (k : Nat) (xs : List (List Int)), v5 = .int .i64 k ∧ Aside0 (k ≤ as_.length) ∧ Aside0 (Two w.heap.size W g v4 xs) ∧ Aside0 (Below w.heap.size w W)) (fun _ v5 _ => as_.length - (intOf v5).toNat)
  case atStart => exact ⟨0, [], rfl, ⟨Nat.zero_le _⟩, HT, HB1⟩
  case round =>
    clear HO5 HB5 HT HB1 HQ HB
    obtain ⟨k, xs, rfl, HK, HT, HB⟩ := hrel
    by_cases hlt : k < as_.length
    · obtain ⟨ad, x, A0, c0, rfl, hx, hlc, hCb, b0, b1, b2⟩ := act_at HC.out hlt rfl
      clear hx
      obtain ⟨xd, xb, xn⟩ := x
      have a0 := pw_cell_below HB.out b0
      have a1 := pw_cell_below HB.out b1
      have a2 := pw_cell_below HB.out b2
      have HCB := Aside0.mk hCb
      have HLC := Aside0.mk hlc
      clear b0 b1 b2 hCb hlc
      by_cases hbl : 200 < xb.length
      · have hbl' : (200 : Int) < (xb.length : Int) := by omega
        go_wp2_with fail
        refine (awake_calls _).mono ?_
        rintro e w6 ⟨rfl, hb⟩
        have HB6 := Aside0.mk (below_step (below_alloc HB.out _) hb)
        clear hb
        go_wp2
        go_ret
        exact ⟨rfl, HB6.out⟩
      · have hbl' : ¬ (200 : Int) < (xb.length : Int) := by omega
        obtain ⟨A4, c4, rfl⟩ := HT.out.slice
        go_upto_region 11 with (fail)
        go_cut [7] (fun s7 wx => s7 = .bool (decide (0 ≤ xn ∧ xn < (xs.length : Int))) ∧ wx = wr.alloc (.cells #[.int .i64 xd, .slice A0 xb.length c0, .int .i64 xn] 78))
        case first =>
          by_cases h0 : 0 ≤ xn
          · by_cases h1 : xn < (xs.length : Int)
            · go_wp2_with fail
              go_meet
              exact ⟨by simp [h0, h1], rfl⟩
            · go_wp2_with fail
              go_meet
              exact ⟨by simp [h0, h1], rfl⟩
          · go_wp2_with fail
            go_meet
            exact ⟨by simp; omega, rfl⟩
        case rest =>
          obtain ⟨rfl, rfl⟩ := hcut
          go_upto_region 12 with (fail)
          obtain ⟨gb, hgb⟩ : ∃ gb, wr.heap.size = gb := ⟨_, rfl⟩
          rw [hgb]
          refine wp_world (fun W => Aside0 (W.heap[gb]? = some (.cells #[.int .i64 xd, .slice A0 xb.length c0, .int .i64 xn] 78 (0, 0))) ∧ Aside0 (Two w.heap.size W g (.slice A4 xs.length c4) xs) ∧ Aside0 (Below w.heap.size w W)) ⟨⟨by subst hgb; exact blk_new wr _⟩, ⟨HT.out.below (below_alloc (Below.refl _ _) _)⟩, ⟨below_alloc HB.out _⟩⟩ ?_
          clear hgb HT HB a0 a1 a2
          rintro w6 ⟨HG, HT, HB⟩
          have g0 := blk_cell HG.out 0
          have g1 := blk_cell HG.out 1
          have g2 := blk_cell HG.out 2
          simp at g0 g1 g2
          by_cases hth : 0 ≤ xn ∧ xn < (xs.length : Int)
          · rw [decide_eq_true hth]
            obtain ⟨n, rfl⟩ := Int.eq_ofNat_of_zero_le hth.1
            have hn : n < xs.length := by omega
            have HN := Aside0.mk hn
            clear hth hn
            go_upto_block 2 with (fail)
            go_cut [4, 9, 10] (fun s4 s9 s10 wx => ∃ ys, s10 = .bool true ∧ Aside0 (Two w.heap.size wx g s4 ys) ∧ Aside0 (Below w.heap.size w wx))
            case first =>
              obtain ⟨v, okq, okl, htw, hl32, hl200⟩ := HT.out
              have HTW := Aside0.mk htw
              have HL32 := Aside0.mk hl32
              have HL200 := Aside0.mk hl200
              clear htw hl32 hl200
              by_cases d0 : xd = 0
              · subst d0
                as_aux_lemma =>
                  by_cases hf : 32 ≤ xs.length
                  · have hf' : (32 : Int) ≤ (xs.length : Int) := by omega
                    have HF := Aside0.mk hf
                    clear hf
                    go_wp2_with (first | ((with_reducible refine gate_dst (N := 56) rfl ?_); refine Kd.R_lit kB (w0 := w6) w6.heap.size 5 ?hg (N := 56) ?hd (xs := ([] : List Int)) (inner := []) (ok := fun _ => True) (okp := fun _ => True) ?hr ?hp (fun _ hk => hk) trivial (Below.refl _ _) (Nat.le_refl _) (by simp) ?_; (case hd => rfl); (case hg => rfl); (case hr => first | (go_simp; done) | (go_simp; rfl)); (case hp => exact (Reps.none _ _)); intro v7 w7 ho7 hb7 hg7 hnew7; have HO7 := Aside0.mk ho7; have HB7 := Aside0.mk hb7; have m1 := blk_cell (blk_below HG.out hb7) 1; clear ho7 hb7 hg7 hnew7; simp at m1) | ((with_reducible refine gate_dst (N := 59) rfl ?_); refine Kd.R_append_rows kB (w0 := w6) w6.heap.size rfl (.tmp 56) (.tmp 58) 23 5 (.int .u8 0) 1 rfl Try.underlying23 info5 rfl (by decide) (by omega) v7 [] xb _ _ _ (fun _ => True) (fun _ => False) rfl rfl HO7.out (Kd.C_below (Kd.C_below HCB.out HB.out) HB7.out) (fun _ _ h => h) (fun _ h => h.elim) (fun _ _ => trivial) HB7.out HB7.out.size (by simp; omega) ?_; intro v8 w8 ho8 hb8 hg8 hat8; have HO8 := Aside0.mk ho8; have HB8 := Aside0.mk hb8; clear ho8 hb8 hg8 hat8))
                    rw [List.nil_append] at HO8
                    obtain ⟨A8, c8, rfl⟩ := Kd.R_slice HO8.out
                    clear m1
                    refine (put_full w.heap.size g v xs okq A8 xb.length c8 _ (HTW.out.below HB8.out).q HF.out).mono ?_
                    rintro e w9 ⟨rfl, rfl⟩
                    go_wp2_with fail
                    go_meet
                    exact ⟨xs, rfl, ⟨⟨v, okq, okl, HTW.out.below HB8.out, HL32.out, HL200.out⟩⟩, ⟨below_step HB.out HB8.out⟩⟩
                  · have hf' : ¬ (32 : Int) ≤ (xs.length : Int) := by omega
                    have HF := Aside0.mk hf
                    clear hf
                    go_wp2_with (first | ((with_reducible refine gate_dst (N := 56) rfl ?_); refine Kd.R_lit kB (w0 := w6) w6.heap.size 5 ?hg (N := 56) ?hd (xs := ([] : List Int)) (inner := []) (ok := fun _ => True) (okp := fun _ => True) ?hr ?hp (fun _ hk => hk) trivial (Below.refl _ _) (Nat.le_refl _) (by simp) ?_; (case hd => rfl); (case hg => rfl); (case hr => first | (go_simp; done) | (go_simp; rfl)); (case hp => exact (Reps.none _ _)); intro v7 w7 ho7 hb7 hg7 hnew7; have HO7 := Aside0.mk ho7; have HB7 := Aside0.mk hb7; have m1 := blk_cell (blk_below HG.out hb7) 1; clear ho7 hb7 hg7 hnew7; simp at m1) | ((with_reducible refine gate_dst (N := 59) rfl ?_); refine Kd.R_append_rows kB (w0 := w6) w6.heap.size rfl (.tmp 56) (.tmp 58) 23 5 (.int .u8 0) 1 rfl Try.underlying23 info5 rfl (by decide) (by omega) v7 [] xb _ _ _ (fun _ => True) (fun _ => False) rfl rfl HO7.out (Kd.C_below (Kd.C_below HCB.out HB.out) HB7.out) (fun _ _ h => h) (fun _ h => h.elim) (fun _ _ => trivial) HB7.out HB7.out.size (by simp; omega) ?_; intro v8 w8 ho8 hb8 hg8 hat8; have HO8 := Aside0.mk ho8; have HB8 := Aside0.mk hb8; clear ho8 hb8 hg8 hat8))
                    rw [List.nil_append] at HO8
                    obtain ⟨A8, c8, rfl⟩ := Kd.R_slice HO8.out
                    clear m1
                    refine (put_calls w.heap.size g v xs okq A8 c8 xb _ (HTW.out.below HB8.out).q (by have := HF.out; omega) (Kd.R_reads' HO8.out).2.2 (by omega)).mono ?_
                    rintro e w9 ⟨rfl, v9, hq, hk⟩
                    have HTW9 := Aside0.mk ((HTW.out.below HB8.out).queue hq (fun _ h => h) hk)
                    have HB9 := Aside0.mk ((below_step HB.out HB8.out).trans hk.1)
                    have HG9 := Aside0.mk (KeepBut.blk hk.2.1 (blk_below HG.out HB8.out) (by intro e; have h1 := HTW.out.q.1; rw [← e, HG.out] at h1; simp at h1) (Kd.N_ne (Kd.N_below HTW.out.q.2.2.1 HB8.out) (blk_below HG.out HB8.out) (by decide)))
                    clear hq hk g0 g1 g2
                    have k0 := blk_cell HG9.out 0
                    have k1 := blk_cell HG9.out 1
                    have k2 := blk_cell HG9.out 2
                    simp at k0 k1 k2
                    have i5 : xs.length ≤ 1000 := by have := HL32.out; omega
                    go_wp2_with fail
                    refine (waymarkref15_With.calls _ A4 c4 xs (fun k => k < w.heap.size) A0 c0 xb (xs ++ [xb]) _ (Kd.N_V HTW9.out.n) (Kd.V_mk HLC.out (Kd.F_below (Kd.C_F (Kd.heap_int .u8) HCB.out) HB9.out)) (with_law xs xb i5)).mono ?_
                    rintro e w10 ⟨v10, rfl, hn, hb⟩
                    have HT10 : Aside0 (Two w.heap.size w10 g v10 (xs ++ [xb])) := ⟨⟨_, _, _, HTW9.out.list hb hn (by
                      intro k hk
                      have hg := HTW.out.q.2.1
                      rcases hk with (hk | hk) | hk
                      · exact .inl ⟨HTW9.out.a k hk, HTW9.out.b k hk⟩
                      · refine .inl ⟨by omega, fun e => ?_⟩
                        have := Kd.N_base HTW9.out.q.2.2.1 k e
                        omega
                      · exact .inr hk), by have := HF.out; simp; omega, by
                      intro x hx
                      rcases List.mem_append.1 hx with hx | hx
                      · exact HL200.out x hx
                      · rw [List.mem_singleton.1 hx]; omega⟩⟩
                    have HB10 := Aside0.mk (below_step HB9.out hb)
                    clear hn hb
                    go_wp2_with fail
                    go_meet
                    exact ⟨xs ++ [xb], rfl, HT10, HB10⟩
              · by_cases d1 : xd = 1
                · subst d1
                  as_aux_lemma =>
                    have i5 : xs.length ≤ 1000 := by have := HL32.out; omega
                    have i6 : (tx xs n).length ≤ 200 := HL200.out _ (by have hn := HN.out; unfold tx; rw [List.getD_eq_getElem?_getD, List.getElem?_eq_getElem hn]; exact List.getElem_mem hn)

                    have HBr : Aside0 (Below w6.heap.size w6 w6) := ⟨Below.refl _ _⟩
                    have i7 : (n : Int) < (xs.length : Int) := by have := HN.out; omega
                    go_wp2_with fail
                    refine (take_calls2 w.heap.size g v xs okq n _ HTW.out.q i5 HN.out).mono ?_
                    rintro e w9 ⟨At, ct, rfl, hlt9, hCt, v9, hq, hk⟩
                    have HTW9 := Aside0.mk (HTW.out.queue hq (fun _ h => h) hk)
                    have HB9 := Aside0.mk (HB.out.trans hk.1)

                    have HG9 := Aside0.mk (KeepBut.blk hk.2.1 (blk_below HG.out HBr.out) (by intro e; have h1 := HTW.out.q.1; rw [← e, HG.out] at h1; simp at h1) (Kd.N_ne (Kd.N_below HTW.out.q.2.2.1 HBr.out) (blk_below HG.out HBr.out) (by decide)))

                    have HCt := Aside0.mk hCt
                    have HLt := Aside0.mk hlt9
                    clear hq hk g0 g1 g2 hCt hlt9

                    obtain ⟨ad4, A1, c1, rfl, t0, t1, t2⟩ := N_text HTW9.out.n HN.out
                    have HX1 := Aside0.mk t1
                    have HX2 := Aside0.mk t2
                    clear t1 t2

                    have k0 := blk_cell HG9.out 0
                    have k1 := blk_cell HG9.out 1
                    have k2 := blk_cell HG9.out 2
                    simp at k0 k1 k2

                    go_wp2_with fail
                    refine (waymarkref01_Same.calls 2000 At ct (tx xs n) A1 c1 (tx xs n) true _ HCt.out HLt.out (Kd.F_now HX2.out) HX1.out (same01_law _ (by omega) 2000 (by omega))).mono ?_
                    rintro e w10 ⟨rfl, hd⟩
                    have HTW10 := Aside0.mk (HTW9.out.below hd.below)
                    have HB10 := Aside0.mk (below_step HB9.out hd.below)
                    have HG10 := Aside0.mk (blk_below HG9.out hd.below)
                    clear hd k0 k1 k2 t0
                    have k2 := blk_cell HG10.out 2
                    simp at k2
                    go_wp2_with fail
                    refine (waymarkref15_Without.calls _ (some ad4) c4 xs (n : Int) (xs.eraseIdx n) _ (Kd.N_V HTW10.out.n) (without_law xs n i5 HN.out)).mono ?_
                    rintro e w11 ⟨v11, rfl, hn, hb⟩

                    have HT11 : Aside0 (Two w.heap.size w11 g v11 (xs.eraseIdx n)) := ⟨⟨_, _, _, HTW10.out.list hb hn (by
                      intro k hk
                      rcases hk with hk | hk
                      · exact .inl ⟨HTW10.out.a k hk, HTW10.out.b k hk⟩
                      · exact .inr hk), by have := HL32.out; rw [List.length_eraseIdx]; split <;> omega, fun x hx => HL200.out x (List.mem_of_mem_eraseIdx hx)⟩⟩
                    have HB11 := Aside0.mk (below_step HB10.out hb)
                    clear hn hb
                    go_wp2_with fail
                    go_meet
                    exact ⟨xs.eraseIdx n, rfl, HT11, HB11⟩
                · by_cases d2 : xd = 2
                  · subst d2
                    as_aux_lemma =>
                      by_cases hf : 32 ≤ xs.length
                      · have hf' : (32 : Int) ≤ (xs.length : Int) := by omega
                        have HF := Aside0.mk hf
                        clear hf
                        go_wp2_with fail
                        refine (again_full w.heap.size g v xs okq n _ HTW.out.q HF.out HN.out).mono ?_
                        rintro e w9 ⟨rfl, rfl⟩
                        go_wp2_with fail
                        go_meet
                        exact ⟨xs, rfl, ⟨⟨v, okq, okl, HTW.out, HL32.out, HL200.out⟩⟩, HB⟩
                      · have hf' : ¬ (32 : Int) ≤ (xs.length : Int) := by omega
                        have HF := Aside0.mk hf
                        clear hf
                        have i5 : xs.length ≤ 1000 := by have := HL32.out; omega
                        have i6 : (tx xs n).length ≤ 200 := HL200.out _ (by have hn := HN.out; unfold tx; rw [List.getD_eq_getElem?_getD, List.getElem?_eq_getElem hn]; exact List.getElem_mem hn)
                        have HBr : Aside0 (Below w6.heap.size w6 w6) := ⟨Below.refl _ _⟩
                        have i7 : (n : Int) < (xs.length : Int) := by have := HN.out; omega
                        go_wp2_with fail
                        refine (again_calls w.heap.size g v xs okq n _ HTW.out.q (by have := HF.out; omega) HN.out (by omega)).mono ?_
                        rintro e w9 ⟨rfl, v9, hq, hk⟩
                        have HTW9 := Aside0.mk (HTW.out.queue hq (fun _ h => h) hk)
                        have HB9 := Aside0.mk (HB.out.trans hk.1)
                        have HG9 := Aside0.mk (KeepBut.blk hk.2.1 (blk_below HG.out HBr.out) (by intro e; have h1 := HTW.out.q.1; rw [← e, HG.out] at h1; simp at h1) (Kd.N_ne (Kd.N_below HTW.out.q.2.2.1 HBr.out) (blk_below HG.out HBr.out) (by decide)))
                        clear hq hk g0 g1 g2
                        obtain ⟨ad4, A1, c1, rfl, t0, t1, t2⟩ := N_text HTW9.out.n HN.out
                        have HX1 := Aside0.mk t1
                        have HX2 := Aside0.mk t2
                        clear t1 t2

                        have k0 := blk_cell HG9.out 0
                        have k1 := blk_cell HG9.out 1
                        have k2 := blk_cell HG9.out 2
                        simp at k0 k1 k2
                        go_wp2_with fail
                        refine (waymarkref15_With.calls _ (some ad4) c4 xs _ A1 c1 (tx xs n) (xs ++ [tx xs n]) _ (Kd.N_V HTW9.out.n) (Kd.V_mk HX1.out HX2.out) (with_law xs (tx xs n) i5)).mono ?_
                        rintro e w10 ⟨v10, rfl, hn, hb⟩
                        have HT10 : Aside0 (Two w.heap.size w10 g v10 (xs ++ [tx xs n])) := ⟨⟨_, _, _, HTW9.out.list hb hn (by
                          intro k hk
                          rcases hk with (hk | hk) | hk
                          · exact .inl ⟨HTW9.out.a k hk, HTW9.out.b k hk⟩
                          · exact .inl ⟨HTW9.out.a k hk.1, HTW9.out.b k hk.1⟩
                          · exact .inr hk), by have := HF.out; simp; omega, by
                          intro x hx
                          rcases List.mem_append.1 hx with hx | hx
                          · exact HL200.out x hx
                          · rw [List.mem_singleton.1 hx]; exact i6⟩⟩
                        have HB10 := Aside0.mk (below_step HB9.out hb)
                        clear hn hb
                        go_wp2_with fail
                        go_meet
                        exact ⟨xs ++ [tx xs n], rfl, HT10, HB10⟩
                  · by_cases d3 : xd = 3
                    · subst d3
                      as_aux_lemma =>
                        have i5 : xs.length ≤ 1000 := by have := HL32.out; omega
                        have HBr : Aside0 (Below w6.heap.size w6 w6) := ⟨Below.refl _ _⟩
                        go_wp2_with fail
                        refine (drop_calls w.heap.size g v xs okq n _ HTW.out.q i5 HN.out).mono ?_
                        rintro e w10 ⟨rfl, v9, hq, hk⟩
                        have HTW10 := Aside0.mk (HTW.out.queue hq (fun _ h => h) hk)
                        have HB10 := Aside0.mk (HB.out.trans hk.1)

                        have HG10 := Aside0.mk (KeepBut.blk hk.2.1 (blk_below HG.out HBr.out) (by intro e; have h1 := HTW.out.q.1; rw [← e, HG.out] at h1; simp at h1) (Kd.N_ne (Kd.N_below HTW.out.q.2.2.1 HBr.out) (blk_below HG.out HBr.out) (by decide)))

                        clear hq hk g0 g1 g2
                        have k2 := blk_cell HG10.out 2
                        simp at k2
                        go_wp2_with fail
                        refine (waymarkref15_Without.calls _ A4 c4 xs (n : Int) (xs.eraseIdx n) _ (Kd.N_V HTW10.out.n) (without_law xs n i5 HN.out)).mono ?_
                        rintro e w11 ⟨v11, rfl, hn, hb⟩

                        have HT11 : Aside0 (Two w.heap.size w11 g v11 (xs.eraseIdx n)) := ⟨⟨_, _, _, HTW10.out.list hb hn (by
                          intro k hk
                          rcases hk with hk | hk
                          · exact .inl ⟨HTW10.out.a k hk, HTW10.out.b k hk⟩
                          · exact .inr hk), by have := HL32.out; rw [List.length_eraseIdx]; split <;> omega, fun x hx => HL200.out x (List.mem_of_mem_eraseIdx hx)⟩⟩
                        have HB11 := Aside0.mk (below_step HB10.out hb)
                        clear hn hb
                        go_wp2_with fail
                        go_meet
                        exact ⟨xs.eraseIdx n, rfl, HT11, HB11⟩
                    · by_cases d4 : xd = 4
                      · subst d4
                        as_aux_lemma =>
                          go_wp2_with fail
                          refine (clear_calls w.heap.size g v xs okq _ HTW.out.q).mono ?_
                          rintro e w9 ⟨rfl, hq, hk⟩
                          have HTW9 := Aside0.mk (HTW.out.queue hq (fun _ h => h.elim) hk)
                          have HB9 := Aside0.mk (HB.out.trans hk.1)
                          clear hq hk g0 g1 g2
                          go_wp2_with (first | ((with_reducible refine gate_dst (N := 178) rfl ?_); refine Kd.N_lit kT (w0 := w9) w9.heap.size 23 ?hg (N' := 178) ?hd (xs := ([] : List (List Int))) (inner := []) (ok := fun k => w9.heap.size ≤ k) (okp := fun _ => False) ?hr ?hp (fun _ hk => hk.elim) (Nat.le_refl _) (Below.refl _ _) (Nat.le_refl _) (by simp) ?_; (case hd => rfl); (case hg => rfl); (case hr => first | (go_simp; done) | (go_simp; rfl)); (case hp => exact (Reps.none _ _)); intro v10 w10 ho10 hb10 hg10 hnew10; have HT10 : Aside0 (Two w.heap.size w10 g v10 []) := ⟨⟨_, _, _, HTW9.out.list hb10 ho10 (fun _ h => .inr h), by simp, by simp⟩⟩; have HB10 := Aside0.mk (below_step HB9.out hb10); clear ho10 hb10 hg10 hnew10))
                          go_meet
                          exact ⟨[], rfl, HT10, HB10⟩
                      · go_wp2_with fail
                        go_meet
                        exact ⟨xs, rfl, ⟨⟨v, okq, okl, HTW.out, HL32.out, HL200.out⟩⟩, HB⟩
            case rest =>
              as_aux_lemma =>
                obtain ⟨ys, rfl, HT2, HB2⟩ := hcut
                obtain ⟨A5, c5, rfl⟩ := HT2.out.slice
                obtain ⟨v2, okq2, okl2, ht2, hl2, hx2⟩ := HT2.out
                have HTW2 := Aside0.mk ht2
                have HL2 := Aside0.mk hl2
                have HX2 := Aside0.mk hx2
                clear ht2 hl2 hx2
                go_wp2_with fail
                refine (all_calls w.heap.size g v2 ys okq2 _ HTW2.out.q (by have := HL2.out; omega) (fun x hx => Nat.le_trans (HX2.out x hx) (by omega))).mono ?_
                rintro e w3 ⟨ua, rfl, hu, hb⟩
                obtain ⟨A6, c6, rfl⟩ := Kd.N_slice hu
                have HU := Aside0.mk hu
                have HT3 := Aside0.mk (HT2.out.below hb)
                have HW3 := Aside0.mk (HTW2.out.below hb)
                have HB3 := Aside0.mk (below_step HB2.out hb)
                clear hu hb
                go_wp2_with fail
                refine (waymarkref15_Same.calls 3000 A6 c6 ys A5 c5 ys true _ (Kd.N_reads' HU.out).2.2 (Kd.N_reads' HU.out).2.1 (Kd.N_reads' HW3.out.n).2.2 (Kd.N_reads' HW3.out.n).2.1 (same15_law ys (by have := HL2.out; omega) HX2.out)).mono ?_
                rintro e w4 ⟨rfl, hd⟩
                have HT4 := Aside0.mk (HT3.out.below hd.below)
                have HB4 := Aside0.mk (below_step HB3.out hd.below)
                clear hd HU HT3 HW3 HB3 HT2 HTW2 HB2
                go_wp2
                go_roundw
                case rel => exact ⟨k + 1, ys, by go_num, ⟨by omega⟩, HT4, HB4⟩
                case measure => simp [intOf]; omega
          · have HTH := Aside0.mk hth
            rw [decide_eq_false hth]
            clear hth
            go_upto_block 2 with (fail)
            go_cut [4, 9, 10] (fun s4 s9 s10 wx => ∃ ys, s10 = .bool true ∧ Aside0 (Two w.heap.size wx g s4 ys) ∧ Aside0 (Below w.heap.size w wx))
            case first =>
              obtain ⟨v, okq, okl, htw, hl32, hl200⟩ := HT.out
              have HTW := Aside0.mk htw
              have HL32 := Aside0.mk hl32
              have HL200 := Aside0.mk hl200
              clear htw hl32 hl200
              by_cases d0 : xd = 0
              · subst d0
                as_aux_lemma =>
                  by_cases hf : 32 ≤ xs.length
                  · have hf' : (32 : Int) ≤ (xs.length : Int) := by omega
                    have HF := Aside0.mk hf
                    clear hf
                    go_wp2_with (first | ((with_reducible refine gate_dst (N := 56) rfl ?_); refine Kd.R_lit kB (w0 := w6) w6.heap.size 5 ?hg (N := 56) ?hd (xs := ([] : List Int)) (inner := []) (ok := fun _ => True) (okp := fun _ => True) ?hr ?hp (fun _ hk => hk) trivial (Below.refl _ _) (Nat.le_refl _) (by simp) ?_; (case hd => rfl); (case hg => rfl); (case hr => first | (go_simp; done) | (go_simp; rfl)); (case hp => exact (Reps.none _ _)); intro v7 w7 ho7 hb7 hg7 hnew7; have HO7 := Aside0.mk ho7; have HB7 := Aside0.mk hb7; have m1 := blk_cell (blk_below HG.out hb7) 1; clear ho7 hb7 hg7 hnew7; simp at m1) | ((with_reducible refine gate_dst (N := 59) rfl ?_); refine Kd.R_append_rows kB (w0 := w6) w6.heap.size rfl (.tmp 56) (.tmp 58) 23 5 (.int .u8 0) 1 rfl Try.underlying23 info5 rfl (by decide) (by omega) v7 [] xb _ _ _ (fun _ => True) (fun _ => False) rfl rfl HO7.out (Kd.C_below (Kd.C_below HCB.out HB.out) HB7.out) (fun _ _ h => h) (fun _ h => h.elim) (fun _ _ => trivial) HB7.out HB7.out.size (by simp; omega) ?_; intro v8 w8 ho8 hb8 hg8 hat8; have HO8 := Aside0.mk ho8; have HB8 := Aside0.mk hb8; clear ho8 hb8 hg8 hat8))
                    rw [List.nil_append] at HO8
                    obtain ⟨A8, c8, rfl⟩ := Kd.R_slice HO8.out
                    clear m1
                    refine (put_full w.heap.size g v xs okq A8 xb.length c8 _ (HTW.out.below HB8.out).q HF.out).mono ?_
                    rintro e w9 ⟨rfl, rfl⟩
                    go_wp2_with fail
                    go_meet
                    exact ⟨xs, rfl, ⟨⟨v, okq, okl, HTW.out.below HB8.out, HL32.out, HL200.out⟩⟩, ⟨below_step HB.out HB8.out⟩⟩
                  · have hf' : ¬ (32 : Int) ≤ (xs.length : Int) := by omega
                    have HF := Aside0.mk hf
                    clear hf
                    go_wp2_with (first | ((with_reducible refine gate_dst (N := 56) rfl ?_); refine Kd.R_lit kB (w0 := w6) w6.heap.size 5 ?hg (N := 56) ?hd (xs := ([] : List Int)) (inner := []) (ok := fun _ => True) (okp := fun _ => True) ?hr ?hp (fun _ hk => hk) trivial (Below.refl _ _) (Nat.le_refl _) (by simp) ?_; (case hd => rfl); (case hg => rfl); (case hr => first | (go_simp; done) | (go_simp; rfl)); (case hp => exact (Reps.none _ _)); intro v7 w7 ho7 hb7 hg7 hnew7; have HO7 := Aside0.mk ho7; have HB7 := Aside0.mk hb7; have m1 := blk_cell (blk_below HG.out hb7) 1; clear ho7 hb7 hg7 hnew7; simp at m1) | ((with_reducible refine gate_dst (N := 59) rfl ?_); refine Kd.R_append_rows kB (w0 := w6) w6.heap.size rfl (.tmp 56) (.tmp 58) 23 5 (.int .u8 0) 1 rfl Try.underlying23 info5 rfl (by decide) (by omega) v7 [] xb _ _ _ (fun _ => True) (fun _ => False) rfl rfl HO7.out (Kd.C_below (Kd.C_below HCB.out HB.out) HB7.out) (fun _ _ h => h) (fun _ h => h.elim) (fun _ _ => trivial) HB7.out HB7.out.size (by simp; omega) ?_; intro v8 w8 ho8 hb8 hg8 hat8; have HO8 := Aside0.mk ho8; have HB8 := Aside0.mk hb8; clear ho8 hb8 hg8 hat8))
                    rw [List.nil_append] at HO8
                    obtain ⟨A8, c8, rfl⟩ := Kd.R_slice HO8.out
                    clear m1
                    refine (put_calls w.heap.size g v xs okq A8 c8 xb _ (HTW.out.below HB8.out).q (by have := HF.out; omega) (Kd.R_reads' HO8.out).2.2 (by omega)).mono ?_
                    rintro e w9 ⟨rfl, v9, hq, hk⟩
                    have HTW9 := Aside0.mk ((HTW.out.below HB8.out).queue hq (fun _ h => h) hk)
                    have HB9 := Aside0.mk ((below_step HB.out HB8.out).trans hk.1)
                    have HG9 := Aside0.mk (KeepBut.blk hk.2.1 (blk_below HG.out HB8.out) (by intro e; have h1 := HTW.out.q.1; rw [← e, HG.out] at h1; simp at h1) (Kd.N_ne (Kd.N_below HTW.out.q.2.2.1 HB8.out) (blk_below HG.out HB8.out) (by decide)))
                    clear hq hk g0 g1 g2
                    have k0 := blk_cell HG9.out 0
                    have k1 := blk_cell HG9.out 1
                    have k2 := blk_cell HG9.out 2
                    simp at k0 k1 k2
                    have i5 : xs.length ≤ 1000 := by have := HL32.out; omega
                    go_wp2_with fail
                    refine (waymarkref15_With.calls _ A4 c4 xs (fun k => k < w.heap.size) A0 c0 xb (xs ++ [xb]) _ (Kd.N_V HTW9.out.n) (Kd.V_mk HLC.out (Kd.F_below (Kd.C_F (Kd.heap_int .u8) HCB.out) HB9.out)) (with_law xs xb i5)).mono ?_
                    rintro e w10 ⟨v10, rfl, hn, hb⟩
                    have HT10 : Aside0 (Two w.heap.size w10 g v10 (xs ++ [xb])) := ⟨⟨_, _, _, HTW9.out.list hb hn (by
                      intro k hk
                      have hg := HTW.out.q.2.1
                      rcases hk with (hk | hk) | hk
                      · exact .inl ⟨HTW9.out.a k hk, HTW9.out.b k hk⟩
                      · refine .inl ⟨by omega, fun e => ?_⟩
                        have := Kd.N_base HTW9.out.q.2.2.1 k e
                        omega
                      · exact .inr hk), by have := HF.out; simp; omega, by
                      intro x hx
                      rcases List.mem_append.1 hx with hx | hx
                      · exact HL200.out x hx
                      · rw [List.mem_singleton.1 hx]; omega⟩⟩
                    have HB10 := Aside0.mk (below_step HB9.out hb)
                    clear hn hb
                    go_wp2_with fail
                    go_meet
                    exact ⟨xs ++ [xb], rfl, HT10, HB10⟩
              · by_cases d1 : xd = 1
                · subst d1
                  as_aux_lemma =>
                    go_wp2_with fail
                    refine (take_bad w.heap.size g v xs okq xn _ HTW.out.q HTH.out).mono ?_
                    rintro e w9 ⟨rfl, rfl⟩

                    go_wp2_with fail
                    go_meet
                    exact ⟨xs, rfl, ⟨⟨v, okq, okl, HTW.out, HL32.out, HL200.out⟩⟩, HB⟩
                · by_cases d2 : xd = 2
                  · subst d2
                    as_aux_lemma =>
                      go_wp2_with fail
                      refine (again_bad w.heap.size g v xs okq xn _ HTW.out.q HTH.out).mono ?_
                      rintro e w9 ⟨rfl, rfl⟩

                      go_wp2_with fail
                      go_meet
                      exact ⟨xs, rfl, ⟨⟨v, okq, okl, HTW.out, HL32.out, HL200.out⟩⟩, HB⟩
                  · by_cases d3 : xd = 3
                    · subst d3
                      as_aux_lemma =>
                        go_wp2_with fail
                        refine (drop_bad w.heap.size g v xs okq xn _ HTW.out.q HTH.out).mono ?_
                        rintro e w9 ⟨rfl, rfl⟩

                        go_wp2_with fail
                        go_meet
                        exact ⟨xs, rfl, ⟨⟨v, okq, okl, HTW.out, HL32.out, HL200.out⟩⟩, HB⟩
                    · by_cases d4 : xd = 4
                      · subst d4
                        as_aux_lemma =>
                          go_wp2_with fail
                          refine (clear_calls w.heap.size g v xs okq _ HTW.out.q).mono ?_
                          rintro e w9 ⟨rfl, hq, hk⟩
                          have HTW9 := Aside0.mk (HTW.out.queue hq (fun _ h => h.elim) hk)
                          have HB9 := Aside0.mk (HB.out.trans hk.1)
                          clear hq hk g0 g1 g2
                          go_wp2_with (first | ((with_reducible refine gate_dst (N := 178) rfl ?_); refine Kd.N_lit kT (w0 := w9) w9.heap.size 23 ?hg (N' := 178) ?hd (xs := ([] : List (List Int))) (inner := []) (ok := fun k => w9.heap.size ≤ k) (okp := fun _ => False) ?hr ?hp (fun _ hk => hk.elim) (Nat.le_refl _) (Below.refl _ _) (Nat.le_refl _) (by simp) ?_; (case hd => rfl); (case hg => rfl); (case hr => first | (go_simp; done) | (go_simp; rfl)); (case hp => exact (Reps.none _ _)); intro v10 w10 ho10 hb10 hg10 hnew10; have HT10 : Aside0 (Two w.heap.size w10 g v10 []) := ⟨⟨_, _, _, HTW9.out.list hb10 ho10 (fun _ h => .inr h), by simp, by simp⟩⟩; have HB10 := Aside0.mk (below_step HB9.out hb10); clear ho10 hb10 hg10 hnew10))
                          go_meet
                          exact ⟨[], rfl, HT10, HB10⟩
                      · go_wp2_with fail
                        go_meet
                        exact ⟨xs, rfl, ⟨⟨v, okq, okl, HTW.out, HL32.out, HL200.out⟩⟩, HB⟩
            case rest =>
              as_aux_lemma =>
                obtain ⟨ys, rfl, HT2, HB2⟩ := hcut
                obtain ⟨A5, c5, rfl⟩ := HT2.out.slice
                obtain ⟨v2, okq2, okl2, ht2, hl2, hx2⟩ := HT2.out
                have HTW2 := Aside0.mk ht2
                have HL2 := Aside0.mk hl2
                have HX2 := Aside0.mk hx2
                clear ht2 hl2 hx2
                go_wp2_with fail
                refine (all_calls w.heap.size g v2 ys okq2 _ HTW2.out.q (by have := HL2.out; omega) (fun x hx => Nat.le_trans (HX2.out x hx) (by omega))).mono ?_
                rintro e w3 ⟨ua, rfl, hu, hb⟩
                obtain ⟨A6, c6, rfl⟩ := Kd.N_slice hu
                have HU := Aside0.mk hu
                have HT3 := Aside0.mk (HT2.out.below hb)
                have HW3 := Aside0.mk (HTW2.out.below hb)
                have HB3 := Aside0.mk (below_step HB2.out hb)
                clear hu hb
                go_wp2_with fail
                refine (waymarkref15_Same.calls 3000 A6 c6 ys A5 c5 ys true _ (Kd.N_reads' HU.out).2.2 (Kd.N_reads' HU.out).2.1 (Kd.N_reads' HW3.out.n).2.2 (Kd.N_reads' HW3.out.n).2.1 (same15_law ys (by have := HL2.out; omega) HX2.out)).mono ?_
                rintro e w4 ⟨rfl, hd⟩
                have HT4 := Aside0.mk (HT3.out.below hd.below)
                have HB4 := Aside0.mk (below_step HB3.out hd.below)
                clear hd HU HT3 HW3 HB3 HT2 HTW2 HB2
                go_wp2
                go_roundw
                case rel => exact ⟨k + 1, ys, by go_num, ⟨by omega⟩, HT4, HB4⟩
                case measure => simp [intOf]; omega
    · obtain rfl : k = as_.length := by have := HK.out; omega
      go_wp2_with fail
      refine (awake_calls _).mono ?_
      rintro e w2 ⟨rfl, hb⟩
      have HB2 := Aside0.mk (below_step HB.out hb)
      clear hb
      go_wp2
      go_ret
      exact ⟨rfl, HB2.out⟩

theorem acts_any (A : Option Addr) (c : Nat) (as_ : List A78) (w : World) (hC : Kd.C k78 w A as_.length as_) :
    Calls Try.prog 13 #[.slice A as_.length c] w fun e w' => e = .returned (.bool true) ∧ Below w.heap.size w w' := by
  by_cases h : 100 < as_.length
  · exact acts_long A c as_ w h
  · exact acts_short A c as_ w hC (by omega)
end Go.Proofs.Ytdkobokdeofiiaa.Qu
