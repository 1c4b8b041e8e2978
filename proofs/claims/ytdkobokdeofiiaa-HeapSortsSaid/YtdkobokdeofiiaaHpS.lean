/- HeapSorts (the theorem of order), walked: for every input. -/
import Derived.Test.YtdkobokdeofiiaaHpR
set_option linter.unusedVariables false
set_option linter.unusedSimpArgs false
namespace Go.Proofs.Ytdkobokdeofiiaa.Hp
open Go.RowKit Go.Proofs.YtdkobokdeofiiaaW.PrintWords Go.Proofs.YtdkobokdeofiiaaW.PrintLast Go.Proofs.YtdkobokdeofiiaaW.PrintMore

instance (a b : S30) : Decidable (a = b) := if h0 : a.f0 = b.f0 then (if h1 : a.f1 = b.f1 then isTrue (s30_ext h0 h1) else isFalse (fun e => h1 (e ▸ rfl))) else isFalse (fun e => h0 (e ▸ rfl))
/-- The place of the last one that is s, of the first n: -1 if there is none. -/
def ixF (s : S30) (xs : List S30) : Nat → Int
  | 0 => -1
  | n + 1 => if at_ xs n = s then (n : Int) else ixF s xs n
theorem ix_law (s : S30) (xs : List S30) : ∀ n, (ixF s xs n = -1 ∧ ∀ j, j < n → at_ xs j ≠ s) ∨ ∃ r : Nat, r < n ∧ ixF s xs n = (r : Int) ∧ at_ xs r = s
  | 0 => .inl ⟨rfl, fun j hj => by omega⟩
  | n + 1 => by
    unfold ixF
    by_cases h : at_ xs n = s
    · rw [if_pos h]
      exact .inr ⟨n, by omega, rfl, h⟩
    · rw [if_neg h]
      rcases ix_law s xs n with ⟨e, h2⟩ | ⟨r, hr, e, h2⟩
      · refine .inl ⟨e, fun j hj => ?_⟩
        by_cases hj2 : j = n
        · subst hj2; exact h
        · exact h2 j (by omega)
      · exact .inr ⟨r, by omega, e, h2⟩
theorem ix_found {s : S30} {xs : List S30} (h : s ∈ xs) : ∃ r : Nat, r < xs.length ∧ ixF s xs xs.length = (r : Int) ∧ at_ xs r = s := by
  rcases ix_law s xs xs.length with ⟨_, h2⟩ | h2
  · obtain ⟨j, hj, e⟩ := List.getElem_of_mem h
    exact absurd (by rw [at_get hj]; exact e) (h2 j hj)
  · exact h2

set_option maxHeartbeats 800000 in
set_option maxRecDepth 100000 in
theorem sorts_long (A : Option Addr) (c : Nat) (xs : List S30) (w : World) (h : 200 < xs.length) :
    Calls Try.prog 10 #[.slice A xs.length c] w fun e w' => e = .returned (.bool true) ∧ Below w.heap.size w w' := by
  have h1 : (200 : Int) < (xs.length : Int) := by omega
  clear h
  go_enter Try.func10, Try.ntmps10
  go_wp2_with fail
  refine (awake_calls _).mono ?_
  rintro e w1 ⟨rfl, hb⟩
  have HB := Aside0.mk hb
  clear hb
  go_wp2
  go_ret
  exact ⟨rfl, HB.out⟩

set_option maxHeartbeats 4000000 in
set_option maxRecDepth 100000 in
theorem sorts_short (A : Option Addr) (c : Nat) (xs : List S30) (w : World) (hC : Kd.C k30 w A xs.length xs) (hc : xs.length ≤ c) (h1 : xs.length ≤ 200) :
    Calls Try.prog 10 #[.slice A xs.length c] w fun e w' => e = .returned (.bool true) ∧ Below w.heap.size w w' := by
  have HC := Aside0.mk hC
  have HCC := Aside0.mk hc
  clear hC hc
  have i1 : ¬ (200 : Int) < (xs.length : Int) := by omega
  go_enter Try.func10, Try.ntmps10
  go_wp2_with fail
  refine (new_calls A c xs _ HC.out (by omega)).mono ?_
  rintro e w1 ⟨gh, v, rfl, hH, hb⟩
  have H1 := Aside0.mk hH
  have HB := Aside0.mk hb
  clear hH hb
  have HCw := Aside0.mk (Kd.C_below HC.out HB.out)
  go_upto_region 5 with (first | ((with_reducible refine gate_dst (N := 24) rfl ?_); refine Kd.R_lit k30 (w0 := w1) w1.heap.size 30 ?hg (N := 24) ?hd (xs := ([] : List S30)) (inner := []) (ok := fun _ => True) (okp := fun _ => True) ?hr ?hp (fun _ hk => hk) trivial (Below.refl _ _) (Nat.le_refl _) (by simp) ?_; (case hd => rfl); (case hg => rfl); (case hr => first | (go_simp; done) | (go_simp; rfl)); (case hp => exact (Reps.none _ _)); intro v5 w5 ho5 hb5 hg5 hnew5; have HO5 := Aside0.mk ho5; have HB5 := Aside0.mk hb5; clear ho5 hb5 hg5 hnew5) | ((with_reducible refine gate_dst (N := 26) rfl ?_); refine Kd.R_append_rows k30 (w0 := w1) w1.heap.size rfl (.tmp 24) (.tmp 25) 53 30 (.agg #[(.int .u64 0), (.int .i64 0)]) 16 rfl Try.underlying53 info30 rfl (by decide) (by omega) v5 [] xs _ _ _ (fun _ => True) (fun _ => False) rfl rfl HO5.out (Kd.C_below HCw.out HB5.out) (fun _ _ h => h) (fun _ h => h.elim) (fun _ _ => trivial) HB5.out HB5.out.size (by simp; omega) ?_; intro v7 w7 ho7 hb7 hg7 hat7; have HO7 := Aside0.mk ho7; have HB7 := Aside0.mk hb7; clear ho7 hb7 hg7 hat7))
  rw [List.nil_append] at HO7
  have HP := Aside0.mk ((newF_law xs).1)
  have HQ := Aside0.mk ((newF_law xs).2)
  have hgl := blk_lt H1.out.1
  have hsz7 : w1.heap.size ≤ w7.heap.size := HB7.out.size
  obtain ⟨g5, hg5⟩ : ∃ g5, w7.heap.size = g5 := ⟨_, rfl⟩
  have hvl : ∀ k, v.ownBlock = some k → k < w1.heap.size := Kd.R_lt H1.out.2.2
  have hll : ∀ k, v7.ownBlock = some k → k < w7.heap.size := Kd.R_lt HO7.out
  have HG5 : Aside0 (w.heap.size ≤ g5) := ⟨by have := HB.out.size; omega⟩
  have S1 := Aside0.mk (show HL w.heap.size (w7.alloc (.cells #[.int .u64 0, .int .i64 0] 30)) gh v (newF xs) from (H1.out.below HB7.out).below (below_alloc (Below.refl _ _) _))
  have S2 := Aside0.mk (Kd.R_alloc (Kd.R_lower HO7.out HB.out.size) (.cells #[.int .u64 0, .int .i64 0] 30))
  have S3 := Aside0.mk (Apart.new H1.out.2.2 (fun k hk => Kd.R_base HO7.out k hk))
  have S4 : Aside0 (v.ownBlock ≠ some g5) := ⟨fun e => by have := hvl _ e; omega⟩
  have S5 : Aside0 (v7.ownBlock ≠ some g5) := ⟨fun e => by have := hll _ e; omega⟩
  have S6 := Aside0.mk (below_alloc (below_step HB.out HB7.out) (.cells #[.int .u64 0, .int .i64 0] 30))
  have S7 := Aside0.mk (blk_new w7 (.cells #[.int .u64 0, .int .i64 0] 30))
  rw [hg5] at S7
  have hgg : gh ≠ g5 := by omega
  have HGG := Aside0.mk hgg
  clear hvl hll hgl hgg hsz7
  go_wp2_with fail
  try rw [hg5]
  clear hg5
  go_loopw [4, 6] (fun v4 v6 W => ∃ (k : Nat) (hs left : List S30) (v : Value) (la : S30), v6 = .int .i64 k ∧ Aside0 (left.length + k = xs.length) ∧ Aside0 (HL w.heap.size W gh v hs) ∧ Aside0 (Kd.R k30 30 W w.heap.size (fun _ => True) v4 left) ∧ Aside0 (Apart v v4) ∧ Aside0 (v.ownBlock ≠ some g5) ∧ Aside0 (v4.ownBlock ≠ some g5) ∧ Aside0 (Heaped hs) ∧ Aside0 (hs.Perm left) ∧ Aside0 (k = 0 ∨ ∀ x ∈ hs, ltb x la = false) ∧ Aside0 (W.heap[g5]? = some (.cells #[.int .u64 la.f0, .int .i64 la.f1] 30 (0, 0))) ∧ Aside0 (Below w.heap.size w W)) (fun _ v6 _ => xs.length - (intOf v6).toNat)
  case atStart => exact ⟨0, newF xs, xs, v, z30, rfl, ⟨rfl⟩, S1, S2, S3, S4, S5, HP, HQ, ⟨.inl rfl⟩, S7, S6⟩
  case round =>
    clear HO5 HB5 HO7 HB7 H1 HP HQ HB S1 S2 S3 S4 S5 S6 S7
    obtain ⟨k, hs, left, v, la, rfl, HK, HH, HLF, HA, HOV, HOL, HP, HQ, HMI, B5, HB⟩ := hrel
    obtain ⟨A6, c6, rfl, hc6⟩ := hr_slice HLF.out
    by_cases hlt : k < xs.length
    · have hlen : hs.length = left.length := HQ.out.length_eq
      have h0 : 0 < hs.length := by have := HK.out; omega
      obtain ⟨y, hs, rfl⟩ : ∃ y hs', hs = y :: hs' := by
        cases hs with
        | nil => simp at h0
        | cons y hs' => exact ⟨y, hs', rfl⟩
      have hl6 : left.length ≤ 1000 := by have := HK.out; omega
      have hmem : y ∈ left := HQ.out.mem_iff.1 (by simp)
      obtain ⟨r, hr, hix, hry⟩ := ix_found hmem
      have HIX := Aside0.mk hix
      have HWL := Aside0.mk (without_law left r hr (by omega))
      have HTP := Aside0.mk (take_perm HQ.out HP.out h0 hr (show at_ left r = at_ (y :: hs) 0 from hry))
      have htl := take_law _ HP.out h0
      have HTH := Aside0.mk htl.1
      have HTM : Aside0 (∀ x ∈ takeF (y :: hs), ltb x y = false) := ⟨fun x hx => heap_min_mem _ HP.out x (htl.2.mem_iff.1 (List.mem_cons_of_mem _ hx))⟩
      have HRR := Aside0.mk hr
      have hsl : hs.length ≤ 300000 := by simp at hlen; omega
      have HSL := Aside0.mk hsl
      have HYL : Aside0 (k = 0 ∨ ltb y la = false) := ⟨by rcases HMI.out with h | h; exact .inl h; exact .inr (h y (by simp))⟩
      clear h0 hlen hmem hix hry htl hr hsl
      go_wp2_with fail
      refine (take_one w.heap.size gh v y hs wr HH.out HSL.out).mono ?_
      rintro e w3 ⟨rfl, v', hh', hk'⟩
      have hne5 : g5 ≠ gh := Ne.symm HGG.out
      have hlt5 := blk_lt B5.out
      have C5 := Aside0.mk ((hk'.2.1.2 g5 hlt5 hne5 (fun e => HOV.out e.symm)).trans B5.out)
      have H3 := Aside0.mk hh'
      have HB3 := Aside0.mk (HB.out.trans hk'.1)
      have hne : some gh ≠ (Value.slice A6 left.length c6).ownBlock := Kd.R_ne HLF.out HH.out.1 (by decide)
      have LF3 := Aside0.mk (lf_keep HLF.out hk'.2.1 hne HA.out)
      have HA3 := Aside0.mk (Apart.put HA.out HLF.out hk')
      have HOV3 : Aside0 (v'.ownBlock ≠ some g5) := ⟨fun e => by
        rcases hk'.2.2 with e2 | ⟨b, e2, hb2⟩
        · exact HOV.out (e2 ▸ e)
        · rw [e2] at e
          injection e with e
          omega⟩
      clear hh' hk' hne hne5 hlt5 HH HB HLF HA HOV B5 HMI
      go_upto_region 10 with (fail)
      obtain ⟨g7, hg7⟩ : ∃ g7, w3.heap.size = g7 := ⟨_, rfl⟩
      have hlt7 := blk_lt C5.out
      have hvl := Kd.R_lt H3.out.2.2
      have hll := Kd.R_lt LF3.out
      refine wp_world (fun W => Aside0 (W.heap[g7]? = some (.cells #[.int .u64 y.f0, .int .i64 y.f1] 30 (0, 0))) ∧ Aside0 (W.heap[g5]? = some (.cells #[.int .u64 la.f0, .int .i64 la.f1] 30 (0, 0))) ∧ Aside0 (HL w.heap.size W gh v' (takeF (y :: hs))) ∧ Aside0 (Kd.R k30 30 W w.heap.size (fun _ => True) (.slice A6 left.length c6) left) ∧ Aside0 (Below w.heap.size w W)) ⟨⟨by subst hg7; exact blk_new w3 _⟩, ⟨blk_alloc C5.out _⟩, ⟨H3.out.below (below_alloc (Below.refl _ _) _)⟩, ⟨Kd.R_alloc LF3.out _⟩, ⟨below_alloc HB3.out _⟩⟩ ?_
      have HG7 : Aside0 (g7 ≠ g5) := ⟨by omega⟩
      rw [hg7]
      clear hg7 hlt7 hvl hll C5 H3 LF3 HB3
      rintro w5 ⟨B7, B5, H5, LF5, HB5⟩
      have p0 := blk_cell B7.out 0
      have p1 := blk_cell B7.out 1
      have q0 := blk_cell B5.out 0
      have q1 := blk_cell B5.out 1
      simp at p0 p1 q0 q1
      by_cases hk0 : k = 0
      · have hk1 : ¬ (0 : Int) < (k : Int) := by omega
        go_upto_region 12 with (fail)
        have f0 := blk_frozen B5.out 0
        have f1 := blk_frozen B5.out 1
        go_upto_region 13 with (fail)
        have hkb := ((KeepBut.refl w5 g5 none).set_ 0 (.int .u64 y.f0)).set_ 1 (.int .i64 y.f1)
        refine wp_world (fun W => Aside0 (W.heap[g7]? = some (.cells #[.int .u64 y.f0, .int .i64 y.f1] 30 (0, 0))) ∧ Aside0 (W.heap[g5]? = some (.cells #[.int .u64 y.f0, .int .i64 y.f1] 30 (0, 0))) ∧ Aside0 (HL w.heap.size W gh v' (takeF (y :: hs))) ∧ Aside0 (Kd.R k30 30 W w.heap.size (fun _ => True) (.slice A6 left.length c6) left) ∧ Aside0 (Below w.heap.size w W))
          ⟨⟨blk_far (p := ⟨g5, 1, none⟩) (blk_far (p := ⟨g5, 0, none⟩) B7.out HG7.out _) HG7.out _⟩, ⟨blk_set (blk_set B5.out 0 (.int .u64 y.f0)) 1 (.int .i64 y.f1)⟩, ⟨⟨blk_far (p := ⟨g5, 1, none⟩) (blk_far (p := ⟨g5, 0, none⟩) H5.out.1 HGG.out _) HGG.out _, H5.out.2.1, lf_keep H5.out.2.2 hkb (fun e => HOV3.out e.symm) (fun _ _ e => by cases e)⟩⟩, ⟨lf_keep LF5.out hkb (fun e => HOL.out e.symm) (fun _ _ e => by cases e)⟩, ⟨(HB5.out.setCell HG5.out _).setCell HG5.out _⟩⟩ ?_
        clear p0 p1 q0 q1 f0 f1 hkb B7 B5 H5 LF5 HB5
        rintro w6 ⟨B7, B5, H6, LF6, HB6⟩
        go_wp2_with fail
        go_loopw [9, 10] (fun v9 v10 W => ∃ j : Nat, v10 = .int .i64 j ∧ v9 = .int .i64 (ixF y left j) ∧ Aside0 (j ≤ left.length) ∧ Aside0 (Below w6.heap.size w6 W)) (fun _ v10 _ => left.length - (intOf v10).toNat)
        case atStart => exact ⟨0, rfl, rfl, ⟨Nat.zero_le _⟩, ⟨Below.refl _ _⟩⟩
        case round =>
          obtain ⟨j, rfl, rfl, HJ, HBJ⟩ := hrel
          by_cases hjl : j < left.length
          · obtain ⟨ad6, rfl, l0, l1⟩ := voter30 (Kd.R_reads' (Kd.R_below LF6.out HBJ.out)).2.2 hjl rfl
            have s7 := blk_below B7.out HBJ.out
            have p0 := blk_cell s7 0
            have p1 := blk_cell s7 1
            simp at p0 p1
            clear s7
            have hj9 : j ≤ 1000000 := by omega
            have i5 : (j : Int) < (left.length : Int) := by omega
            obtain ⟨z, hz⟩ : ∃ z, at_ left j = z := ⟨_, rfl⟩
            rw [hz] at l0 l1
            have hst : ixF y left (j + 1) = if z = y then (j : Int) else ixF y left j := by rw [← hz]; rfl
            have HST := Aside0.mk hst
            clear hz hst
            by_cases hzy : z = y
            · subst hzy
              go_wp2_with fail
              go_quiet (fail)
              go_wp2
              go_roundw
              case rel => exact ⟨j + 1, by go_num, by rw [HST.out]; simp, ⟨by omega⟩, ⟨pw_below_drewN HBJ.out _⟩⟩
              case measure => simp [intOf]; omega
            · by_cases hz0 : z.f0 = y.f0
              · have hz1 : ¬ z.f1 = y.f1 := fun h => hzy (s30_ext hz0 h)
                have HZY := Aside0.mk hzy
                clear hzy
                go_wp2_with fail
                go_quiet (fail)
                go_wp2
                go_roundw
                case rel => exact ⟨j + 1, by go_num, by rw [HST.out, if_neg HZY.out], ⟨by omega⟩, ⟨pw_below_drewN HBJ.out _⟩⟩
                case measure => simp [intOf]; omega
              · have HZY := Aside0.mk hzy
                clear hzy
                go_wp2_with fail
                go_quiet (fail)
                go_wp2
                go_roundw
                case rel => exact ⟨j + 1, by go_num, by rw [HST.out, if_neg HZY.out], ⟨by omega⟩, ⟨pw_below_drewN HBJ.out _⟩⟩
                case measure => simp [intOf]; omega
          · obtain rfl : j = left.length := by have := HJ.out; omega
            rw [HIX.out]
            have H7 := Aside0.mk (H6.out.below HBJ.out)
            have LF7 := Aside0.mk (Kd.R_below LF6.out HBJ.out)
            have HB7 := Aside0.mk (below_step HB6.out HBJ.out)
            have B57 := Aside0.mk (blk_below B5.out HBJ.out)
            clear B7 B5 H6 LF6 HB6
            go_wp2_with fail
            refine (waymarkref23_Without.calls A6 c6 left (r : Int) (left.eraseIdx r) _ (Kd.R_reads' LF7.out).2.2 hc6 HWL.out).mono ?_
            rintro e w9 ⟨v9, rfl, ho, hb⟩
            obtain ⟨A9, c9, rfl, hc9⟩ := hr_slice ho
            have HLE := Aside0.mk (show (left.eraseIdx r).length = left.length - 1 by rw [List.length_eraseIdx, if_pos HRR.out])
            have H9 := Aside0.mk (H7.out.below hb)
            have HB9 := Aside0.mk (below_step HB7.out hb)
            have LF9 := Aside0.mk (Kd.R_lower ho HB7.out.size)
            have HA9 : Aside0 (Apart v' (.slice A9 (left.eraseIdx r).length c9)) := ⟨Apart.new H7.out.2.2 (fun k hk => Kd.R_base ho k hk)⟩
            have HOL9 : Aside0 ((Value.slice A9 (left.eraseIdx r).length c9).ownBlock ≠ some g5) := ⟨fun e => by have := Kd.R_base ho _ e; have := blk_lt B57.out; omega⟩
            have B59 := Aside0.mk (blk_below B57.out hb)
            clear ho hb H7 LF7 HB7 B57
            have hk9 : k ≤ 1000000 := by omega
            go_wp2
            go_roundw
            case rel => exact ⟨k + 1, takeF (y :: hs), left.eraseIdx r, v', y, by go_num, ⟨by have := HK.out; have := HLE.out; have := HRR.out; omega⟩, H9, LF9, HA9, HOV3, HOL9, HTH, HTP, ⟨.inr HTM.out⟩, B59, HB9⟩
            case measure => simp [intOf]; omega
      · have hk1 : (0 : Int) < (k : Int) := by omega
        have hyl := HYL.out.resolve_left hk0
        have hrl := ref_less y la
        rw [hyl] at hrl
        have HRL := Aside0.mk hrl
        clear hrl hyl
        go_wp2_with fail
        refine (waymarkref22_Less.calls y.f0 y.f1 la.f0 la.f1 false _ HRL.out).mono ?_
        rintro e w4 ⟨rfl, hb⟩
        have B7a := Aside0.mk (blk_below B7.out hb)
        have B5a := Aside0.mk (blk_below B5.out hb)
        have H5a := Aside0.mk (H5.out.below hb)
        have LF5a := Aside0.mk (Kd.R_below LF5.out hb)
        have HB5a := Aside0.mk (below_step HB5.out hb)
        clear B7 B5 H5 LF5 HB5 p0 p1 q0 q1 hb
        have B7 := B7a
        have B5 := B5a
        have H5 := H5a
        have LF5 := LF5a
        have HB5 := HB5a
        clear B7a B5a H5a LF5a HB5a
        have p0 := blk_cell B7.out 0
        have p1 := blk_cell B7.out 1
        have q0 := blk_cell B5.out 0
        have q1 := blk_cell B5.out 1
        simp at p0 p1 q0 q1
        go_upto_region 12 with (fail)
        have f0 := blk_frozen B5.out 0
        have f1 := blk_frozen B5.out 1
        go_upto_region 13 with (fail)
        have hkb := ((KeepBut.refl w4 g5 none).set_ 0 (.int .u64 y.f0)).set_ 1 (.int .i64 y.f1)
        refine wp_world (fun W => Aside0 (W.heap[g7]? = some (.cells #[.int .u64 y.f0, .int .i64 y.f1] 30 (0, 0))) ∧ Aside0 (W.heap[g5]? = some (.cells #[.int .u64 y.f0, .int .i64 y.f1] 30 (0, 0))) ∧ Aside0 (HL w.heap.size W gh v' (takeF (y :: hs))) ∧ Aside0 (Kd.R k30 30 W w.heap.size (fun _ => True) (.slice A6 left.length c6) left) ∧ Aside0 (Below w.heap.size w W))
          ⟨⟨blk_far (p := ⟨g5, 1, none⟩) (blk_far (p := ⟨g5, 0, none⟩) B7.out HG7.out _) HG7.out _⟩, ⟨blk_set (blk_set B5.out 0 (.int .u64 y.f0)) 1 (.int .i64 y.f1)⟩, ⟨⟨blk_far (p := ⟨g5, 1, none⟩) (blk_far (p := ⟨g5, 0, none⟩) H5.out.1 HGG.out _) HGG.out _, H5.out.2.1, lf_keep H5.out.2.2 hkb (fun e => HOV3.out e.symm) (fun _ _ e => by cases e)⟩⟩, ⟨lf_keep LF5.out hkb (fun e => HOL.out e.symm) (fun _ _ e => by cases e)⟩, ⟨(HB5.out.setCell HG5.out _).setCell HG5.out _⟩⟩ ?_
        clear p0 p1 q0 q1 f0 f1 hkb B7 B5 H5 LF5 HB5
        rintro w6 ⟨B7, B5, H6, LF6, HB6⟩
        go_wp2_with fail
        go_loopw [9, 10] (fun v9 v10 W => ∃ j : Nat, v10 = .int .i64 j ∧ v9 = .int .i64 (ixF y left j) ∧ Aside0 (j ≤ left.length) ∧ Aside0 (Below w6.heap.size w6 W)) (fun _ v10 _ => left.length - (intOf v10).toNat)
        case atStart => exact ⟨0, rfl, rfl, ⟨Nat.zero_le _⟩, ⟨Below.refl _ _⟩⟩
        case round =>
          obtain ⟨j, rfl, rfl, HJ, HBJ⟩ := hrel
          by_cases hjl : j < left.length
          · obtain ⟨ad6, rfl, l0, l1⟩ := voter30 (Kd.R_reads' (Kd.R_below LF6.out HBJ.out)).2.2 hjl rfl
            have s7 := blk_below B7.out HBJ.out
            have p0 := blk_cell s7 0
            have p1 := blk_cell s7 1
            simp at p0 p1
            clear s7
            have hj9 : j ≤ 1000000 := by omega
            have i5 : (j : Int) < (left.length : Int) := by omega
            obtain ⟨z, hz⟩ : ∃ z, at_ left j = z := ⟨_, rfl⟩
            rw [hz] at l0 l1
            have hst : ixF y left (j + 1) = if z = y then (j : Int) else ixF y left j := by rw [← hz]; rfl
            have HST := Aside0.mk hst
            clear hz hst
            by_cases hzy : z = y
            · subst hzy
              go_wp2_with fail
              go_quiet (fail)
              go_wp2
              go_roundw
              case rel => exact ⟨j + 1, by go_num, by rw [HST.out]; simp, ⟨by omega⟩, ⟨pw_below_drewN HBJ.out _⟩⟩
              case measure => simp [intOf]; omega
            · by_cases hz0 : z.f0 = y.f0
              · have hz1 : ¬ z.f1 = y.f1 := fun h => hzy (s30_ext hz0 h)
                have HZY := Aside0.mk hzy
                clear hzy
                go_wp2_with fail
                go_quiet (fail)
                go_wp2
                go_roundw
                case rel => exact ⟨j + 1, by go_num, by rw [HST.out, if_neg HZY.out], ⟨by omega⟩, ⟨pw_below_drewN HBJ.out _⟩⟩
                case measure => simp [intOf]; omega
              · have HZY := Aside0.mk hzy
                clear hzy
                go_wp2_with fail
                go_quiet (fail)
                go_wp2
                go_roundw
                case rel => exact ⟨j + 1, by go_num, by rw [HST.out, if_neg HZY.out], ⟨by omega⟩, ⟨pw_below_drewN HBJ.out _⟩⟩
                case measure => simp [intOf]; omega
          · obtain rfl : j = left.length := by have := HJ.out; omega
            rw [HIX.out]
            have H7 := Aside0.mk (H6.out.below HBJ.out)
            have LF7 := Aside0.mk (Kd.R_below LF6.out HBJ.out)
            have HB7 := Aside0.mk (below_step HB6.out HBJ.out)
            have B57 := Aside0.mk (blk_below B5.out HBJ.out)
            clear B7 B5 H6 LF6 HB6
            go_wp2_with fail
            refine (waymarkref23_Without.calls A6 c6 left (r : Int) (left.eraseIdx r) _ (Kd.R_reads' LF7.out).2.2 hc6 HWL.out).mono ?_
            rintro e w9 ⟨v9, rfl, ho, hb⟩
            obtain ⟨A9, c9, rfl, hc9⟩ := hr_slice ho
            have HLE := Aside0.mk (show (left.eraseIdx r).length = left.length - 1 by rw [List.length_eraseIdx, if_pos HRR.out])
            have H9 := Aside0.mk (H7.out.below hb)
            have HB9 := Aside0.mk (below_step HB7.out hb)
            have LF9 := Aside0.mk (Kd.R_lower ho HB7.out.size)
            have HA9 : Aside0 (Apart v' (.slice A9 (left.eraseIdx r).length c9)) := ⟨Apart.new H7.out.2.2 (fun k hk => Kd.R_base ho k hk)⟩
            have HOL9 : Aside0 ((Value.slice A9 (left.eraseIdx r).length c9).ownBlock ≠ some g5) := ⟨fun e => by have := Kd.R_base ho _ e; have := blk_lt B57.out; omega⟩
            have B59 := Aside0.mk (blk_below B57.out hb)
            clear ho hb H7 LF7 HB7 B57
            have hk9 : k ≤ 1000000 := by omega
            go_wp2
            go_roundw
            case rel => exact ⟨k + 1, takeF (y :: hs), left.eraseIdx r, v', y, by go_num, ⟨by have := HK.out; have := HLE.out; have := HRR.out; omega⟩, H9, LF9, HA9, HOV3, HOL9, HTH, HTP, ⟨.inr HTM.out⟩, B59, HB9⟩
            case measure => simp [intOf]; omega
    · obtain rfl : k = xs.length := by have := HK.out; omega
      obtain rfl : left = [] := List.eq_nil_of_length_eq_zero (by have := HK.out; omega)
      obtain rfl : hs = [] := List.eq_nil_of_length_eq_zero (by have := HQ.out.length_eq; simpa using this)
      go_wp2_with fail
      refine (take_zero (some ⟨gh, 0, none⟩) wr (.inr ⟨_, gh, v, rfl, HH.out⟩)).mono ?_
      rintro e w2 ⟨rfl, hb⟩
      have B51 := Aside0.mk (blk_below B5.out hb)
      have HB1 := Aside0.mk (below_step HB.out hb)
      clear hb B5 HB HH HLF
      have B52 := Aside0.mk (blk_alloc B51.out (.cells #[.int .u64 0, .int .i64 0] 30))
      have q0 := blk_cell B52.out 0
      have q1 := blk_cell B52.out 1
      simp at q0 q1
      go_wp2_with fail
      refine (put_none la _).mono ?_
      rintro e w3 ⟨rfl, hb⟩
      have HB3 := Aside0.mk (below_step (below_alloc HB1.out _) hb)
      clear hb q0 q1 B52 B51 HB1
      go_wp2_with fail
      refine (take_zero none _ (.inl rfl)).mono ?_
      rintro e w4 ⟨rfl, hb⟩
      have HB4 := Aside0.mk (below_step HB3.out hb)
      clear hb HB3
      go_wp2_with fail
      refine (first_zero none _ (.inl rfl)).mono ?_
      rintro e w5 ⟨rfl, hb⟩
      have HB5 := Aside0.mk (below_step (below_alloc HB4.out _) hb)
      clear hb HB4
      go_wp2_with fail
      refine (len_none _).mono ?_
      rintro e w6 ⟨rfl, hb⟩
      have HB6 := Aside0.mk (below_step (below_alloc HB5.out _) hb)
      clear hb HB5
      go_wp2_with fail
      refine (awake_calls _).mono ?_
      rintro e w7 ⟨rfl, hb⟩
      have HB7 := Aside0.mk (below_step HB6.out hb)
      clear hb HB6
      go_wp2
      go_ret
      exact ⟨rfl, HB7.out⟩

theorem sorts_any (A : Option Addr) (c : Nat) (xs : List S30) (w : World) (hC : Kd.C k30 w A xs.length xs) (hc : xs.length ≤ c) :
    Calls Try.prog 10 #[.slice A xs.length c] w fun e w' => e = .returned (.bool true) ∧ Below w.heap.size w w' := by
  by_cases h : 200 < xs.length
  · exact sorts_long A c xs w h
  · exact sorts_short A c xs w hC hc (by omega)
end Go.Proofs.Ytdkobokdeofiiaa.Hp
