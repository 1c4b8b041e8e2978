/- HeapActs, walked: for every input. -/
import Derived.Test.YtdkobokdeofiiaaHpW
set_option linter.unusedVariables false
set_option linter.unusedSimpArgs false
namespace Go.Proofs.Ytdkobokdeofiiaa.Hp
open Go.RowKit Go.Proofs.YtdkobokdeofiiaaW.PrintWords Go.Proofs.YtdkobokdeofiiaaW.PrintLast Go.Proofs.YtdkobokdeofiiaaW.PrintMore

/-- An act: a spot is put, or the first one is taken. -/
structure A58 where
  t : Bool
  s : S30
def k58 : Kd A58 := Kd.iso (Kd.pair Kd.bool (Kd.pair (Kd.int .u64) (Kd.int .i64))) (fun x : A58 => (x.t, x.s.f0, x.s.f1))
theorem k58_open {w : World} {x : A58} {cs : List Value} (h : k58.K w x cs) : cs = [.bool x.t, .int .u64 x.s.f0, .int .i64 x.s.f1] := by
  obtain ⟨_, _, rfl, rfl, _, _, rfl, rfl, rfl⟩ := h
  exact rfl
theorem k58_mk (w : World) (x : A58) : k58.K w x [.bool x.t, .int .u64 x.s.f0, .int .i64 x.s.f1] := ⟨[.bool x.t], [.int .u64 x.s.f0, .int .i64 x.s.f1], rfl, rfl, ⟨[.int .u64 x.s.f0], [.int .i64 x.s.f1], rfl, rfl, rfl⟩⟩
theorem act_at {w : World} {A : Option Addr} {n : Nat} {xs : List A58} (h : Kd.C k58 w A n xs) {k : Nat} (hk : k < xs.length) (hn : n = xs.length) :
    ∃ ad x, A = some ad ∧ xs[k]? = some x ∧ w.cell? (ad.add (k * 3)) = some (.bool x.t) ∧ w.cell? ⟨(ad.add (k * 3)).block, (ad.add (k * 3)).off + 1, none⟩ = some (.int .u64 x.s.f0) ∧ w.cell? ⟨(ad.add (k * 3)).block, (ad.add (k * 3)).off + 2, none⟩ = some (.int .i64 x.s.f1) := by
  obtain ⟨ad, c, e, _, hK, hc0⟩ := Kd.C_get h ⟨false, z30⟩ (k : Int) (by omega) (by omega)
  rw [show ((k : Int)).toNat = k from by omega] at hK hc0
  obtain ⟨x, hx⟩ : ∃ x, xs[k]? = some x := ⟨xs[k], List.getElem?_eq_getElem hk⟩
  have hg : xs.getD k ⟨false, z30⟩ = x := by rw [List.getD_eq_getElem?_getD, hx]; rfl
  rw [hg] at hK
  obtain rfl := k58_open hK
  exact ⟨ad, x, e, hx, hc0 0 _ rfl, by rw [← add_field _ _ 1 (by omega)]; exact hc0 1 _ rfl, by rw [← add_field _ _ 2 (by omega)]; exact hc0 2 _ rfl⟩

/-- Another list of spots, of the walk's own. -/
theorem lf_keep {B : Nat} {w w' : World} {lv : Value} {left : List S30} (h : Kd.R k30 30 w B (fun _ => True) lv left) {gh : Nat} {row : Option Nat} (hk : KeepBut w w' gh row) (hgh : some gh ≠ lv.ownBlock) (hrow : ∀ k, lv.ownBlock = some k → row ≠ some k) : Kd.R k30 30 w' B (fun _ => True) lv left :=
  Kd.R_mono (Kd.R_step (Kd.R_tight rfl h) (fun k hk' hlt => hk.2 k hlt (fun e => hgh (e ▸ hk')) (fun e => hrow k hk'.symm e.symm))) (fun _ _ => trivial)
theorem lf_grown {B : Nat} {w w' : World} {lv : Value} {left : List S30} (h : Kd.R k30 30 w B (fun _ => True) lv left) {row : Option Nat} (hk : w.grownBy w' row) (hrow : ∀ k, lv.ownBlock = some k → row ≠ some k) : Kd.R k30 30 w' B (fun _ => True) lv left :=
  Kd.R_mono (Kd.R_step (Kd.R_tight rfl h) (fun k hk' hlt => hk.block k hlt (fun e => hrow k hk'.symm e.symm))) (fun _ _ => trivial)
theorem hr_slice {B : Nat} {w : World} {lv : Value} {left : List S30} (h : Kd.R k30 30 w B (fun _ => True) lv left) : ∃ A c, lv = .slice A left.length c ∧ left.length ≤ c := by
  obtain ⟨A, c, e, hl, _⟩ := Kd.R_reads h
  exact ⟨A, c, e, hl⟩
/-- The heap and the list lie apart. -/
def Apart (v lv : Value) : Prop := ∀ k, lv.ownBlock = some k → v.ownBlock ≠ some k
theorem Apart.put {B : Nat} {w w' : World} {gh : Nat} {v v' lv : Value} {left : List S30} (h : Apart v lv) (hl : Kd.R k30 30 w B (fun _ => True) lv left) (hk : Kp B w w' gh v v') : Apart v' lv := by
  intro k hk1 hk2
  rcases hk.2.2 with e | ⟨b, e, hb⟩
  · exact h k hk1 (e ▸ hk2)
  · rw [e] at hk2
    injection hk2 with hk2
    have := Kd.R_lt hl k hk1
    omega
theorem Apart.new {B : Nat} {w : World} {v lv : Value} {xs : List S30} (hv : Kd.R k30 30 w B (fun _ => True) v xs) (hn : ∀ k, lv.ownBlock = some k → w.heap.size ≤ k) : Apart v lv := by
  intro k hk1 hk2
  have := Kd.R_lt hv k hk2
  have := hn k hk1
  omega
theorem Apart.grow {B : Nat} {w : World} {v lv lv' : Value} {xs : List S30} (h : Apart v lv) (hv : Kd.R k30 30 w B (fun _ => True) v xs) (hat : lv'.ownBlock = lv.ownBlock ∨ ∃ b, lv'.ownBlock = some b ∧ w.heap.size ≤ b) : Apart v lv' := by
  intro k hk1 hk2
  rcases hat with e | ⟨b, e, hb⟩
  · exact h k (e ▸ hk1) hk2
  · rw [e] at hk1
    injection hk1 with hk1
    have := Kd.R_lt hv k hk2
    omega

set_option maxHeartbeats 800000 in
set_option maxRecDepth 100000 in
theorem acts_long (A A2 : Option Addr) (c c2 : Nat) (xs : List S30) (as_ : List A58) (w : World) (h : 100 < xs.length ∨ 200 < as_.length) :
    Calls Try.prog 9 #[.slice A xs.length c, .slice A2 as_.length c2] w fun e w' => e = .returned (.bool true) ∧ Below w.heap.size w w' := by
  by_cases h1 : (100 : Int) < (xs.length : Int)
  · clear h
    go_enter Try.func9, Try.ntmps9
    go_wp2_with fail
    refine (awake_calls _).mono ?_
    rintro e w1 ⟨rfl, hb⟩
    have HB := Aside0.mk hb
    clear hb
    go_wp2
    go_ret
    exact ⟨rfl, HB.out⟩
  · have h2 : (200 : Int) < (as_.length : Int) := by omega
    clear h
    go_enter Try.func9, Try.ntmps9
    go_wp2_with fail
    refine (awake_calls _).mono ?_
    rintro e w1 ⟨rfl, hb⟩
    have HB := Aside0.mk hb
    clear hb
    go_wp2
    go_ret
    exact ⟨rfl, HB.out⟩

set_option maxHeartbeats 2000000 in
set_option maxRecDepth 100000 in
theorem acts_short (A A2 : Option Addr) (c c2 : Nat) (xs : List S30) (as_ : List A58) (w : World) (hC : Kd.C k30 w A xs.length xs) (hC2 : Kd.C k58 w A2 as_.length as_) (hc : xs.length ≤ c) (h1 : xs.length ≤ 100) (h2 : as_.length ≤ 200) :
    Calls Try.prog 9 #[.slice A xs.length c, .slice A2 as_.length c2] w fun e w' => e = .returned (.bool true) ∧ Below w.heap.size w w' := by
  have HC := Aside0.mk hC
  have HC2 := Aside0.mk hC2
  have HCC := Aside0.mk hc
  clear hC hC2 hc
  have i1 : ¬ (100 : Int) < (xs.length : Int) := by omega
  have i2 : ¬ (200 : Int) < (as_.length : Int) := by omega
  go_enter Try.func9, Try.ntmps9
  go_wp2_with fail
  refine (new_calls A c xs _ HC.out (by omega)).mono ?_
  rintro e w1 ⟨gh, v, rfl, hH, hb⟩
  have H1 := Aside0.mk hH
  have HB := Aside0.mk hb
  clear hH hb
  have HCw := Aside0.mk (Kd.C_below HC.out HB.out)
  go_wp2_with (first | ((with_reducible refine gate_dst (N := 24) rfl ?_); refine Kd.R_lit k30 (w0 := w1) w1.heap.size 30 ?hg (N := 24) ?hd (xs := ([] : List S30)) (inner := []) (ok := fun _ => True) (okp := fun _ => True) ?hr ?hp (fun _ hk => hk) trivial (Below.refl _ _) (Nat.le_refl _) (by simp) ?_; (case hd => rfl); (case hg => rfl); (case hr => first | (go_simp; done) | (go_simp; rfl)); (case hp => exact (Reps.none _ _)); intro v5 w5 ho5 hb5 hg5 hnew5; have HO5 := Aside0.mk ho5; have HB5 := Aside0.mk hb5; clear ho5 hb5 hg5 hnew5) | ((with_reducible refine gate_dst (N := 26) rfl ?_); refine Kd.R_append_rows k30 (w0 := w1) w1.heap.size rfl (.tmp 24) (.tmp 25) 53 30 (.agg #[(.int .u64 0), (.int .i64 0)]) 16 rfl Try.underlying53 info30 rfl (by decide) (by omega) v5 [] xs _ _ _ (fun _ => True) (fun _ => False) rfl rfl HO5.out (Kd.C_below HCw.out HB5.out) (fun _ _ h => h) (fun _ h => h.elim) (fun _ _ => trivial) HB5.out HB5.out.size (by simp; omega) ?_; intro v7 w7 ho7 hb7 hg7 hat7; have HO7 := Aside0.mk ho7; have HB7 := Aside0.mk hb7; clear ho7 hb7 hg7 hat7))
  rw [List.nil_append] at HO7
  have HP := Aside0.mk ((newF_law xs).1)
  have HQ := Aside0.mk ((newF_law xs).2)
  go_loopw [6, 7] (fun v6 v7 W => ∃ (k : Nat) (hs left : List S30) (v : Value), v7 = .int .i64 k ∧ Aside0 (k ≤ as_.length) ∧ Aside0 (HL w.heap.size W gh v hs) ∧ Aside0 (Kd.R k30 30 W w.heap.size (fun _ => True) v6 left) ∧ Aside0 (Apart v v6) ∧ Aside0 (Heaped hs) ∧ Aside0 (hs.Perm left) ∧ Aside0 (left.length ≤ xs.length + k) ∧ Aside0 (Below w.heap.size w W)) (fun _ v7 _ => as_.length - (intOf v7).toNat)
  case atStart => exact ⟨0, newF xs, xs, v, rfl, ⟨Nat.zero_le _⟩, ⟨H1.out.below HB7.out⟩, ⟨Kd.R_lower HO7.out HB.out.size⟩, ⟨Apart.new H1.out.2.2 (fun k hk => Kd.R_base HO7.out k hk)⟩, HP, HQ, ⟨Nat.le_refl _⟩, ⟨below_step HB.out HB7.out⟩⟩
  case round =>
    clear HO5 HB5 HO7 HB7 H1 HP HQ HB
    obtain ⟨k, hs, left, v, rfl, HK, HH, HLF, HA, HP, HQ, HN, HB⟩ := hrel
    have hr6 := hr_slice HLF.out
    obtain ⟨A6, c6, rfl, hc6⟩ := hr6
    by_cases hlt : k < as_.length
    · obtain ⟨ad, x, rfl, hx, b0, b1, b2⟩ := act_at HC2.out hlt rfl
      clear hx
      obtain ⟨xt, xs'⟩ := x
      have a0 := pw_cell_below HB.out b0
      have a1 := pw_cell_below HB.out b1
      have a2 := pw_cell_below HB.out b2
      have Q1 := Aside0.mk b1
      have Q2 := Aside0.mk b2
      clear b0 b1 b2
      cases xt
      · have hlen : hs.length = left.length := HQ.out.length_eq
        go_wp2_with fail
        refine (put_calls w.heap.size gh v hs xs' wr HH.out (by have := HN.out; have := HK.out; omega)).mono ?_
        rintro e w2 ⟨rfl, v', hh', hk'⟩
        have H2 := Aside0.mk hh'
        have hne : some gh ≠ (Value.slice A6 left.length c6).ownBlock := Kd.R_ne HLF.out HH.out.1 (by decide)
        have LF2 := Aside0.mk (lf_keep HLF.out hk'.2.1 hne HA.out)
        have HA2 := Aside0.mk (Apart.put HA.out HLF.out hk')
        have HB2 := Aside0.mk (HB.out.trans hk'.1)
        have d1 := pw_cell_below HB2.out Q1.out
        have d2 := pw_cell_below HB2.out Q2.out
        have HP2 := Aside0.mk (put_law hs xs' HP.out).1
        have HQ2 := Aside0.mk (((put_law hs xs' HP.out).2.trans (List.Perm.append_right [xs'] HQ.out)))
        have hl6 : left.length ≤ 1000 := by have := HN.out; have := HK.out; omega
        clear a0 a1 a2 hh' hk' hne HH HLF HA HB HP HQ
        go_wp2_with (first | ((with_reducible refine gate_builtin (b := .append) (xs := #[.tmp 46, .tmp 52]) rfl ?_); at_builtin; refine Kd.R_append k30 (w0 := w2) w.heap.size rfl (.tmp 46) (.tmp 52) 53 30 (.agg #[(.int .u64 0), (.int .i64 0)]) 16 rfl Try.underlying53 info30 rfl (by decide) (by omega) (.slice A6 left.length c6) left xs' [.int .u64 xs'.f0, .int .i64 xs'.f1] (fun _ => True) (fun _ => False) rfl rfl (k30_mkM _ _ _ xs') (fun _ hk => hk.elim) (fun _ _ => trivial) LF2.out (Below.refl _ _) HB2.out.size (by omega) ?_; intro v8 w3 ho hb hg hat; have H3 := Aside0.mk (show HL w.heap.size w3 gh v' (putF hs xs') from ⟨blk_grown H2.out.1 hg (Kd.R_ne LF2.out H2.out.1 (by decide)), H2.out.2.1, lf_grown H2.out.2.2 hg (fun k h1 h2 => HA2.out k h2 h1)⟩); have LF3 := Aside0.mk ho; have HA3 := Aside0.mk (Apart.grow HA2.out H2.out.2.2 hat); have HB3 := Aside0.mk (HB2.out.trans hb); clear ho hb hg hat))
        obtain ⟨A8, c8, rfl, hc8⟩ := hr_slice LF3.out
        refine (len_calls w.heap.size gh v' (putF hs xs') w3 H3.out).mono ?_
        rintro e w4 ⟨rfl, hb⟩
        rw [HQ2.out.length_eq]
        have H4 := Aside0.mk (H3.out.below hb)
        have LF4 := Aside0.mk (Kd.R_below LF3.out hb)
        have HB4 := Aside0.mk (below_step HB3.out hb)
        clear hb H3 LF3 HB3 H2 LF2 HB2
        have HLA := Aside0.mk (show (left ++ [xs']).length = left.length + 1 by simp)
        go_wp2
        have hla := HLA.out
        go_roundw
        case rel => exact ⟨k + 1, putF hs xs', left ++ [xs'], v', by go_num, ⟨by omega⟩, H4, by rw [← hla]; exact LF4, by rw [← hla]; exact HA3, HP2, HQ2, ⟨by have := HN.out; simp; omega⟩, HB4⟩
        case measure => simp [intOf]; omega
      · have hlen : hs.length = left.length := HQ.out.length_eq
        have HLEN := Aside0.mk hlen
        rcases Nat.eq_zero_or_pos hs.length with h0 | h0
        · obtain rfl : hs = [] := List.eq_nil_of_length_eq_zero h0
          obtain rfl : left = [] := List.eq_nil_of_length_eq_zero (by rw [← hlen]; exact h0)
          clear h0 hlen
          go_wp2_with fail
          refine (first_zero (some ⟨gh, 0, none⟩) wr (.inr ⟨_, gh, v, rfl, HH.out⟩)).mono ?_
          rintro e w2 ⟨rfl, hb⟩
          have H2 := Aside0.mk (HH.out.below hb)
          have HB2 := Aside0.mk (below_step HB.out hb)
          have LF2 := Aside0.mk (Kd.R_below HLF.out hb)
          clear hb a0 a1 a2 HH HB HLF
          go_wp2_with fail
          refine (take_zero (some ⟨gh, 0, none⟩) _ (.inr ⟨_, gh, v, rfl, H2.out.below (below_alloc (Below.refl _ _) _)⟩)).mono ?_
          rintro e w3 ⟨rfl, hb⟩
          have B8 := Aside0.mk (blk_below (blk_new w2 _) hb)
          have H3 := Aside0.mk ((H2.out.below (below_alloc (Below.refl _ _) _)).below hb)
          have HB3 := Aside0.mk (below_step (below_alloc HB2.out _) hb)
          have LF3 := Aside0.mk (Kd.R_below (Kd.R_alloc LF2.out _) hb)
          clear hb H2 HB2 LF2
          go_upto_region 13 with (fail)
          obtain ⟨g8, hg8⟩ : ∃ g8, w2.heap.size = g8 := ⟨_, rfl⟩
          obtain ⟨g10, hg10⟩ : ∃ g10, w3.heap.size = g10 := ⟨_, rfl⟩
          rw [hg8] at B8
          refine wp_world (fun W => Aside0 (W.heap[g8]? = some (.cells #[.int .u64 0, .int .i64 0] 30 (0, 0))) ∧ Aside0 (W.heap[g10]? = some (.cells #[.int .u64 0, .int .i64 0] 30 (0, 0))) ∧ Aside0 (HL w.heap.size W gh v []) ∧ Aside0 (Kd.R k30 30 W w.heap.size (fun _ => True) (.slice A6 ([] : List S30).length c6) []) ∧ Aside0 (Below w.heap.size w W)) ⟨⟨blk_alloc B8.out _⟩, ⟨by subst hg10; exact blk_new w3 _⟩, ⟨H3.out.below (below_alloc (Below.refl _ _) _)⟩, ⟨Kd.R_alloc LF3.out _⟩, ⟨below_alloc HB3.out _⟩⟩ ?_
          rw [hg8, hg10]
          clear hg8 hg10 B8 H3 LF3 HB3
          rintro w5 ⟨B8, B10, H5, LF5, HB5⟩
          have p0 := blk_cell B8.out 0
          have p1 := blk_cell B8.out 1
          have q0 := blk_cell B10.out 0
          have q1 := blk_cell B10.out 1
          simp at p0 p1 q0 q1
          go_wp2_with fail
          refine (len_calls w.heap.size gh v [] _ H5.out).mono ?_
          rintro e w6 ⟨rfl, hb⟩
          have H6 := Aside0.mk (H5.out.below hb)
          have LF6 := Aside0.mk (Kd.R_below LF5.out hb)
          have HB6 := Aside0.mk (below_step HB5.out hb)
          clear hb p0 p1 q0 q1 B8 B10 H5 LF5 HB5
          go_wp2
          go_roundw
          case rel => exact ⟨k + 1, [], [], v, by go_num, ⟨by omega⟩, H6, LF6, HA, HP, HQ, ⟨by simp⟩, HB6⟩
          case measure => simp [intOf]; omega
        · obtain ⟨y, hs, rfl⟩ : ∃ y hs', hs = y :: hs' := by
            cases hs with
            | nil => simp at h0
            | cons y hs' => exact ⟨y, hs', rfl⟩
          have hl6 : left.length ≤ 1000 := by have := HN.out; have := HK.out; omega
          have hl0 : 0 < left.length := by rw [← hlen]; exact h0
          obtain ⟨r, hr, hf, hm⟩ := first_law left (by omega) hl0
          have hmin := same_min HQ.out HP.out h0 hr hm
          have hwl := without_law left r hr (by omega)
          have htp := take_perm HQ.out HP.out h0 hr hmin
          have hth := (take_law _ HP.out h0).1
          have HTP := Aside0.mk htp
          have HTH := Aside0.mk hth
          have HMIN := Aside0.mk hmin
          have HWL := Aside0.mk hwl
          have HFL := Aside0.mk hf
          have HRR := Aside0.mk hr
          have hsl : hs.length ≤ 300000 := by simp at hlen; omega
          have HSL := Aside0.mk hsl
          clear h0 hlen hf hm hmin hwl htp hth hr hsl
          go_wp2_with fail
          refine (first_one w.heap.size gh v y hs wr HH.out).mono ?_
          rintro e w2 ⟨rfl, hb⟩
          have H2 := Aside0.mk (HH.out.below hb)
          have HB2 := Aside0.mk (below_step HB.out hb)
          have LF2 := Aside0.mk (Kd.R_below HLF.out hb)
          clear hb a0 a1 a2 HH HB HLF
          go_wp2_with fail
          refine (take_one w.heap.size gh v y hs _ (H2.out.below (below_alloc (Below.refl _ _) _)) HSL.out).mono ?_
          rintro e w3 ⟨rfl, v', hh', hk'⟩
          have hne2 : gh < w2.heap.size := blk_lt H2.out.1
          have hvl : ∀ k, v.ownBlock = some k → k < w2.heap.size := Kd.R_lt H2.out.2.2
          have B8 : Aside0 (w3.heap[w2.heap.size]? = some (.cells #[.int .u64 y.f0, .int .i64 y.f1] 30 (0, 0))) := ⟨(hk'.2.1.2 w2.heap.size (by simp) (by omega) (fun e => by have := hvl _ e.symm; omega)).trans (blk_new w2 _)⟩
          have H3 := Aside0.mk hh'
          have HB3 := Aside0.mk ((below_alloc HB2.out (Obj.cells #[Value.int IntKind.u64 y.f0, Value.int IntKind.i64 y.f1] 30)).trans hk'.1)
          have hne : some gh ≠ (Value.slice A6 left.length c6).ownBlock := Kd.R_ne LF2.out H2.out.1 (by decide)
          have LF3 := Aside0.mk (lf_keep (Kd.R_alloc LF2.out _) hk'.2.1 hne HA.out)
          have HA3 := Aside0.mk (Apart.put HA.out (Kd.R_alloc LF2.out _) hk')
          clear hh' hk' hne hne2 hvl H2 HB2 LF2 HA
          go_upto_region 13 with (fail)
          obtain ⟨g8, hg8⟩ : ∃ g8, w2.heap.size = g8 := ⟨_, rfl⟩
          obtain ⟨g10, hg10⟩ : ∃ g10, w3.heap.size = g10 := ⟨_, rfl⟩
          rw [hg8] at B8
          refine wp_world (fun W => Aside0 (W.heap[g8]? = some (.cells #[.int .u64 y.f0, .int .i64 y.f1] 30 (0, 0))) ∧ Aside0 (W.heap[g10]? = some (.cells #[.int .u64 y.f0, .int .i64 y.f1] 30 (0, 0))) ∧ Aside0 (HL w.heap.size W gh v' (takeF (y :: hs))) ∧ Aside0 (Kd.R k30 30 W w.heap.size (fun _ => True) (.slice A6 left.length c6) left) ∧ Aside0 (Below w.heap.size w W)) ⟨⟨blk_alloc B8.out _⟩, ⟨by subst hg10; exact blk_new w3 _⟩, ⟨H3.out.below (below_alloc (Below.refl _ _) _)⟩, ⟨Kd.R_alloc LF3.out _⟩, ⟨below_alloc HB3.out _⟩⟩ ?_
          rw [hg8, hg10]
          clear hg8 hg10 B8 H3 LF3 HB3
          rintro w5 ⟨B8, B10, H5, LF5, HB5⟩
          have p0 := blk_cell B8.out 0
          have p1 := blk_cell B8.out 1
          have q0 := blk_cell B10.out 0
          have q1 := blk_cell B10.out 1
          simp at p0 p1 q0 q1
          go_wp2_with fail
          refine (waymarkref23_First.calls left.length A6 c6 left (r : Int) _ (Kd.R_reads' LF5.out).2.2 hc6 HFL.out).mono ?_
          rintro e w6 ⟨rfl, hb⟩
          have H6 := Aside0.mk (H5.out.below hb)
          have LF6 := Aside0.mk (Kd.R_below LF5.out hb)
          have HB6 := Aside0.mk (below_step HB5.out hb)
          have B86 := Aside0.mk (blk_below B8.out hb)
          have B106 := Aside0.mk (blk_below B10.out hb)
          clear hb p0 p1 q0 q1 B8 B10 H5 LF5 HB5
          obtain ⟨ad6, rfl, l0, l1⟩ := voter30 (Kd.R_reads' LF6.out).2.2 HRR.out rfl
          rw [show at_ left r = y from HMIN.out] at l0 l1
          have q0 := blk_cell B106.out 0
          have q1 := blk_cell B106.out 1
          simp at q0 q1
          have i5 : (r : Int) < (left.length : Int) := by have := HRR.out; omega
          go_wp2_with fail
          go_quiet (fail)
          go_wp2_with fail
          have LF6' := Kd.R_drewN LF6.out nq
          refine (waymarkref23_Without.calls (some ad6) c6 left (r : Int) (left.eraseIdx r) _ (Kd.R_reads' LF6').2.2 hc6 HWL.out).mono ?_
          rintro e w7 ⟨v9, rfl, ho, hb⟩
          obtain ⟨A9, c9, rfl, hc9⟩ := hr_slice ho
          have HLE := Aside0.mk (show (left.eraseIdx r).length = left.length - 1 by rw [List.length_eraseIdx, if_pos HRR.out])
          have H7 := Aside0.mk (H6.out.below (below_step (pw_below_drewN (Below.refl _ _) nq) hb))
          have HB7 := Aside0.mk (below_step (pw_below_drewN HB6.out nq) hb)
          have LF7 := Aside0.mk (Kd.R_lower ho (show w.heap.size ≤ w6.heap.size from HB6.out.size))
          have HA7 : Aside0 (Apart v' (.slice A9 (left.eraseIdx r).length c9)) := ⟨Apart.new H6.out.2.2 (fun k hk => Kd.R_base ho k hk)⟩
          clear LF6' ho hb H6 LF6 HB6 B86 B106 l0 l1 q0 q1
          go_wp2_with fail
          refine (len_calls w.heap.size gh v' _ _ H7.out).mono ?_
          rintro e w8 ⟨rfl, hb⟩
          rw [HTP.out.length_eq]
          have H8 := Aside0.mk (H7.out.below hb)
          have LF8 := Aside0.mk (Kd.R_below LF7.out hb)
          have HB8 := Aside0.mk (below_step HB7.out hb)
          clear hb H7 LF7 HB7
          go_wp2
          go_roundw
          case rel => exact ⟨k + 1, takeF (y :: hs), left.eraseIdx r, v', by go_num, ⟨by omega⟩, H8, LF8, HA7, HTH, HTP, ⟨by have := HN.out; have := HLE.out; omega⟩, HB8⟩
          case measure => simp [intOf]; omega
    · obtain rfl : k = as_.length := by have := HK.out; omega
      go_wp2_with fail
      refine (awake_calls _).mono ?_
      rintro e w2 ⟨rfl, hb⟩
      have HB2 := Aside0.mk (below_step HB.out hb)
      clear hb
      go_wp2
      go_ret
      exact ⟨rfl, HB2.out⟩

theorem acts_any (A A2 : Option Addr) (c c2 : Nat) (xs : List S30) (as_ : List A58) (w : World) (hC : Kd.C k30 w A xs.length xs) (hC2 : Kd.C k58 w A2 as_.length as_) (hc : xs.length ≤ c) :
    Calls Try.prog 9 #[.slice A xs.length c, .slice A2 as_.length c2] w fun e w' => e = .returned (.bool true) ∧ Below w.heap.size w w' := by
  by_cases h : 100 < xs.length ∨ 200 < as_.length
  · exact acts_long A A2 c c2 xs as_ w h
  · exact acts_short A A2 c c2 xs as_ w hC hC2 hc (by omega) (by omega)
end Go.Proofs.Ytdkobokdeofiiaa.Hp
