/- Contract of heap.Put, for every input. -/
import Derived.Test.YtdkobokdeofiiaaHpU
import Derived.Test.YtdkobokdeofiiaaHpA
import Derived.Deep.RegionLaw
set_option linter.unusedVariables false
set_option linter.unusedSimpArgs false
namespace Go.Proofs.Ytdkobokdeofiiaa.Hp
open Go.RowKit Go.Proofs.YtdkobokdeofiiaaW.PrintWords Go.Proofs.YtdkobokdeofiiaaW.PrintLast Go.Proofs.YtdkobokdeofiiaaW.PrintMore

theorem info30x : ∃ i, Try.prog.info? 30 = some i ∧ i.zero = some (.agg #[.int .u64 0, .int .i64 0]) ∧ i.size = 2 ∧ i.bytes = 16 := by
  have := info30
  obtain ⟨i, h1, h2⟩ := Option.map_eq_some_iff.1 this
  simp only [Prod.mk.injEq] at h2
  exact ⟨i, h1, h2⟩
/-- append(list, spot), a step of a region that draws. -/
theorem step_app30 {ops : Array Oper} {o : Oper} {a : Act} {K : Act → World → Prop} {Q : Exit → Act → World → Prop} {E : Prop} {W : World} (B : Nat) (v : Value) (xs : List S30) (p : S30) (bp : Nat) (hgd : o.guard = none) (s x : Operand)
    (ho : o.op = .call { callee := .builtin .append, args := #[s, x], argTypes := #[53, 53] }) (hs : a.eval s = v) (hx : a.eval x = .slice (some ⟨bp, 0, none⟩) 1 1)
    (hR : Kd.R k30 30 W B (fun _ => True) v xs) (hnew : W.heap[bp]? = some (.cells #[.int .u64 p.f0, .int .i64 p.f1] 30 (0, 0))) (hBs : B ≤ W.heap.size) (hl : xs.length ≤ 1000000)
    (h : ∀ g cap w', SB w' g cap (xs ++ [p]) → B ≤ g → W.grownBy w' v.ownBlock → (v.ownBlock = some g ∨ g = W.heap.size) → K (a.put o.dst (.slice (some ⟨g, 0, none⟩) (xs.length + 1) cap)) w') :
    if Region.wanted o (yielded ops a.tmps) = true then Oper.wp Try.prog o a W K Q else E := by
  obtain ⟨i, hi, hz, hsz, hby⟩ := info30x
  obtain ⟨h0, inner, hown, hr⟩ := hR
  refine step_append_lies _ hgd s x 53 ho B 30 i _ 2 16 Try.underlying53 hi hz hsz hby rfl (by decide) v xs.length inner hs (k30_sz ▸ hown) ⟨bp, 0, none⟩ 1 1 [.int .u64 p.f0, .int .i64 p.f1] hx rfl (World.news_of_block hnew) (by simp [Value.oneCell']) (by decide) (by simp only [maxLen]; omega) (by omega) hBs _ rfl ?_
  intro g cap w' hown' hg hat hlt
  have hR' := Kd.R_appended (d := k30) (e := 30) (base := B) (ok := fun _ => True) (okp := fun _ => False) (v1 := .slice (some ⟨g, 0, none⟩) (xs.length + 1) cap) (cs := [.int .u64 p.f0, .int .i64 p.f1]) h0 hr (k30_mkM W B (fun _ => False) p) (fun _ hk => hk.elim) (fun _ _ => trivial) (k30_sz ▸ hown') hg (by
    rcases hat with hat | hat
    · exact .inl hat.symm
    · exact .inr ⟨g, rfl, by omega⟩)
  rcases SB.of_R hR' with ⟨e, _⟩ | ⟨g', cap', e, hg', hS⟩
  · simp at e
  · injection e with e1 e2 e3
    injection e1 with e1
    injection e1 with e1
    subst e1
    subst e3
    exact h g cap w' hS hg' hg hat

theorem KeepBut.lset {w w1 : World} {gh : Nat} {row : Option Nat} (h : KeepBut w w1 gh row) {g : Nat} (hg : row = some g ∨ w.heap.size ≤ g) (j : Nat) (u : Value) : KeepBut w (w1.setCell ⟨g, j, none⟩ u) gh row :=
  ⟨by simpa [World.setCell] using h.1, fun i hi hne hr => (Below.heap_setCell w1 ⟨g, j, none⟩ u i (by
    rintro rfl
    rcases hg with rfl | hg
    · exact hr rfl
    · exact absurd hi (by simpa using hg))).trans (h.2 i hi hne hr)⟩
theorem SB.ne {w : World} {gh g cap : Nat} {v : Value} {xs : List S30} (h : SB w g cap xs) (hb : w.heap[gh]? = some (.cells #[v] 94 (0, 0))) : g ≠ gh := by
  obtain ⟨cur, h1, _⟩ := h
  exact blk_ne h1 hb (by decide)
theorem Kp.row {B : Nat} {w w' : World} {gh g n cap : Nat} {v : Value} (h : Kp B w w' gh v (.slice (some ⟨g, 0, none⟩) n cap)) : v.ownBlock = some g ∨ w.heap.size ≤ g := by
  rcases h.2.2 with e | ⟨b, e, hb⟩
  · exact .inl e.symm
  · injection e with e
    subst e
    exact .inr hb
theorem Kp.set_row {B : Nat} {w w' : World} {gh g n cap : Nat} {v : Value} (h : Kp B w w' gh v (.slice (some ⟨g, 0, none⟩) n cap)) (hg : B ≤ g) (j : Nat) (u : Value) : Kp B w (w'.setCell ⟨g, j, none⟩ u) gh v (.slice (some ⟨g, 0, none⟩) n cap) :=
  ⟨h.1.setCell hg u, KeepBut.lset h.2.1 h.row j u, h.2.2⟩
theorem Kp.set_head {B : Nat} {w w' : World} {gh : Nat} {v v' : Value} (h : Kp B w w' gh v v') (hg : B ≤ gh) (j : Nat) (u : Value) : Kp B w (w'.setCell ⟨gh, j, none⟩ u) gh v v' :=
  ⟨h.1.setCell hg u, h.2.1.set_ j u, h.2.2⟩
theorem Kp.step {B : Nat} {w w' w2 : World} {gh : Nat} {v v' : Value} (h : Kp B w w' gh v v') (hb : Below w'.heap.size w' w2) (hB : B ≤ w.heap.size) : Kp B w w2 gh v v' :=
  ⟨h.1.trans (hb.mono (Nat.le_trans hB h.1.size)), h.2.1.trans (KeepBut.of_below hb gh v.ownBlock) (.inl rfl), h.2.2⟩
theorem Kp.drew {B : Nat} {w w' : World} {gh : Nat} {v v' : Value} (h : Kp B w w' gh v v') : Kp B w w'.drew gh v v' := ⟨below_drew h.1, h.2.1, h.2.2⟩
theorem Kp.drewN {B : Nat} {w w' : World} {gh : Nat} {v v' : Value} (h : Kp B w w' gh v v') (n : Nat) : Kp B w (w'.drewN n) gh v v' := ⟨pw_below_drewN h.1 n, h.2.1, h.2.2⟩
theorem Kp.grow {B : Nat} {w w1 W w2 : World} {gh : Nat} {v : Value} {xs : List S30} {g cap n : Nat} (hH : HL B w gh v xs) (h1 : Below w.heap.size w w1) (hW : Below w1.heap.size w1 W) (hg : W.grownBy w2 v.ownBlock) (hat : v.ownBlock = some g ∨ g = W.heap.size) :
    Kp B w w2 gh v (.slice (some ⟨g, 0, none⟩) n cap) := by
  have hB : B ≤ w.heap.size := Nat.le_trans hH.2.1 (Nat.le_of_lt (blk_lt hH.1))
  have hb : Below w.heap.size w W := below_step h1 hW
  have hrow : ∀ k, v.ownBlock = some k → B ≤ k := Kd.R_base hH.2.2
  refine ⟨(hb.mono hB).trans ⟨hg.os, hg.tape, hg.output, hg.size, fun k hk => hg.block k (Nat.lt_of_lt_of_le hk (Nat.le_trans hB hb.size)) (fun e => by have := hrow k e.symm; omega)⟩, ?_, ?_⟩
  · exact (KeepBut.of_below hb gh _).trans (KeepBut.of_grown hg gh) (.inl rfl)
  · rcases hat with e | e
    · exact .inl e.symm
    · exact .inr ⟨g, rfl, by rw [e]; exact hb.size⟩

theorem wrN (n : Nat) (h : n ≤ 1000001) : wrap64 (n : Int) = (n : Int) := by unfold wrap64; omega
theorem less_f (a b : S30) : cost_Less.f a.f0 a.f1 b.f0 b.f1 = some (ltb a b) := by
  unfold cost_Less.f ltb
  by_cases h : a.f0 = b.f0
  · simp [h]
  · simp [h]
theorem keep5 {w W W' : World} {a0 a1 b0 b1 c0 : Addr} {v0 v1 u0 u1 x0 : Value}
    (h : (W.cell? c0 = some x0) ∧ (W.cell? a0 = some v0 ∧ W.cell? a1 = some v1) ∧ (W.cell? b0 = some u0 ∧ W.cell? b1 = some u1) ∧ Aside0 (Below w.heap.size w W))
    (hb : Below W.heap.size W W') : (W'.cell? c0 = some x0) ∧ (W'.cell? a0 = some v0 ∧ W'.cell? a1 = some v1) ∧ (W'.cell? b0 = some u0 ∧ W'.cell? b1 = some u1) ∧ Aside0 (Below w.heap.size w W') := by
  obtain ⟨h0, ⟨h1, h2⟩, ⟨h4, h5⟩, h10⟩ := h
  exact ⟨pw_cell_below hb h0, ⟨pw_cell_below hb h1, pw_cell_below hb h2⟩, ⟨pw_cell_below hb h4, pw_cell_below hb h5⟩, ⟨below_step h10.out hb⟩⟩
theorem SB.get {w : World} {g cap : Nat} {xs : List S30} (h : SB w g cap xs) {k : Nat} (hk : k < xs.length) : w.cell? ⟨g, k * 2, none⟩ = some (.int .u64 (at_ xs k).f0) ∧ w.cell? ⟨g, k * 2 + 1, none⟩ = some (.int .i64 (at_ xs k).f1) ∧ w.frozen? ⟨g, k * 2, none⟩ = false ∧ w.frozen? ⟨g, k * 2 + 1, none⟩ = false := by
  obtain ⟨cur, hb, _, _, _, hc⟩ := h
  obtain ⟨h0, h1⟩ := hc k _ (at_some hk)
  exact ⟨(blk_cell hb _).trans h0, (blk_cell hb _).trans h1, blk_frozen hb _, blk_frozen hb _⟩
theorem SB.swap {w : World} {g cap : Nat} {xs : List S30} (h : SB w g cap xs) {i k : Nat} (hi : i < xs.length) (hk : k < xs.length) {x y : S30} (hx : at_ xs i = x) (hy : at_ xs k = y) :
    SB ((((w.setCell ⟨g, i * 2, none⟩ (.int .u64 y.f0)).setCell ⟨g, i * 2 + 1, none⟩ (.int .i64 y.f1)).setCell ⟨g, k * 2, none⟩ (.int .u64 x.f0)).setCell ⟨g, k * 2 + 1, none⟩ (.int .i64 x.f1)) g cap (swapL xs i k) := by
  subst hx hy
  unfold swapL
  exact (h.set1 hi (at_ xs k)).set1 (by simpa using hk) (at_ xs i)

set_option maxHeartbeats 2000000 in
set_option maxRecDepth 100000 in
theorem put_calls (B gh : Nat) (v : Value) (xs : List S30) (s : S30) (w : World) (h : HL B w gh v xs) (hl : xs.length ≤ 1000000) :
    Calls Try.prog 34 #[.pointer (some ⟨gh, 0, none⟩), .agg #[.int .u64 s.f0, .int .i64 s.f1]] w fun e w' => e = .returned (.tuple #[]) ∧ ∃ v', HL B w' gh v' (putF xs s) ∧ Kp B w w' gh v v' := by
  have H := Aside0.mk h
  obtain ⟨A, c, rfl⟩ := h.v
  have c0 := blk_cell h.1 0
  have f0 := blk_frozen h.1 0
  clear h
  simp at c0
  go_enter Try.func34, Try.ntmps34
  go_wp2_with fail
  refine wp_world (fun W => Aside0 (HL B W gh (.slice A xs.length c) xs) ∧ Aside0 (Below w.heap.size w W) ∧ W.cell? ⟨gh, 0, none⟩ = some (.slice A xs.length c) ∧ W.cell? ⟨w.heap.size, 0, none⟩ = some (.int .u64 s.f0) ∧ W.cell? ⟨w.heap.size, 1, none⟩ = some (.int .i64 s.f1)) ⟨⟨H.out.below (below_alloc (Below.refl _ _) _)⟩, ⟨below_alloc (Below.refl _ _) _⟩, ?_, ?_, ?_⟩ ?_
  · exact blk_cell (blk_alloc H.out.1 _) 0
  · exact blk_cell (blk_new w _) 0
  · exact blk_cell (blk_new w _) 1
  clear c0 f0
  rintro w1 ⟨H1, HB1, c0, s0, s1⟩
  have HLs := Aside0.mk hl
  clear hl
  have c1 := blk_cell (blk_alloc H1.out.1 (Obj.cells #[Value.int IntKind.u64 s.f0, Value.int IntKind.i64 s.f1] 30)) 0
  simp at c1
  go_cut [15] (fun s15 wx => ∃ g cap, s15 = .slice (some ⟨g, 0, none⟩) (xs.length + 1) cap ∧ Aside0 (B ≤ g) ∧ Aside0 (wx.heap[gh]? = some (.cells #[.slice (some ⟨g, 0, none⟩) (xs.length + 1) cap] 94 (0, 0))) ∧ Aside0 (SB wx g cap (xs ++ [s])) ∧ Aside0 (Kp B w wx gh (.slice A xs.length c) (.slice (some ⟨g, 0, none⟩) (xs.length + 1) cap)))
  case first =>
    go_region_law (refine step_app30 B (.slice A xs.length c) xs s w1.heap.size rfl (.tmp 12) (.tmp 14) rfl (by simp [Act.eval, Act.put]) (by simp [Act.eval, Act.put]) (by (with_reducible repeat (first | apply Kd.R_alloc | apply Kd.R_drewN | apply Kd.R_drew)); exact H1.out.2.2) (by first | exact blk_new _ _ | exact blk_drewN (blk_new _ _) _) (by first | (have := blk_lt H1.out.1; have := H1.out.2.1; simp; omega)) HLs.out ?_; intro g cap w2 hS hg hgr hat; have hne := Kd.R_ne H1.out.2.2 H1.out.1 (by decide); have hbk := (by first | exact blk_grown (blk_drew (blk_alloc H1.out.1 _)) hgr hne | exact blk_grown (blk_drew (blk_alloc (blk_drew H1.out.1) _)) hgr hne | exact blk_grown (blk_alloc (blk_drew H1.out.1) _) hgr hne | exact blk_grown (blk_alloc H1.out.1 _) hgr hne : w2.heap[gh]? = some (.cells #[.slice A xs.length c] 94 (0, 0))); have c9 := blk_cell hbk 0; have f9 := blk_frozen hbk 0; have HS := Aside0.mk hS; have HG := Aside0.mk hg; have HGR := Aside0.mk hgr; have HAT := Aside0.mk hat; have HBK := Aside0.mk hbk; clear hS hg hgr hat hne hbk; simp at c9)
    all_goals
      have hb3 := blk_put HBK.out 0 (.slice (some ⟨g, 0, none⟩) (xs.length + 1) cap) rfl
      have hs3 := HS.out.far (p := ⟨gh, 0, none⟩) (HS.out.ne HBK.out) (.slice (some ⟨g, 0, none⟩) (xs.length + 1) cap)
      have hk3 := (Kp.grow (n := xs.length + 1) (cap := cap) H.out HB1.out (by repeat (first | (with_reducible first | exact Below.refl _ _ | apply below_alloc | apply pw_below_drewN | apply below_drew1))) HGR.out HAT.out).set_head H.out.2.1 0 (.slice (some ⟨g, 0, none⟩) (xs.length + 1) cap)
      go_wp2_with fail
      go_meet
      exact ⟨g, cap, rfl, HG, ⟨hb3⟩, ⟨hs3⟩, ⟨hk3⟩⟩
  case rest =>
    obtain ⟨g, cap, rfl, HG, B3, S3, K3⟩ := hcut
    clear c0 s0 s1 c1 HB1 H1
    have c3 := blk_cell B3.out 0
    simp at c3
    have w0 : wrap64 (xs.length : Int) = (xs.length : Int) := wrN _ (by have := HLs.out; omega)
    go_wp2
    go_loopw [4] (fun v4 W => ∃ (ys : List S30) (i f : Nat), v4 = .int .i64 i ∧ ys.length = xs.length + 1 ∧ i < ys.length ∧ i ≤ f ∧ Aside0 (upF f ys i = putF xs s) ∧ Aside0 (SB W g cap ys) ∧ Aside0 (W.heap[gh]? = some (.cells #[.slice (some ⟨g, 0, none⟩) (xs.length + 1) cap] 94 (0, 0))) ∧ Aside0 (Kp B w W gh (.slice A xs.length c) (.slice (some ⟨g, 0, none⟩) (xs.length + 1) cap))) (fun i _ => (intOf i).toNat)
    case atStart => exact ⟨xs ++ [s], xs.length, xs.length, by rw [w0], by simp, by simp, Nat.le_refl _, ⟨rfl⟩, S3, B3, K3⟩
    case round =>
      clear w0 c3
      obtain ⟨ys, i, f, rfl, hyl, hi, hf, HU, HS, HB, HK⟩ := hrel
      rcases Nat.eq_zero_or_pos i with h0 | h0
      · subst h0
        have hu : upF f ys 0 = ys := by cases f <;> simp [upF]
        rw [hu] at HU
        go_wp2
        go_end0
        refine ⟨rfl, _, ⟨HB.out, H.out.2.1, ?_⟩, HK.out⟩
        have := HS.out.R HG.out
        rw [HU.out] at this
        have hl2 : (putF xs s).length = xs.length + 1 := by rw [← HU.out, hyl]
        rw [hl2] at this
        exact this
      · obtain ⟨f, rfl⟩ : ∃ f', f = f' + 1 := ⟨f - 1, by omega⟩
        obtain ⟨u0, hu0⟩ : ∃ u0, u0 + 1 = i := ⟨i - 1, by omega⟩
        obtain ⟨u, hu⟩ : ∃ u, u = u0 / 2 := ⟨_, rfl⟩
        have hui : (i - 1) / 2 = u := by omega
        have bu0 : u0 ≤ 1000001 := by have := HLs.out; omega
        have bu : u ≤ 1000001 := by omega
        have hi1 : (i : Int) - 1 = (u0 : Int) := by omega
        have hi2 : (u0 : Int) / 2 = (u : Int) := by omega
        have hul : u < ys.length := by omega
        have i1 : (i : Int) < (xs.length : Int) + 1 := by omega
        have i2 : (u : Int) < (xs.length : Int) + 1 := by omega
        have e3 : (0 < (i : Int)) = True := by simp; omega
        have HUI := Aside0.mk hui
        have e1 : wrap64 ((i : Int) - 1) = (u0 : Int) := by rw [hi1]; exact wrN _ bu0
        have e2 : wrap64 ((u0 : Int) / 2) = (u : Int) := by rw [hi2]; exact wrN _ bu
        clear hi1 hi2 bu bu0 hu hu0 hui
        obtain ⟨x, hx⟩ : ∃ x, at_ ys i = x := ⟨_, rfl⟩
        obtain ⟨y, hy⟩ : ∃ y, at_ ys u = y := ⟨_, rfl⟩
        have hg1 := HS.out.get hi
        have hg2 := HS.out.get hul
        rw [hx] at hg1
        rw [hy] at hg2
        obtain ⟨a0, a1, _, _⟩ := hg1
        obtain ⟨b0, b1, _, _⟩ := hg2
        have g0 := blk_cell HB.out 0
        simp at g0
        obtain ⟨r, hr⟩ : ∃ r, ltb x y = r := ⟨_, rfl⟩
        have hlf := less_f x y
        rw [hr] at hlf
        have HLF := Aside0.mk hlf
        have HR := Aside0.mk hr
        clear hlf hr
        have HX := Aside0.mk hx
        have HY := Aside0.mk hy
        clear hx hy
        go_upto_region 6 with (fail)
        rw [e2]
        clear e1 e2
        go_region_held3 (fun W => (W.cell? ⟨gh, 0, none⟩ = some (.slice (some ⟨g, 0, none⟩) (xs.length + 1) cap)) ∧ (W.cell? ⟨g, i * 2, none⟩ = some (.int .u64 x.f0) ∧ W.cell? ⟨g, i * 2 + 1, none⟩ = some (.int .i64 x.f1)) ∧ (W.cell? ⟨g, u * 2, none⟩ = some (.int .u64 y.f0) ∧ W.cell? ⟨g, u * 2 + 1, none⟩ = some (.int .i64 y.f1)) ∧ Aside0 (Below wr.heap.size wr W))
          ((first | (with_reducible assumption) | exact ⟨g0, ⟨a0, a1⟩, ⟨b0, b1⟩, ⟨below_drew (Below.refl _ _)⟩⟩ | exact ⟨g0, ⟨a0, a1⟩, ⟨b0, b1⟩, ⟨Below.refl _ _⟩⟩ | (exact keep5 (by with_reducible assumption) (below_alloc (Below.refl _ _) _))))
          (first
            | (go_at_call 19; (with_reducible refine (cost_Less.calls x.f0 x.f1 y.f0 y.f1 r _ HLF.out).mono ?_); rintro e w' ⟨rfl, hb⟩; have hS' := keep5 (by with_reducible assumption) hb))
        have hb9 := hS'.2.2.2.out
        have S9 := Aside0.mk (HS.out.below hb9)
        have B9 := Aside0.mk (blk_below HB.out hb9)
        have K9 := Aside0.mk (HK.out.step hb9 (Nat.le_trans H.out.2.1 (Nat.le_of_lt (blk_lt H.out.1))))
        have hU := HU.out
        unfold upF at hU
        rw [HUI.out, HX.out, HY.out, HR.out] at hU
        clear hb9 hS' a0 a1 b0 b1 g0 HS HB HK HU
        cases r
        · rw [if_neg (fun h => Bool.false_ne_true h.2)] at hU
          have HU := Aside0.mk hU
          clear hU
          go_wp2
          refine bodyPost_ret (results_none rfl _ _ _) rfl ?_
          refine ⟨rfl, _, ⟨B9.out, H.out.2.1, ?_⟩, K9.out⟩
          have := S9.out.R HG.out
          rw [HU.out] at this
          have hl2 : (putF xs s).length = xs.length + 1 := by rw [← HU.out, hyl]
          rw [hl2] at this
          exact this
        · rw [if_pos ⟨h0, rfl⟩] at hU
          have HU := Aside0.mk hU
          have HSW := Aside0.mk (S9.out.swap hi hul HX.out HY.out)
          have HKW := Aside0.mk ((((K9.out.set_row HG.out (i * 2) (.int .u64 y.f0)).set_row HG.out (i * 2 + 1) (.int .i64 y.f1)).set_row HG.out (u * 2) (.int .u64 x.f0)).set_row HG.out (u * 2 + 1) (.int .i64 x.f1))
          have hgne := Ne.symm (S9.out.ne B9.out)
          have HBW := Aside0.mk (blk_far (p := ⟨g, u * 2 + 1, none⟩) (blk_far (p := ⟨g, u * 2, none⟩) (blk_far (p := ⟨g, i * 2 + 1, none⟩) (blk_far (p := ⟨g, i * 2, none⟩) B9.out hgne (.int .u64 y.f0)) hgne (.int .i64 y.f1)) hgne (.int .u64 x.f0)) hgne (.int .i64 x.f1))
          have hg1 := S9.out.get hi
          have hg2 := S9.out.get hul
          rw [HX.out] at hg1
          rw [HY.out] at hg2
          obtain ⟨a0, a1, fa0, fa1⟩ := hg1
          obtain ⟨b0, b1, fb0, fb1⟩ := hg2
          have g0 := blk_cell B9.out 0
          simp at g0
          clear hU hgne
          have hne : ¬ i = u := by have := HUI.out; omega
          have n1 : ¬ u = i := fun h => hne h.symm
          have n2 : ¬ i * 2 = u * 2 + 1 := by omega
          have n3 : ¬ i * 2 + 1 = u * 2 := by omega
          have n4 : ¬ u * 2 = i * 2 + 1 := by omega
          have n5 : ¬ u * 2 + 1 = i * 2 := by omega
          go_wp2_with fail
          go_region
          go_wp2
          go_roundw
          case rel => exact ⟨swapL ys i u, u, f, rfl, by rw [swap_len]; exact hyl, by rw [swap_len]; exact hul, by have := HUI.out; omega, HU, HSW, HBW, by first | exact HKW | exact ⟨HKW.out.drew⟩ | exact ⟨HKW.out.drewN _⟩⟩
          case measure => have := HUI.out; simp [intOf]; omega
end Go.Proofs.Ytdkobokdeofiiaa.Hp
