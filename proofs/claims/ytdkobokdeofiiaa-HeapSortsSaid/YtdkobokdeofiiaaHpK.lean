/- Contracts of heap.Take, for every input. -/
import Derived.Test.YtdkobokdeofiiaaHpL
set_option linter.unusedVariables false
set_option linter.unusedSimpArgs false
namespace Go.Proofs.Ytdkobokdeofiiaa.Hp
open Go.RowKit Go.Proofs.YtdkobokdeofiiaaW.PrintWords Go.Proofs.YtdkobokdeofiiaaW.PrintLast Go.Proofs.YtdkobokdeofiiaaW.PrintMore

theorem SB.cut {w : World} {g cap : Nat} {xs : List S30} (h : SB w g cap xs) (n : Nat) : SB w g cap (xs.take n) := by
  obtain ⟨cur, h1, h2, h3, h4, h5⟩ := h
  refine ⟨cur, h1, h2, by rw [List.length_take]; omega, h4, fun j x hx => h5 j x ?_⟩
  rw [List.getElem?_take] at hx
  split at hx
  · exact hx
  · cases hx
theorem Kp.of_below {B : Nat} {w W : World} {gh : Nat} (v : Value) (h : Below w.heap.size w W) (hB : B ≤ w.heap.size) : Kp B w W gh v v := ⟨h.mono hB, KeepBut.of_below h gh v.ownBlock, .inl rfl⟩
theorem Kp.other {B : Nat} {w W : World} {gh : Nat} {v v' : Value} (h : Kp B w W gh v v') (hB : B ≤ w.heap.size) {g : Nat} (hg : w.heap.size ≤ g) (j : Nat) (u : Value) : Kp B w (W.setCell ⟨g, j, none⟩ u) gh v v' :=
  ⟨h.1.setCell (Nat.le_trans hB hg) u, KeepBut.lset h.2.1 (.inr hg) j u, h.2.2⟩
theorem Kp.as {B : Nat} {w W : World} {gh : Nat} {v v' v2 : Value} (h : Kp B w W gh v v') (e : v2.ownBlock = v'.ownBlock) : Kp B w W gh v v2 := ⟨h.1, h.2.1, e ▸ h.2.2⟩

set_option maxHeartbeats 400000 in
set_option maxRecDepth 100000 in
theorem take_zero (p : Option Addr) (w : World) (hn : p = none ∨ ∃ B gh v, p = some ⟨gh, 0, none⟩ ∧ HL B w gh v []) :
    Calls Try.prog 36 #[.pointer p] w fun e w' => e = .returned (.tuple #[.agg #[.int .u64 0, .int .i64 0], .bool false]) ∧ Below w.heap.size w w' := by
  have h35 : ∀ W, Below w.heap.size w W → Calls Try.prog 35 #[.pointer p] W fun e w' => e = .returned (.tuple #[.agg #[.int .u64 0, .int .i64 0], .bool false]) ∧ Below W.heap.size W w' := by
    intro W hb
    refine first_zero p W ?_
    rcases hn with rfl | ⟨B, gh, v, rfl, h⟩
    · exact .inl rfl
    · exact .inr ⟨B, gh, v, rfl, h.below hb⟩
  have H35 := Aside0.mk h35
  clear h35 hn
  go_enter Try.func36, Try.ntmps36
  go_wp2_with fail
  refine (H35.out _ (below_alloc (Below.refl _ _) _)).mono ?_
  rintro e w1 ⟨rfl, hb⟩
  have B1 := Aside0.mk (blk_below (blk_new w _) hb)
  have HB := Aside0.mk (below_step (below_alloc (Below.refl _ _) _) hb)
  clear hb
  go_upto_region 2 with (fail)
  refine wp_world (fun W => Aside0 (W.heap[w.heap.size]? = some (.cells #[.int .u64 0, .int .i64 0] 30 (0, 0))) ∧ Aside0 (Below w.heap.size w W)) ⟨⟨blk_alloc B1.out _⟩, ⟨below_alloc HB.out _⟩⟩ ?_
  clear B1 HB
  rintro w2 ⟨B2, HB⟩
  have c0 := blk_cell B2.out 0
  have c1 := blk_cell B2.out 1
  have f0 := blk_frozen B2.out 0
  have f1 := blk_frozen B2.out 1
  simp at c0 c1
  go_wp2
  have hc := blk_set (blk_set B2.out 0 (.int .u64 0)) 1 (.int .i64 0)
  have HC := Aside0.mk hc
  clear hc
  refine bodyPost_ret (results_ct rfl _ _ w.heap.size 30 #[.int .u64 0, .int .i64 0] (0, 0) _ rfl HC.out Try.underlying30 rfl (by kernel_rfl)) rfl ?_
  exact ⟨rfl, (HB.out.setCell (Nat.le_refl _) _).setCell (Nat.le_refl _) _⟩

theorem drop_set (x : S30) (xs : List S30) : dropF (x :: xs) = ((x :: xs).set 0 (at_ (x :: xs) xs.length)).take xs.length := rfl

set_option maxHeartbeats 4000000 in
set_option maxRecDepth 100000 in
theorem take_one (B gh : Nat) (v : Value) (x : S30) (xs : List S30) (w : World) (h : HL B w gh v (x :: xs)) (hl : xs.length ≤ 300000) :
    Calls Try.prog 36 #[.pointer (some ⟨gh, 0, none⟩)] w fun e w' => e = .returned (.tuple #[.agg #[.int .u64 x.f0, .int .i64 x.f1], .bool true]) ∧ ∃ v', HL B w' gh v' (takeF (x :: xs)) ∧ Kp B w w' gh v v' := by
  have H := Aside0.mk h
  have hBs : B ≤ w.heap.size := Nat.le_trans h.2.1 (Nat.le_of_lt (blk_lt h.1))
  have HBs := Aside0.mk hBs
  rcases SB.of_R h.2.2 with ⟨he, _⟩ | ⟨g, cap, rfl, hg, hS⟩
  · cases he
  have HG := Aside0.mk hg
  have HS := Aside0.mk hS
  have HB0 := Aside0.mk h.1
  have HLs := Aside0.mk hl
  clear h hBs hg hS hl
  go_enter Try.func36, Try.ntmps36
  go_wp2_with fail
  refine (first_one B gh _ x xs _ (H.out.below (below_alloc (Below.refl _ _) _))).mono ?_
  rintro e w1 ⟨rfl, hb⟩
  have B1 := Aside0.mk (blk_below (blk_new w _) hb)
  have HB := Aside0.mk (below_step (below_alloc (Below.refl _ _) _) hb)
  have hlt1 := Aside0.mk (blk_lt B1.out)
  clear hb
  go_upto_region 2 with (fail)
  obtain ⟨g4, hg4⟩ : ∃ g4, w1.heap.size = g4 := ⟨_, rfl⟩
  have hg4' : w.heap.size < g4 := by have := hlt1.out; omega
  refine wp_world (fun W => Aside0 (W.heap[w.heap.size]? = some (.cells #[.int .u64 0, .int .i64 0] 30 (0, 0))) ∧ Aside0 (W.heap[g4]? = some (.cells #[.int .u64 x.f0, .int .i64 x.f1] 30 (0, 0))) ∧ Aside0 (Below w.heap.size w W)) ⟨⟨?_⟩, ⟨?_⟩, ⟨?_⟩⟩ ?_
  · exact blk_alloc B1.out _
  · subst hg4
    exact blk_new w1 _
  · exact below_alloc HB.out _
  rw [hg4]
  clear hg4 B1 HB hlt1
  rintro w2 ⟨B2, B4, HB⟩
  have HG4 := Aside0.mk hg4'
  clear hg4'
  have hbh := blk_below HB0.out HB.out
  have h0 := blk_cell hbh 0
  simp at h0
  go_upto_region 5 with (fail)
  rw [wrN xs.length (by have := HLs.out; omega)]
  obtain ⟨z, hz⟩ : ∃ z, at_ (x :: xs) xs.length = z := ⟨_, rfl⟩
  have hS2 := HS.out.below HB.out
  have hg1 := hS2.get (k := xs.length) (by simp)
  have hg2 := hS2.get (k := 0) (by simp)
  rw [hz] at hg1
  rw [show at_ (x :: xs) 0 = x from rfl] at hg2
  obtain ⟨a0, a1, _, _⟩ := hg1
  obtain ⟨b0, b1, fb0, fb1⟩ := hg2
  have hgne := hS2.ne hbh
  have hlg := HS.out.lt
  have hk0 := Kp.of_below (gh := gh) (.slice (some ⟨g, 0, none⟩) (x :: xs).length cap) HB.out HBs.out
  have F1 := Aside0.mk (blk_far (p := ⟨g, 1, none⟩) (blk_far (p := ⟨g, 0, none⟩) B2.out (show w.heap.size ≠ g by omega) (.int .u64 z.f0)) (show w.heap.size ≠ g by omega) (.int .i64 z.f1))
  have F2 := Aside0.mk (blk_far (p := ⟨g, 1, none⟩) (blk_far (p := ⟨g, 0, none⟩) B4.out (show g4 ≠ g by have := HG4.out; omega) (.int .u64 z.f0)) (show g4 ≠ g by have := HG4.out; omega) (.int .i64 z.f1))
  have F3 := Aside0.mk (blk_far (p := ⟨g, 1, none⟩) (blk_far (p := ⟨g, 0, none⟩) hbh (Ne.symm hgne) (.int .u64 z.f0)) (Ne.symm hgne) (.int .i64 z.f1))
  have F4 := Aside0.mk (hS2.set1 (k := 0) (by simp) z)
  have F5 := Aside0.mk ((hk0.set_row HG.out 0 (.int .u64 z.f0)).set_row HG.out 1 (.int .i64 z.f1))
  have HZ := Aside0.mk hz
  simp only [Nat.zero_mul, Nat.zero_add] at b0 b1 fb0 fb1 F4
  have i1 : (xs.length : Int) < (xs.length : Int) + 1 := by omega
  clear hz hS2 hgne hlg hk0 hbh B2 B4
  go_region
  go_upto_region 6 with (fail)
  refine wp_world (fun W => Aside0 (W.heap[w.heap.size]? = some (.cells #[.int .u64 0, .int .i64 0] 30 (0, 0))) ∧ Aside0 (W.heap[g4]? = some (.cells #[.int .u64 x.f0, .int .i64 x.f1] 30 (0, 0))) ∧ Aside0 (W.heap[gh]? = some (.cells #[.slice (some ⟨g, 0, none⟩) (x :: xs).length cap] 94 (0, 0))) ∧
    Aside0 (SB W g cap ((x :: xs).set 0 z)) ∧ Aside0 (Kp B w W gh (.slice (some ⟨g, 0, none⟩) (x :: xs).length cap) (.slice (some ⟨g, 0, none⟩) (x :: xs).length cap))) ⟨⟨F1.out⟩, ⟨F2.out⟩, ⟨F3.out⟩, ⟨F4.out⟩, ⟨F5.out.drew⟩⟩ ?_
  clear F1 F2 F3 F4 F5 a0 a1 b0 b1 fb0 fb1 h0 HB
  rintro w3 ⟨G1, G2, G3, G4, G5⟩
  have c3 := blk_cell G3.out 0
  have f3 := blk_frozen G3.out 0
  simp at c3
  have hcap : xs.length + 1 ≤ cap := by obtain ⟨_, _, _, h3, _⟩ := HS.out; simpa using h3
  have hcap' : xs.length ≤ cap := by omega
  go_wp2_with fail
  have hl1 : g < w.heap.size := HS.out.lt
  have hl2 : gh < w.heap.size := blk_lt HB0.out
  have HL1 := Aside0.mk hl1
  have HL2 := Aside0.mk hl2
  have hgne := Aside0.mk (G4.out.ne G3.out)
  have L1 := Aside0.mk (blk_far (p := ⟨gh, 0, none⟩) G1.out (show w.heap.size ≠ gh by omega) (.slice (some ⟨g, 0, none⟩) xs.length cap))
  have L2 := Aside0.mk (blk_far (p := ⟨gh, 0, none⟩) G2.out (show g4 ≠ gh by have := HG4.out; omega) (.slice (some ⟨g, 0, none⟩) xs.length cap))
  have L3 := Aside0.mk (blk_put G3.out 0 (.slice (some ⟨g, 0, none⟩) xs.length cap) rfl)
  have L4 := Aside0.mk ((G4.out.cut xs.length).far (p := ⟨gh, 0, none⟩) hgne.out (.slice (some ⟨g, 0, none⟩) xs.length cap))
  have L5 := Aside0.mk ((G5.out.set_head H.out.2.1 0 (.slice (some ⟨g, 0, none⟩) xs.length cap)).as (v2 := .slice (some ⟨g, 0, none⟩) xs.length cap) rfl)
  rw [← HZ.out, ← drop_set] at L4
  clear hl1 hl2 c3 f3 hcap hcap' i1 G1 G2 G3 G4 G5
  go_loopw [7] (fun v7 W => ∃ (ys : List S30) (i f : Nat), v7 = .int .i64 i ∧ Aside0 (ys.length = xs.length) ∧ Aside0 (i < ys.length ∨ i = 0) ∧ Aside0 (ys.length ≤ f + i) ∧ Aside0 (downF f ys i = takeF (x :: xs)) ∧ Aside0 (W.heap[w.heap.size]? = some (.cells #[.int .u64 0, .int .i64 0] 30 (0, 0))) ∧ Aside0 (W.heap[g4]? = some (.cells #[.int .u64 x.f0, .int .i64 x.f1] 30 (0, 0))) ∧
    Aside0 (W.heap[gh]? = some (.cells #[.slice (some ⟨g, 0, none⟩) xs.length cap] 94 (0, 0))) ∧ Aside0 (SB W g cap ys) ∧ Aside0 (Kp B w W gh (.slice (some ⟨g, 0, none⟩) (x :: xs).length cap) (.slice (some ⟨g, 0, none⟩) xs.length cap))) (fun v7 _ => xs.length - (intOf v7).toNat)
  case atStart => exact ⟨dropF (x :: xs), 0, (dropF (x :: xs)).length, rfl, ⟨by rw [drop_len]; rfl⟩, ⟨.inr rfl⟩, ⟨Nat.le_refl _⟩, ⟨rfl⟩, L1, L2, L3, L4, L5⟩
  case round =>
    clear L1 L2 L3 L4 L5
    obtain ⟨ys, i, f, rfl, HYL, HI, HF, HD, L1, L2, L3, L4, L5⟩ := hrel
    have hHL : HL B wr gh (.slice (some ⟨g, 0, none⟩) xs.length cap) ys := ⟨L3.out, H.out.2.1, by have := L4.out.R HG.out; rw [HYL.out] at this; exact this⟩
    have HHL := Aside0.mk hHL
    clear hHL
    go_wp2_with fail
    refine (least_calls B gh _ ys i wr HHL.out (by have := HLs.out; have := HYL.out; omega) (by rcases HI.out with h | h <;> omega)).mono ?_
    rintro e w' ⟨rfl, hb⟩
    obtain ⟨kk, hkk⟩ : ∃ kk, leastF ys i = kk := ⟨_, rfl⟩
    rw [hkk]
    have HKK := Aside0.mk hkk
    have M1 := Aside0.mk (blk_below L1.out hb)
    have M2 := Aside0.mk (blk_below L2.out hb)
    have M3 := Aside0.mk (blk_below L3.out hb)
    have M4 := Aside0.mk (L4.out.below hb)
    have M5 := Aside0.mk (L5.out.step hb HBs.out)
    clear hkk hb L1 L2 L3 L4 L5 HHL
    by_cases hki : kk = i
    · subst hki
      have hd : downF f ys kk = ys := by
        cases f with
        | zero => rfl
        | succ f => unfold downF; rw [if_pos HKK.out]
      have c0 := blk_cell M1.out 0
      have c1 := blk_cell M1.out 1
      have f0 := blk_frozen M1.out 0
      have f1 := blk_frozen M1.out 1
      have d0 := blk_cell M2.out 0
      have d1 := blk_cell M2.out 1
      simp at c0 c1 d0 d1
      have HD2 := Aside0.mk hd
      clear hd
      go_wp2
      have hc := blk_set (blk_set M1.out 0 (.int .u64 x.f0)) 1 (.int .i64 x.f1)
      have HC := Aside0.mk hc
      clear hc
      refine bodyPost_ret (results_ct rfl _ _ w.heap.size 30 #[.int .u64 x.f0, .int .i64 x.f1] (0, 0) _ rfl HC.out Try.underlying30 rfl (by kernel_rfl)) rfl ?_
      have hg1 : gh ≠ w.heap.size := by have := HL2.out; omega
      have hg2 : g ≠ w.heap.size := by have := HL1.out; omega
      refine ⟨rfl, .slice (some ⟨g, 0, none⟩) xs.length cap, ⟨blk_far (p := ⟨w.heap.size, 1, none⟩) (blk_far (p := ⟨w.heap.size, 0, none⟩) M3.out hg1 _) hg1 _, H.out.2.1, ?_⟩, (M5.out.other HBs.out (Nat.le_refl _) 0 _).other HBs.out (Nat.le_refl _) 1 _⟩
      have := ((M4.out.far (p := ⟨w.heap.size, 0, none⟩) hg2 (.int .u64 x.f0)).far (p := ⟨w.heap.size, 1, none⟩) hg2 (.int .i64 x.f1)).R HG.out
      rw [HYL.out, ← HD2.out, HD.out] at this
      exact this
    · have hi0 : i < ys.length := by
        rcases HI.out with h | h
        · exact h
        · subst h
          rcases Nat.eq_zero_or_pos ys.length with h0 | h0
          · exfalso
            apply hki
            rw [← HKK.out]
            unfold leastF
            rw [if_neg (by omega), if_neg (by omega)]
          · exact h0
      obtain ⟨l1, l2, l3⟩ := least_law ys i hi0
      rw [HKK.out] at l1 l2
      have hik : i < kk := by
        rcases l2 with h | ⟨h | h, _⟩
        · exact absurd h hki
        · omega
        · omega
      have HIK := Aside0.mk hik
      obtain ⟨f, rfl⟩ : ∃ f', f = f' + 1 := ⟨f - 1, by have := HF.out; omega⟩
      have hD := HD.out
      unfold downF at hD
      rw [HKK.out, if_neg hki] at hD
      have HD2 := Aside0.mk hD
      obtain ⟨p, hp⟩ : ∃ p, at_ ys i = p := ⟨_, rfl⟩
      obtain ⟨q, hq⟩ : ∃ q, at_ ys kk = q := ⟨_, rfl⟩
      have hg1 := M4.out.get hi0
      have hg2 := M4.out.get l1
      rw [hp] at hg1
      rw [hq] at hg2
      obtain ⟨a0, a1, fa0, fa1⟩ := hg1
      obtain ⟨b0, b1, fb0, fb1⟩ := hg2
      have g0 := blk_cell M3.out 0
      simp at g0
      have HSW := Aside0.mk (M4.out.swap hi0 l1 hp hq)
      have HKW := Aside0.mk ((((M5.out.set_row HG.out (i * 2) (.int .u64 q.f0)).set_row HG.out (i * 2 + 1) (.int .i64 q.f1)).set_row HG.out (kk * 2) (.int .u64 p.f0)).set_row HG.out (kk * 2 + 1) (.int .i64 p.f1))
      have hgn := Ne.symm (M4.out.ne M3.out)
      have hgn1 : w.heap.size ≠ g := by have := HL1.out; omega
      have hgn4 : g4 ≠ g := by have := HL1.out; have := HG4.out; omega
      have far4 : ∀ {b : Nat} {cs : Array Value} {t : TypeId}, w'.heap[b]? = some (.cells cs t (0, 0)) → b ≠ g → ((((w'.setCell ⟨g, i * 2, none⟩ (.int .u64 q.f0)).setCell ⟨g, i * 2 + 1, none⟩ (.int .i64 q.f1)).setCell ⟨g, kk * 2, none⟩ (.int .u64 p.f0)).setCell ⟨g, kk * 2 + 1, none⟩ (.int .i64 p.f1)).heap[b]? = some (.cells cs t (0, 0)) :=
        fun {b cs t} h hn => blk_far (p := ⟨g, kk * 2 + 1, none⟩) (blk_far (p := ⟨g, kk * 2, none⟩) (blk_far (p := ⟨g, i * 2 + 1, none⟩) (blk_far (p := ⟨g, i * 2, none⟩) h hn _) hn _) hn _) hn _
      have N1 := Aside0.mk (far4 M1.out hgn1)
      have N2 := Aside0.mk (far4 M2.out hgn4)
      have N3 := Aside0.mk (far4 M3.out hgn)
      have i1 : (i : Int) < (xs.length : Int) := by have := HYL.out; omega
      have i2 : (kk : Int) < (xs.length : Int) := by have := HYL.out; omega
      have n0 : ¬ i = kk := by omega
      have n2 : ¬ i * 2 = kk * 2 + 1 := by omega
      have n3 : ¬ i * 2 + 1 = kk * 2 := by omega
      have n4 : ¬ kk * 2 = i * 2 + 1 := by omega
      have n5 : ¬ kk * 2 + 1 = i * 2 := by omega
      have HL0 := Aside0.mk l1
      have HI0 := Aside0.mk hi0
      clear hp hq hD HD hik hgn hgn1 hgn4 far4 l1 l2 l3 hi0 HI M1 M2 M3 M4 M5
      go_wp2_with fail
      go_region
      go_wp2
      go_roundw
      case rel => exact ⟨swapL ys i kk, kk, f, rfl, ⟨by rw [swap_len]; exact HYL.out⟩, ⟨.inl (by rw [swap_len]; exact HL0.out)⟩, ⟨by rw [swap_len]; have := HF.out; have := HIK.out; omega⟩, HD2, N1, N2, N3, HSW, by first | exact HKW | exact ⟨HKW.out.drew⟩ | exact ⟨HKW.out.drewN _⟩⟩
      case measure => have := HIK.out; have := HI0.out; have := HYL.out; simp [intOf]; omega
end Go.Proofs.Ytdkobokdeofiiaa.Hp
