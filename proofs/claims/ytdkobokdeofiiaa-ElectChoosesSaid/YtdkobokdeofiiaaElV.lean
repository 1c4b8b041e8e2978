/- Plain facts on voters who took those that were chosen, for every input. -/
import Derived.Test.YtdkobokdeofiiaaElT
set_option linter.unusedVariables false
set_option linter.unusedSimpArgs false
namespace Go.Proofs.Ytdkobokdeofiiaa.El
open Go.RowKit Go.Proofs.YtdkobokdeofiiaaW.PrintWords Go.Proofs.YtdkobokdeofiiaaW.PrintLast Go.Proofs.YtdkobokdeofiiaaW.PrintMore

/-- A node that may be chosen. -/
def Wt (xs : List S52) (n : Int) : Prop := ∃ x ∈ xs, 0 < x.f1 ∧ x.f0 = n
theorem mem_taken {a b : Int} {xs : List S52} {y : S52} : y ∈ takenF a b xs ↔ ∃ x ∈ xs, (⟨x.f0, x.f1, a, b⟩ : S52) = y := by unfold takenF; simp
theorem Wt_taken {a b : Int} {xs : List S52} {n : Int} : Wt (takenF a b xs) n ↔ Wt xs n := by
  unfold Wt
  constructor
  · rintro ⟨y, hy, h1, h2⟩
    obtain ⟨x, hx, rfl⟩ := mem_taken.1 hy
    exact ⟨x, hx, h1, h2⟩
  · rintro ⟨x, hx, h1, h2⟩
    exact ⟨_, mem_taken.2 ⟨x, hx, rfl⟩, h1, h2⟩
theorem taken_taken (a b c d : Int) (xs : List S52) : takenF c d (takenF a b xs) = takenF c d xs := by unfold takenF; simp
theorem taken_f2 {a b : Int} {xs : List S52} {y : S52} (h : y ∈ takenF a b xs) : y.f2 = a ∧ y.f3 = b := by
  obtain ⟨x, _, rfl⟩ := mem_taken.1 h
  exact ⟨rfl, rfl⟩
theorem taken_ok {a b : Int} (ha : 0 ≤ a ∧ a ≤ 64) (hb : 0 ≤ b ∧ b ≤ 64) : ∀ (xs : List S52) (last : Int), okFrom last xs = true → okFrom last (takenF a b xs) = true := by
  intro xs
  induction xs with
  | nil => intro _ _; rfl
  | cons x xs ih =>
    intro last h
    simp only [okFrom, Bool.and_eq_true, decide_eq_true_eq] at h
    obtain ⟨h1, h2⟩ := h
    show okFrom last (⟨x.f0, x.f1, a, b⟩ :: takenF a b xs) = true
    simp only [okFrom, Bool.and_eq_true, decide_eq_true_eq]
    exact ⟨⟨h1.1, h1.2.1, h1.2.2.1, h1.2.2.2.1, ha.1, ha.2, hb.1, hb.2⟩, ih _ h2⟩

theorem choose_range (xs : List S52) (h : okFrom 0 xs = true) : (0 ≤ (chooseF xs).1 ∧ (chooseF xs).1 ≤ 64) ∧ (0 ≤ (chooseF xs).2 ∧ (chooseF xs).2 ≤ 64) := by
  have hall := ok_all h
  obtain ⟨l1, l2, _⟩ := two_law xs h
  constructor
  · rcases l1 with h | ⟨x, hx, _, h⟩
    · omega
    · have := hall x hx; omega
  · rcases l2 with h | ⟨x, hx, _, h⟩
    · omega
    · have := hall x hx; omega

/-- Chosen again, when f (who may be chosen) and s were taken. -/
theorem choose_taken (xs : List S52) (hpos : ∀ x ∈ xs, 0 < x.f0) (f s : Int) (hf : Wt xs f) :
    (chooseF (takenF f s xs)).1 = f ∧ ((Wt xs s ∧ s ≠ f → (chooseF (takenF f s xs)).2 = s) ∧
      ((∀ n, Wt xs n → n = f) → (chooseF (takenF f s xs)).2 = 0) ∧ ((chooseF (takenF f s xs)).2 = 0 ∨ (Wt xs (chooseF (takenF f s xs)).2 ∧ (chooseF (takenF f s xs)).2 ≠ f)) ∧ ((chooseF (takenF f s xs)).2 = 0 → ∀ n, Wt xs n → n = f)) := by
  have hpos' : ∀ x ∈ takenF f s xs, 0 < x.f0 := by
    intro y hy
    obtain ⟨x, hx, rfl⟩ := mem_taken.1 hy
    exact hpos x hx
  obtain ⟨y, hy, hy1, hy2⟩ := Wt_taken (a := f) (b := s).2 hf
  have hb : (bestF (fun x => x.f2 == x.f0) (takenF f s xs)).1 = f ∧ 0 < f := by
    rcases best_two (fun x => x.f2 == x.f0) (takenF f s xs) hpos' with ⟨_, bn⟩ | ⟨x, hx, hx1, hx2, hx3, hx4⟩
    · have := bn y hy hy1
      simp at this
      exact absurd ((taken_f2 hy).1.trans hy2.symm) this
    · have h1 := (taken_f2 hx).1
      simp at hx2
      rw [hx3]
      omega
  have hc : chooseF (takenF f s xs) = (f, runF (fun x => x.f2 != x.f0) (takenF f s xs)) := by
    unfold chooseF
    rw [hb.1, if_neg (by omega)]
  rw [hc]
  refine ⟨rfl, ?_, ?_, ?_, ?_⟩
  · rintro ⟨hs, hne⟩
    obtain ⟨z, hz, hz1, hz2⟩ := Wt_taken (a := f) (b := s).2 hs
    have : (bestF (fun x => (x.f2 != x.f0) && (x.f3 == x.f0)) (takenF f s xs)).1 = s ∧ 0 < s := by
      rcases best_two (fun x => (x.f2 != x.f0) && (x.f3 == x.f0)) (takenF f s xs) hpos' with ⟨_, bn⟩ | ⟨x, hx, hx1, hx2, hx3, hx4⟩
      · have := bn z hz hz1
        have h1 := taken_f2 hz
        rw [h1.1, h1.2, hz2] at this
        simp at this
        exact absurd this.symm hne
      · have h1 := taken_f2 hx
        simp at hx2
        rw [hx3]
        omega
    show runF (fun x => x.f2 != x.f0) (takenF f s xs) = s
    unfold runF
    rw [this.1, if_pos this.2]
  · intro hall
    show runF (fun x => x.f2 != x.f0) (takenF f s xs) = 0
    rcases run_two (fun x => x.f2 != x.f0) (takenF f s xs) hpos' with ⟨r0, _⟩ | ⟨x, hx, hx1, hx2, _, _⟩
    · exact r0
    · have h1 := hall x.f0 (Wt_taken.1 ⟨x, hx, hx1, rfl⟩)
      have h2 := (taken_f2 hx).1
      simp at hx2
      omega
  · show runF (fun x => x.f2 != x.f0) (takenF f s xs) = 0 ∨ Wt xs (runF (fun x => x.f2 != x.f0) (takenF f s xs)) ∧ runF (fun x => x.f2 != x.f0) (takenF f s xs) ≠ f
    rcases run_two (fun x => x.f2 != x.f0) (takenF f s xs) hpos' with ⟨r0, _⟩ | ⟨x, hx, hx1, hx2, hx3, _⟩
    · exact .inl r0
    · have h2 := (taken_f2 hx).1
      simp at hx2
      rw [hx3]
      exact .inr ⟨Wt_taken.1 ⟨x, hx, hx1, rfl⟩, by omega⟩
  · show runF (fun x => x.f2 != x.f0) (takenF f s xs) = 0 → _
    intro h0 n hn
    rcases run_two (fun x => x.f2 != x.f0) (takenF f s xs) hpos' with ⟨_, rn⟩ | ⟨x, hx, hx1, hx2, hx3, hx4⟩
    · obtain ⟨z, hz, hz1, hz2⟩ := Wt_taken (a := f) (b := s).2 hn
      have := rn z hz hz1
      simp at this
      have h2 := (taken_f2 hz).1
      omega
    · omega
/-- Nobody may be chosen: nobody is. -/
theorem choose_nobody (xs : List S52) (hpos : ∀ x ∈ xs, 0 < x.f0) (h : ∀ n, ¬ Wt xs n) : chooseF xs = (0, 0) := by
  have b0 : ∀ p, (bestF p xs).1 = 0 := by
    intro p
    rcases best_two p xs hpos with ⟨h0, _⟩ | ⟨x, hx, hx1, _⟩
    · exact h0
    · exact absurd ⟨x, hx, hx1, rfl⟩ (h x.f0)
  have r0 : ∀ p, runF p xs = 0 := by
    intro p
    unfold runF
    rw [b0, if_neg (by omega), b0]
  unfold chooseF
  rw [b0, if_pos rfl, r0, r0]

/-- What follows when those that were chosen are taken, and again. -/
theorem stays_law (xs : List S52) (h : okFrom 0 xs = true) :
    (chooseF (takenF (chooseF xs).1 (chooseF xs).2 xs)).1 = (chooseF xs).1 ∧
    chooseF (takenF (chooseF (takenF (chooseF xs).1 (chooseF xs).2 xs)).1 (chooseF (takenF (chooseF xs).1 (chooseF xs).2 xs)).2 xs) = chooseF (takenF (chooseF xs).1 (chooseF xs).2 xs) := by
  have hpos : ∀ x ∈ xs, 0 < x.f0 := fun x hx => (ok_all h x hx).1
  obtain ⟨l1, l2, l3, l4, _⟩ := two_law xs h
  generalize hf : (chooseF xs).1 = f at *
  generalize hs : (chooseF xs).2 = s at *
  by_cases f0 : f = 0
  · -- nobody
    have hnone : ∀ n, ¬ Wt xs n := by
      rintro n ⟨x, hx, hx1, _⟩
      have := l4.2 f0
      unfold manyF at this
      rw [List.length_eq_zero_iff, List.filter_eq_nil_iff] at this
      exact this x hx (by simpa using hx1)
    have t0 : ∀ a b, chooseF (takenF a b xs) = (0, 0) := by
      intro a b
      refine choose_nobody _ ?_ (fun n hn => hnone n (Wt_taken.1 hn))
      intro y hy
      obtain ⟨x, hx, rfl⟩ := mem_taken.1 hy
      exact hpos x hx
    rw [t0]
    exact ⟨f0.symm, t0 _ _⟩
  · have hW : Wt xs f := by
      rcases l1 with h | ⟨x, hx, hx1, hx2⟩
      · exact absurd h f0
      · exact ⟨x, hx, hx1, hx2⟩
    obtain ⟨c1, _, _, c4, c5⟩ := choose_taken xs hpos f s hW
    refine ⟨c1, ?_⟩
    generalize hb : (chooseF (takenF f s xs)).2 = b at *
    obtain ⟨d1, d2, d3, _, _⟩ := choose_taken xs hpos f b hW
    have e : chooseF (takenF f s xs) = (f, b) := Prod.ext c1 hb
    rw [e]
    show chooseF (takenF f b xs) = (f, b)
    rcases c4 with h0 | h1
    · have := d3 (c5 h0)
      rw [← h0] at this
      exact Prod.ext d1 this
    · exact Prod.ext d1 (d2 h1)

theorem taken_len (a b : Int) (xs : List S52) : (takenF a b xs).length = xs.length := by unfold takenF; simp
theorem Fresh.C {B : Nat} {w : World} {A : Option Addr} {n c : Nat} {ys : List S52} (h : Fresh B w (.slice A n c) ys) (hl : ys.length ≤ 1000000) : n = ys.length ∧ ys.length ≤ c ∧ Kd.C k52 w A ys.length ys := by
  obtain ⟨A', c', he, hc, hF⟩ := h
  injection he with h1 h2 h3
  subst h1 h2 h3
  refine ⟨rfl, hc, ?_⟩
  rcases hF with rfl | ⟨g, rfl, _, hV⟩
  · exact ⟨rfl, by simp, fun h => by simp at h⟩
  · exact hV.C (by omega)
theorem Fresh.slice {B : Nat} {w : World} {v : Value} {ys : List S52} (h : Fresh B w v ys) : ∃ A c, v = .slice A ys.length c := by
  obtain ⟨A, c, he, _⟩ := h
  exact ⟨A, c, he⟩
theorem Fresh.below {B : Nat} {w w' : World} {v : Value} {ys : List S52} (h : Fresh B w v ys) (hb : Below w.heap.size w w') : Fresh B w' v ys := by
  obtain ⟨A, c, he, hc, hF⟩ := h
  refine ⟨A, c, he, hc, ?_⟩
  rcases hF with h | ⟨g, h1, h2, h3⟩
  · exact .inl h
  · exact .inr ⟨g, h1, h2, h3.below hb⟩
theorem Fresh.lower {B B' : Nat} {w : World} {v : Value} {ys : List S52} (h : Fresh B w v ys) (hb : B' ≤ B) : Fresh B' w v ys := by
  obtain ⟨A, c, he, hc, hF⟩ := h
  refine ⟨A, c, he, hc, ?_⟩
  rcases hF with h | ⟨g, h1, h2, h3⟩
  · exact .inl h
  · exact .inr ⟨g, h1, by omega, h3⟩

set_option maxHeartbeats 800000 in
set_option maxRecDepth 100000 in
theorem take_yes (A : Option Addr) (c : Nat) (xs : List S52) (w : World) (hC : Kd.C k52 w A xs.length xs) (hc : xs.length ≤ c) (hl : xs.length ≤ 70) (hok : okFrom 0 xs = true) :
    Calls Try.prog 40 #[.slice A xs.length c] w fun e w' => ∃ v, e = .returned v ∧ Fresh w.heap.size w' v (takenF (chooseF xs).1 (chooseF xs).2 xs) ∧ Below w.heap.size w w' := by
  have HK : Aside0 (elect_Check.f (xs.length + 1) xs = some 0) := ⟨by rw [check_f xs (by omega), hok]; rfl⟩
  have HC := Aside0.mk hC
  clear hC hok
  go_enter Try.func40, Try.ntmps40
  go_wp2_with fail
  refine (elect_Check.calls _ A c xs 0 _ HC.out hc HK.out).mono ?_
  rintro e w1 ⟨rfl, hb⟩
  have HB1 := Aside0.mk hb
  clear hb
  go_wp2_with fail
  refine (choose_yes _ A c xs _ (Kd.C_below HC.out HB1.out) hc (by omega) HK.out).mono ?_
  rintro e w2 ⟨rfl, hb⟩
  have HB2 := Aside0.mk (below_step HB1.out hb)
  clear hb
  go_wp2_with fail
  refine (taken_calls A c xs _ _ _ (Kd.C_below HC.out HB2.out) (by omega)).mono ?_
  rintro e w3 ⟨v, rfl, hF, hb⟩
  have HB3 := Aside0.mk (below_step HB2.out hb)
  have HF := Aside0.mk (hF.lower HB2.out.size)
  clear hb hF
  go_wp2
  go_ret
  exact ⟨_, rfl, HF.out, HB3.out⟩

set_option maxHeartbeats 800000 in
set_option maxRecDepth 100000 in
theorem take_no (A : Option Addr) (c : Nat) (xs : List S52) (w : World) (hC : Kd.C k52 w A xs.length xs) (hc : xs.length ≤ c) (hl : xs.length ≤ 70) (hok : okFrom 0 xs = false) :
    Calls Try.prog 40 #[.slice A xs.length c] w fun e w' => e = .returned (.slice none 0 0) ∧ Below w.heap.size w w' := by
  have HK : Aside0 (elect_Check.f (xs.length + 1) xs = some 1) := ⟨by rw [check_f xs (by omega), hok]; rfl⟩
  have HC := Aside0.mk hC
  clear hC hok
  go_enter Try.func40, Try.ntmps40
  go_wp2_with fail
  refine (elect_Check.calls _ A c xs 1 _ HC.out hc HK.out).mono ?_
  rintro e w1 ⟨rfl, hb⟩
  have HB1 := Aside0.mk hb
  clear hb
  go_wp2
  go_ret
  exact ⟨rfl, HB1.out⟩

set_option maxHeartbeats 800000 in
set_option maxRecDepth 100000 in
theorem settle_no (A : Option Addr) (c : Nat) (xs : List S52) (w : World) (hC : Kd.C k52 w A xs.length xs) (hc : xs.length ≤ c) (hl : xs.length ≤ 70) (hok : okFrom 0 xs = false) :
    Calls Try.prog 41 #[.slice A xs.length c] w fun e w' => e = .returned (.tuple #[.int .i64 0, .int .i64 0, .int .i64 0]) ∧ Below w.heap.size w w' := by
  have HK : Aside0 (elect_Check.f (xs.length + 1) xs = some 1) := ⟨by rw [check_f xs (by omega), hok]; rfl⟩
  have HC := Aside0.mk hC
  clear hC hok
  go_enter Try.func41, Try.ntmps41
  go_wp2_with fail
  refine (elect_Check.calls _ A c xs 1 _ HC.out hc HK.out).mono ?_
  rintro e w1 ⟨rfl, hb⟩
  have HB1 := Aside0.mk hb
  clear hb
  go_wp2
  go_ret3
  exact ⟨rfl, HB1.out⟩

/-- Who is chosen in the end, and how often it was taken. -/
def settleF (xs : List S52) : Int × Int × Int :=
  if (chooseF (takenF (chooseF xs).1 (chooseF xs).2 xs)).2 = (chooseF xs).2 then ((chooseF xs).1, (chooseF xs).2, 1) else ((chooseF xs).1, (chooseF (takenF (chooseF xs).1 (chooseF xs).2 xs)).2, 2)

set_option maxHeartbeats 1600000 in
set_option maxRecDepth 100000 in
theorem settle_yes (A : Option Addr) (c : Nat) (xs : List S52) (w : World) (hC : Kd.C k52 w A xs.length xs) (hc : xs.length ≤ c) (hl : xs.length ≤ 70) (hok : okFrom 0 xs = true) :
    Calls Try.prog 41 #[.slice A xs.length c] w fun e w' => e = .returned (.tuple #[.int .i64 (settleF xs).1, .int .i64 (settleF xs).2.1, .int .i64 (settleF xs).2.2]) ∧ Below w.heap.size w w' := by
  have HK : Aside0 (elect_Check.f (xs.length + 1) xs = some 0) := ⟨by rw [check_f xs (by omega), hok]; rfl⟩
  have HC := Aside0.mk hC
  obtain ⟨s1, s2⟩ := stays_law xs hok
  obtain ⟨r1, r2⟩ := choose_range xs hok
  obtain ⟨f, hf⟩ : ∃ f, (chooseF xs).1 = f := ⟨_, rfl⟩
  obtain ⟨s, hs⟩ : ∃ s, (chooseF xs).2 = s := ⟨_, rfl⟩
  have hset : settleF xs = if (chooseF (takenF f s xs)).2 = s then (f, s, 1) else (f, (chooseF (takenF f s xs)).2, 2) := by unfold settleF; rw [hf, hs]
  rw [hf, hs] at s1 s2
  rw [hf] at r1
  rw [hs] at r2
  obtain ⟨b, hb⟩ : ∃ b, (chooseF (takenF f s xs)).2 = b := ⟨_, rfl⟩
  rw [hb] at hset
  have hk1 := taken_ok r1 r2 xs 0 hok
  have r3 := (choose_range _ hk1).2
  rw [hb] at r3
  rw [s1, hb] at s2
  have e1 : chooseF (takenF f s xs) = (f, b) := Prod.ext s1 hb
  rw [e1] at s2
  have hk2 := taken_ok r1 r3 xs 0 hok
  have l1 := taken_len f s xs
  have l2 := taken_len f b xs
  have HK1 : Aside0 (elect_Check.f ((takenF f s xs).length + 1) (takenF f s xs) = some 0) := ⟨by rw [check_f _ (by omega), hk1]; rfl⟩
  have HK2 : Aside0 (elect_Check.f ((takenF f b xs).length + 1) (takenF f b xs) = some 0) := ⟨by rw [check_f _ (by omega), hk2]; rfl⟩
  have HSET := Aside0.mk hset
  have HF := Aside0.mk hf
  have HS := Aside0.mk hs
  have E1 := Aside0.mk e1
  have E2 := Aside0.mk s2
  have L1 := Aside0.mk l1
  have L2 := Aside0.mk l2
  clear hC hok s1 s2 r1 r2 r3 hset hf hs hb hk1 hk2 e1 l1 l2
  go_enter Try.func41, Try.ntmps41
  go_wp2_with fail
  refine (elect_Check.calls _ A c xs 0 _ HC.out hc HK.out).mono ?_
  rintro e w1 ⟨rfl, hb⟩
  have HB1 := Aside0.mk hb
  clear hb
  go_wp2_with fail
  refine (choose_yes _ A c xs _ (Kd.C_below HC.out HB1.out) hc (by omega) HK.out).mono ?_
  rw [HF.out, HS.out]
  rintro e w2 ⟨rfl, hb⟩
  have HB2 := Aside0.mk (below_step HB1.out hb)
  clear hb
  go_wp2
  refine wp_loop_rounds 2 ?_
  rw [rounds_succ]
  go_wp2_with fail
  refine (taken_calls A c xs f s _ (Kd.C_below HC.out HB2.out) (by omega)).mono ?_
  rintro e w3 ⟨v, rfl, hF, hb⟩
  have HB3 := Aside0.mk (below_step HB2.out hb)
  obtain ⟨A1, c1, rfl⟩ := hF.slice
  have HF1 := Aside0.mk hF
  clear hb hF
  go_wp2_with fail
  refine (choose_yes _ A1 c1 (takenF f s xs) _ (HF1.out.C (by have := L1.out; omega)).2.2 (HF1.out.C (by have := L1.out; omega)).2.1 (by have := L1.out; omega) HK1.out).mono ?_
  rw [E1.out]
  rintro e w4 ⟨rfl, hb⟩
  have HB4 := Aside0.mk (below_step HB3.out hb)
  have HF2 := Aside0.mk (HF1.out.below hb)
  clear hb
  by_cases hbs : b = s
  · have hbs' : (b == s) = true := beq_iff_eq.2 hbs
    have hset : settleF xs = (f, s, 1) := by rw [HSET.out, if_pos hbs]
    have HSET2 := Aside0.mk hset
    subst hbs
    clear hset HSET
    go_wp2
    go_ret3
    exact ⟨by rw [HSET2.out]; rfl, HB4.out⟩
  · have hbs' : (b == s) = false := beq_eq_false_iff_ne.2 hbs
    have hset : settleF xs = (f, b, 2) := by rw [HSET.out, if_neg hbs]
    have HSET2 := Aside0.mk hset
    clear hset HSET hbs
    go_wp2
    rw [rounds_succ]
    go_wp2_with fail
    refine (taken_calls A1 c1 (takenF f s xs) f b _ (HF2.out.C (by have := L1.out; omega)).2.2 (by have := L1.out; omega)).mono ?_
    rw [taken_taken]
    rintro e w5 ⟨v, rfl, hF, hb⟩
    have HB5 := Aside0.mk (below_step HB4.out hb)
    obtain ⟨A2, c2, rfl⟩ := hF.slice
    have HF3 := Aside0.mk hF
    clear hb hF
    go_wp2_with fail
    refine (choose_yes _ A2 c2 (takenF f b xs) _ (HF3.out.C (by have := L2.out; omega)).2.2 (HF3.out.C (by have := L2.out; omega)).2.1 (by have := L2.out; omega) HK2.out).mono ?_
    rw [E2.out]
    rintro e w6 ⟨rfl, hb⟩
    have HB6 := Aside0.mk (below_step HB5.out hb)
    clear hb
    go_wp2
    go_ret3
    exact ⟨by rw [HSET2.out]; rfl, HB6.out⟩
end Go.Proofs.Ytdkobokdeofiiaa.El
