/- Contracts of the closures of elect, and of best, for every input. -/
import Derived.Test.YtdkobokdeofiiaaElA
import Derived.LoopTactic
set_option linter.unusedVariables false
set_option linter.unusedSimpArgs false
namespace Go.Proofs.Ytdkobokdeofiiaa.El
open Go.RowKit Go.Proofs.YtdkobokdeofiiaaW.PrintWords Go.Proofs.YtdkobokdeofiiaaW.PrintLast Go.Proofs.YtdkobokdeofiiaaW.PrintMore

/-- A voter as a value. -/
def vot (x : S52) : Value := .agg #[.int .i64 x.f0, .int .i64 x.f1, .int .i64 x.f2, .int .i64 x.f3]

/-- What best finds: the node and the weight of the last one of the greatest weight above 0 among those that are meant. -/
def bestS (p : S52 → Bool) (s : Int × Int) (x : S52) : Int × Int := if 0 < x.f1 ∧ s.2 ≤ x.f1 ∧ p x = true then (x.f0, x.f1) else s
def bestF (p : S52 → Bool) (xs : List S52) : Int × Int := xs.foldl (bestS p) (0, 0)

set_option maxHeartbeats 400000 in
set_option maxRecDepth 100000 in
theorem c1_calls (x : S52) (w : World) : Calls Try.prog 61 #[vot x] w fun e w' => e = .returned (.bool (x.f2 != x.f0)) ∧ Below w.heap.size w w' := by
  unfold vot
  go_enter Try.func61, Try.ntmps61
  go_wp2
  go_ret
  exact ⟨rfl, below_alloc (Below.refl _ _) _⟩

set_option maxHeartbeats 400000 in
set_option maxRecDepth 100000 in
theorem c2_calls (x : S52) (w : World) : Calls Try.prog 63 #[vot x] w fun e w' => e = .returned (.bool (x.f2 == x.f0)) ∧ Below w.heap.size w w' := by
  unfold vot
  go_enter Try.func63, Try.ntmps63
  go_wp2
  go_ret
  exact ⟨rfl, below_alloc (Below.refl _ _) _⟩

set_option maxHeartbeats 400000 in
set_option maxRecDepth 100000 in
theorem c3_calls (x : S52) (g : Nat) (n : Int) (w : World) (hg : w.cell? ⟨g, 0, none⟩ = some (.int .i64 n)) : Calls Try.prog 64 #[vot x, .pointer (some ⟨g, 0, none⟩)] w fun e w' => e = .returned (.bool (x.f0 != n)) ∧ Below w.heap.size w w' := by
  unfold vot
  have hz : g < w.heap.size := World.block_lt_of_cell? w _ hg
  go_enter Try.func64, Try.ntmps64
  go_wp2
  go_ret
  exact ⟨rfl, below_alloc (Below.refl _ _) _⟩

/-- The world at this place, known by these facts alone. -/
theorem wp_world {P : Program} {C : Code} {Q : Exit → Act → World → Prop} {a : Act} {W : World} (F : World → Prop) (hF : F W) (h : ∀ W', F W' → C.wp P Q a W') : C.wp P Q a W := h W hF
theorem voter_at {w : World} {A : Option Addr} {n : Nat} {xs : List S52} (h : Kd.C k52 w A n xs) (k : Nat) (hk : k < n) : ∃ ad x, A = some ad ∧ xs[k]? = some x ∧ w.cell? (ad.add (k * 4)) = some (.int .i64 x.f0) ∧ w.cell? ⟨(ad.add (k * 4)).block, (ad.add (k * 4)).off + 1, none⟩ = some (.int .i64 x.f1) ∧
    w.cell? ⟨(ad.add (k * 4)).block, (ad.add (k * 4)).off + 2, none⟩ = some (.int .i64 x.f2) ∧ w.cell? ⟨(ad.add (k * 4)).block, (ad.add (k * 4)).off + 3, none⟩ = some (.int .i64 x.f3) := by
  obtain ⟨ad, hA, q0, q1, q2, q3⟩ := at_T52 h (k : Int) (by omega) (by omega)
  have hn : xs.length = n := h.1
  rw [Int.toNat_natCast] at q0 q1 q2 q3
  refine ⟨ad, rd_T52 xs k, hA, ?_, q0, q1, q2, q3⟩
  unfold rd_T52
  rw [Int.toNat_natCast, List.getD_eq_getElem?_getD, List.getElem?_eq_getElem (by omega)]
  rfl

theorem best_snoc (p : S52 → Bool) (xs : List S52) (k : Nat) (x : S52) (h : xs[k]? = some x) : bestF p (xs.take (k + 1)) = bestS p (bestF p (xs.take k)) x := by
  obtain ⟨hk, hx⟩ := List.getElem?_eq_some_iff.1 h
  unfold bestF
  rw [List.take_succ_eq_append_getElem hk, List.foldl_append, hx]
  rfl

set_option maxHeartbeats 800000 in
set_option maxRecDepth 100000 in
theorem best_calls (n : FuncId) (cap : List Value) (p : S52 → Bool) (A : Option Addr) (c : Nat) (xs : List S52) (w : World) (hC : Kd.C k52 w A xs.length xs) (hl : xs.length ≤ 1000000)
    (hEnt : ∀ args w, (callFunc n args).run Try.prog w = .ok (.enter n args) w)
    (hp : ∀ W x, Below w.heap.size w W → Calls Try.prog n (vot x :: cap).toArray W fun e w' => e = .returned (.bool (p x)) ∧ Below W.heap.size W w') :
    Calls Try.prog 62 #[.slice A xs.length c, .func (.func n) #[] cap.toArray] w fun e w' => e = .returned (.int .i64 (bestF p xs).1) ∧ Below w.heap.size w w' := by
  have HC := Aside0.mk hC
  have HP := Aside0.mk hp
  clear hC hp
  go_enter Try.func62, Try.ntmps62
  go_wp2
  go_loopw [5, 6, 11] (fun a b i W => ∃ (k : Nat) (at_ wt : Int), k ≤ xs.length ∧ i = .int .i64 k ∧ a = .int .i64 at_ ∧ b = .int .i64 wt ∧ Aside0 (bestF p (xs.take k) = (at_, wt)) ∧ Aside0 (Below w.heap.size w W)) (fun _ _ i _ => xs.length - (intOf i).toNat)
  case atStart => exact ⟨0, 0, 0, Nat.zero_le _, rfl, rfl, rfl, ⟨rfl⟩, ⟨Below.refl _ _⟩⟩
  case round =>
    obtain ⟨k, at_, wt, hk, rfl, rfl, rfl, hab, HB⟩ := hrel
    by_cases hlt : k < xs.length
    · obtain ⟨ad, x, hA, hx, q0, q1, q2, q3⟩ := voter_at (Kd.C_below HC.out HB.out) k hlt
      subst hA
      have HX := Aside0.mk hx
      clear hx
      go_upto_region 5 with (fail)
      refine wp_world (fun W => Aside0 (W.heap[wr.heap.size]? = some (.cells #[.int .i64 x.f0, .int .i64 x.f1, .int .i64 x.f2, .int .i64 x.f3] 52 (0, 0))) ∧ Aside0 (Below w.heap.size w W)) ⟨⟨blk_new _ _⟩, ⟨below_alloc HB.out _⟩⟩ ?_
      rintro W1 ⟨B1, HB1⟩
      have c0 := blk_cell B1.out 0
      have c1 := blk_cell B1.out 1
      have c2 := blk_cell B1.out 2
      have c3 := blk_cell B1.out 3
      simp at c0 c1 c2 c3
      clear q0 q1 q2 q3
      have hk1 : bestF p (xs.take (k + 1)) = bestS p (at_, wt) x := by rw [← hab.out]; exact best_snoc p xs k x HX.out
      have HK := Aside0.mk hk1
      clear hk1
      by_cases h1 : 0 < x.f1
      · by_cases h2 : wt ≤ x.f1
        · go_wp2_with fail
          refine (HP.out W1 x HB1.out).mono ?_
          rintro e W2 ⟨rfl, hb⟩
          have B2 := Aside0.mk (blk_below B1.out hb)
          have HB2 := Aside0.mk (below_step HB1.out hb)
          clear hb
          have d0 := blk_cell B2.out 0
          have d1 := blk_cell B2.out 1
          simp at d0 d1
          obtain ⟨q, hq⟩ : ∃ q, p x = q := ⟨_, rfl⟩
          rw [hq]
          have HQ := Aside0.mk hq
          clear hq
          cases q
          · go_wp2
            go_roundw
            case rel => exact ⟨k + 1, at_, wt, by omega, by go_num, rfl, rfl, ⟨by rw [HK.out]; unfold bestS; rw [if_neg (by rw [HQ.out]; simp)]⟩, HB2⟩
            case measure => simp [intOf]; omega
          · go_wp2
            go_quiet (fail)
            go_wp2
            go_roundw
            case rel => exact ⟨k + 1, x.f0, x.f1, by omega, by go_num, rfl, rfl, ⟨by rw [HK.out]; unfold bestS; rw [if_pos ⟨h1, h2, HQ.out⟩]⟩, ⟨pw_below_drewN HB2.out _⟩⟩
            case measure => simp [intOf]; omega
        · go_wp2
          go_roundw
          case rel => exact ⟨k + 1, at_, wt, by omega, by go_num, rfl, rfl, ⟨by rw [HK.out]; unfold bestS; rw [if_neg (fun h => h2 h.2.1)]⟩, HB1⟩
          case measure => simp [intOf]; omega
      · go_wp2
        go_roundw
        case rel => exact ⟨k + 1, at_, wt, by omega, by go_num, rfl, rfl, ⟨by rw [HK.out]; unfold bestS; rw [if_neg (fun h => h1 h.1)]⟩, HB1⟩
        case measure => simp [intOf]; omega
    · obtain rfl : k = xs.length := by omega
      have he : at_ = (bestF p xs).1 := by
        have := hab.out
        rw [List.take_length] at this
        rw [this]
      have HE := Aside0.mk he
      clear he
      go_wp2
      go_ret
      exact ⟨by rw [← HE.out]; rfl, HB.out⟩

set_option maxHeartbeats 800000 in
set_option maxRecDepth 100000 in
theorem c73_calls (x : S52) (g : Nat) (n : FuncId) (cap : List Value) (p : S52 → Bool) (w : World) (hg : w.cell? ⟨g, 0, none⟩ = some (.func (.func n) #[] cap.toArray))
    (hEnt : ∀ args w, (callFunc n args).run Try.prog w = .ok (.enter n args) w)
    (hp : ∀ W x, Below w.heap.size w W → Calls Try.prog n (vot x :: cap).toArray W fun e w' => e = .returned (.bool (p x)) ∧ Below W.heap.size W w') :
    Calls Try.prog 73 #[vot x, .pointer (some ⟨g, 0, none⟩)] w fun e w' => e = .returned (.bool (p x && (x.f3 == x.f0))) ∧ Below w.heap.size w w' := by
  have HP := Aside0.mk hp
  clear hp
  have hz : g < w.heap.size := World.block_lt_of_cell? w _ hg
  unfold vot
  go_enter Try.func73, Try.ntmps73
  go_wp2_with fail
  refine (HP.out _ x (below_alloc (Below.refl _ _) _)).mono ?_
  rintro e W2 ⟨rfl, hb⟩
  have B2 := Aside0.mk (blk_below (blk_new w _) hb)
  have HB2 := Aside0.mk (below_step (below_alloc (Below.refl _ _) _) hb)
  clear hb
  have d0 := blk_cell B2.out 0
  have d3 := blk_cell B2.out 3
  simp at d0 d3
  obtain ⟨q, hq⟩ : ∃ q, p x = q := ⟨_, rfl⟩
  rw [hq]
  have HQ := Aside0.mk hq
  clear hq
  cases q
  · go_wp2
    go_ret
    exact ⟨by rw [HQ.out]; rfl, HB2.out⟩
  · go_wp2
    go_ret
    exact ⟨by rw [HQ.out]; simp, HB2.out⟩

def runF (p : S52 → Bool) (xs : List S52) : Int := if 0 < (bestF (fun x => p x && (x.f3 == x.f0)) xs).1 then (bestF (fun x => p x && (x.f3 == x.f0)) xs).1 else (bestF p xs).1

theorem enter73 : ∀ args w, (callFunc 73 args).run Try.prog w = .ok (.enter 73 args) w := fun args w => enters_ Try.func73 (by kernel_rfl) rfl args w
theorem enter61 : ∀ args w, (callFunc 61 args).run Try.prog w = .ok (.enter 61 args) w := fun args w => enters_ Try.func61 (by kernel_rfl) rfl args w
theorem enter63 : ∀ args w, (callFunc 63 args).run Try.prog w = .ok (.enter 63 args) w := fun args w => enters_ Try.func63 (by kernel_rfl) rfl args w
theorem enter64 : ∀ args w, (callFunc 64 args).run Try.prog w = .ok (.enter 64 args) w := fun args w => enters_ Try.func64 (by kernel_rfl) rfl args w

set_option maxHeartbeats 800000 in
set_option maxRecDepth 100000 in
theorem runner_calls (n : FuncId) (cap : List Value) (p : S52 → Bool) (A : Option Addr) (c : Nat) (xs : List S52) (w : World) (hC : Kd.C k52 w A xs.length xs) (hl : xs.length ≤ 1000000)
    (hEnt : ∀ args w, (callFunc n args).run Try.prog w = .ok (.enter n args) w)
    (hp : ∀ W x, Below w.heap.size w W → Calls Try.prog n (vot x :: cap).toArray W fun e w' => e = .returned (.bool (p x)) ∧ Below W.heap.size W w') :
    Calls Try.prog 60 #[.slice A xs.length c, .func (.func n) #[] cap.toArray] w fun e w' => e = .returned (.int .i64 (runF p xs)) ∧ Below w.heap.size w w' := by
  have HC := Aside0.mk hC
  have HP := Aside0.mk hp
  have HE := Aside0.mk hEnt
  clear hC hp hEnt
  have B0 := Aside0.mk (blk_new w (.cells #[.func (.func n) #[] cap.toArray] 92))
  have HB0 := Aside0.mk (below_alloc (Below.refl w.heap.size w) (.cells #[.func (.func n) #[] cap.toArray] 92))
  have hr : runF p xs = (if 0 < (bestF (fun x => p x && (x.f3 == x.f0)) xs).1 then (bestF (fun x => p x && (x.f3 == x.f0)) xs).1 else (bestF p xs).1) := rfl
  have HR := Aside0.mk hr
  clear hr
  go_enter Try.func60, Try.ntmps60
  go_wp2_with fail
  refine (best_calls 73 [.pointer (some ⟨w.heap.size, 0, none⟩)] (fun x => p x && (x.f3 == x.f0)) A c xs _ (Kd.C_below HC.out HB0.out) hl enter73 ?_).mono ?_
  · intro W x hb
    refine c73_calls x w.heap.size n cap p W ((blk_cell (blk_below B0.out hb) 0).trans rfl) HE.out ?_
    intro W' x' hb'
    exact HP.out W' x' (below_step (below_step HB0.out hb) hb')
  rintro e W1 ⟨rfl, hb⟩
  have HB1 := Aside0.mk (below_step HB0.out hb)
  have B1 := Aside0.mk (blk_below B0.out hb)
  clear hb
  generalize (bestF (fun x => p x && (x.f3 == x.f0)) xs).1 = r at HR ⊢
  have c0 := blk_cell B1.out 0
  simp at c0
  by_cases h0 : 0 < r
  · go_wp2
    go_ret
    exact ⟨by rw [HR.out, if_pos h0]; rfl, HB1.out⟩
  · go_wp2_with fail
    refine (best_calls n cap p A c xs _ (Kd.C_below HC.out HB1.out) hl HE.out ?_).mono ?_
    · intro W x hb
      exact HP.out W x (below_step HB1.out hb)
    rintro e W2 ⟨rfl, hb⟩
    have HB2 := Aside0.mk (below_step HB1.out hb)
    clear hb
    go_wp2
    go_ret
    exact ⟨by rw [HR.out, if_neg (by omega)]; rfl, HB2.out⟩

/-- Who is chosen of voters that may be. -/
def chooseF (xs : List S52) : Int × Int :=
  if (bestF (fun x => x.f2 == x.f0) xs).1 = 0 then (runF (fun x => x.f2 != x.f0) xs, runF (fun x => x.f0 != runF (fun x => x.f2 != x.f0) xs) xs)
  else ((bestF (fun x => x.f2 == x.f0) xs).1, runF (fun x => x.f2 != x.f0) xs)

set_option maxHeartbeats 800000 in
set_option maxRecDepth 100000 in
theorem choose_no (k : Nat) (A : Option Addr) (c : Nat) (xs : List S52) (w : World) (hC : Kd.C k52 w A xs.length xs) (hc : xs.length ≤ c) (h : elect_Check.f k xs = some 1) :
    Calls Try.prog 31 #[.slice A xs.length c] w fun e w' => e = .returned (.tuple #[.int .i64 0, .int .i64 0]) ∧ Below w.heap.size w w' := by
  have HC := Aside0.mk hC
  have HK := Aside0.mk h
  have HB0 := Aside0.mk (below_alloc (Below.refl w.heap.size w) (.cells #[.int .i64 0] 3))
  clear hC h
  go_enter Try.func31, Try.ntmps31
  go_wp2_with fail
  refine (elect_Check.calls k A c xs 1 _ (Kd.C_below HC.out HB0.out) hc HK.out).mono ?_
  rintro e W1 ⟨rfl, hb⟩
  have HB1 := Aside0.mk (below_step HB0.out hb)
  have B1 := Aside0.mk (blk_below (blk_new w (.cells #[.int .i64 0] 3)) hb)
  clear hb
  have c0 := blk_cell B1.out 0
  have f0 := blk_frozen B1.out 0
  simp at c0
  go_wp2
  refine bodyPost_ret (v := .tuple #[.int .i64 0, .int .i64 0]) (by simp [results, Try.results31, go_sem, c0]) rfl ⟨rfl, ?_⟩
  exact HB1.out.setCell (Nat.le_refl _) _

set_option maxHeartbeats 1600000 in
set_option maxRecDepth 100000 in
theorem choose_yes (k : Nat) (A : Option Addr) (c : Nat) (xs : List S52) (w : World) (hC : Kd.C k52 w A xs.length xs) (hc : xs.length ≤ c) (hl : xs.length ≤ 1000000) (h : elect_Check.f k xs = some 0) :
    Calls Try.prog 31 #[.slice A xs.length c] w fun e w' => e = .returned (.tuple #[.int .i64 (chooseF xs).1, .int .i64 (chooseF xs).2]) ∧ Below w.heap.size w w' := by
  have HC := Aside0.mk hC
  have HK := Aside0.mk h
  have HB0 := Aside0.mk (below_alloc (Below.refl w.heap.size w) (.cells #[.int .i64 0] 3))
  clear hC h
  obtain ⟨b, hbf⟩ : ∃ b, (bestF (fun x => x.f2 == x.f0) xs).1 = b := ⟨_, rfl⟩
  obtain ⟨r, hrf⟩ : ∃ r, runF (fun x => x.f2 != x.f0) xs = r := ⟨_, rfl⟩
  obtain ⟨s, hsf⟩ : ∃ s, runF (fun x => x.f0 != r) xs = s := ⟨_, rfl⟩
  have HF : Aside0 (chooseF xs = if b = 0 then (r, s) else (b, r)) := ⟨by unfold chooseF; rw [hbf, hrf, hsf]⟩
  have HBF := Aside0.mk hbf
  have HRF := Aside0.mk hrf
  have HSF := Aside0.mk hsf
  clear hbf hrf hsf
  go_enter Try.func31, Try.ntmps31
  go_wp2_with fail
  refine (elect_Check.calls k A c xs 0 _ (Kd.C_below HC.out HB0.out) hc HK.out).mono ?_
  rintro e W1 ⟨rfl, hb⟩
  have HB1 := Aside0.mk (below_step HB0.out hb)
  have B1 := Aside0.mk (blk_below (blk_new w (.cells #[.int .i64 0] 3)) hb)
  clear hb
  go_wp2_with fail
  refine (runner_calls 61 [] (fun x => x.f2 != x.f0) A c xs _ (Kd.C_below HC.out HB1.out) hl enter61 (fun W x _ => c1_calls x W)).mono ?_
  rw [HRF.out]
  rintro e W2 ⟨rfl, hb⟩
  have HB2 := Aside0.mk (below_step HB1.out hb)
  have B2 := Aside0.mk (blk_below B1.out hb)
  clear hb HB1 B1 HB0
  go_wp2_with fail
  refine (best_calls 63 [] (fun x => x.f2 == x.f0) A c xs _ (Kd.C_below HC.out HB2.out) hl enter63 (fun W x _ => c2_calls x W)).mono ?_
  rw [HBF.out]
  rintro e W3 ⟨rfl, hb⟩
  have HB3 := Aside0.mk (below_step HB2.out hb)
  have B3 := Aside0.mk (blk_below B2.out hb)
  clear hb HB2 B2
  have c0 := blk_cell B3.out 0
  have f0 := blk_frozen B3.out 0
  simp at c0
  by_cases h0 : b = 0
  · have h0' : (b == 0) = true := beq_iff_eq.2 h0
    have e1 : (chooseF xs).1 = r := by rw [HF.out, if_pos h0]
    have e2 : (chooseF xs).2 = s := by rw [HF.out, if_pos h0]
    have E1 := Aside0.mk e1
    have E2 := Aside0.mk e2
    clear e1 e2 h0
    go_upto_region 7 with (fail)
    refine wp_world (fun W => Aside0 (W.heap[w.heap.size]? = some (.cells #[.int .i64 r] 3 (0, 0))) ∧ Aside0 (Below w.heap.size w W)) ⟨⟨blk_put (blk_put B3.out 0 _ rfl) 0 _ rfl⟩, ⟨below_set (below_set HB3.out (Nat.le_refl _)) (Nat.le_refl _)⟩⟩ ?_
    clear c0 f0 B3 HB3
    rintro W4 ⟨B4, HB4⟩
    have c0 := blk_cell B4.out 0
    have f0 := blk_frozen B4.out 0
    simp at c0
    go_wp2_with fail
    refine (runner_calls 64 [.pointer (some ⟨w.heap.size, 0, none⟩)] (fun x => x.f0 != r) A c xs _ (Kd.C_below HC.out HB4.out) hl enter64 (fun W x hb => c3_calls x w.heap.size r W ((blk_cell (blk_below B4.out hb) 0).trans rfl))).mono ?_
    rw [HSF.out]
    rintro e W5 ⟨rfl, hb⟩
    have HB5 := Aside0.mk (below_step HB4.out hb)
    have B5 := Aside0.mk (blk_below B4.out hb)
    clear hb HB4 B4 c0 f0
    have c0 := blk_cell B5.out 0
    have f0 := blk_frozen B5.out 0
    simp at c0
    go_wp2
    refine bodyPost_ret (v := .tuple #[.int .i64 r, .int .i64 s]) (by simp [results, Try.results31, go_sem, c0]) rfl ⟨by rw [E1.out, E2.out], ?_⟩
    exact below_set HB5.out (Nat.le_refl _)
  · have h0' : (b == 0) = false := beq_eq_false_iff_ne.2 h0
    have e1 : (chooseF xs).1 = b := by rw [HF.out, if_neg h0]
    have e2 : (chooseF xs).2 = r := by rw [HF.out, if_neg h0]
    have E1 := Aside0.mk e1
    have E2 := Aside0.mk e2
    clear e1 e2 h0
    go_upto_region 8 with (fail)
    refine wp_world (fun W => Aside0 (W.heap[w.heap.size]? = some (.cells #[.int .i64 b] 3 (0, 0))) ∧ Aside0 (Below w.heap.size w W)) ⟨⟨blk_put B3.out 0 _ rfl⟩, ⟨below_set HB3.out (Nat.le_refl _)⟩⟩ ?_
    clear c0 f0 B3 HB3
    rintro W4 ⟨B4, HB4⟩
    have c0 := blk_cell B4.out 0
    have f0 := blk_frozen B4.out 0
    simp at c0
    go_wp2
    refine bodyPost_ret (v := .tuple #[.int .i64 b, .int .i64 r]) (by simp [results, Try.results31, go_sem, c0]) rfl ⟨by rw [E1.out, E2.out], ?_⟩
    exact below_set HB4.out (Nat.le_refl _)
end Go.Proofs.Ytdkobokdeofiiaa.El
