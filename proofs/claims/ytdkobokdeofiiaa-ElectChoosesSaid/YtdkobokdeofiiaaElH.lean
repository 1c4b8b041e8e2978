/- ElectTwo (the theorem of two), walked: for every input. -/
import Derived.Test.YtdkobokdeofiiaaElG
import Derived.Test.YtdkobokdeofiiaaElM
import Derived.LoopTactic
set_option linter.unusedVariables false
set_option linter.unusedSimpArgs false
namespace Go.Proofs.Ytdkobokdeofiiaa.El
open Go.RowKit Go.Proofs.YtdkobokdeofiiaaW.PrintWords Go.Proofs.YtdkobokdeofiiaaW.PrintLast Go.Proofs.YtdkobokdeofiiaaW.PrintMore

theorem k52_sz : k52.sz = 4 := rfl
theorem C_three (w : World) (g : Nat) (h : w.heap[g]? = some (.cells #[.int .i64 1, .int .i64 1, .int .i64 0, .int .i64 0, .int .i64 2, .int .i64 1, .int .i64 0, .int .i64 0, .int .i64 3, .int .i64 1, .int .i64 0, .int .i64 0] 52 (0, 0))) :
    Kd.C k52 w (some ⟨g, 0, none⟩) 3 [⟨1, 1, 0, 0⟩, ⟨2, 1, 0, 0⟩, ⟨3, 1, 0, 0⟩] := by
  refine ⟨rfl, by omega, fun _ => ⟨_, rfl, fun j p hp => ?_⟩⟩
  match j, hp with
  | 0, hp =>
    injection hp with hp; subst hp
    refine ⟨_, rfl, k52_mk w _, fun i u hu => ?_⟩
    rw [add_plain, blk_cell h]
    match i, hu with
    | 0, hu => exact hu
    | 1, hu => exact hu
    | 2, hu => exact hu
    | 3, hu => exact hu
  | 1, hp =>
    injection hp with hp; subst hp
    refine ⟨_, rfl, k52_mk w _, fun i u hu => ?_⟩
    rw [add_plain, blk_cell h]
    match i, hu with
    | 0, hu => exact hu
    | 1, hu => exact hu
    | 2, hu => exact hu
    | 3, hu => exact hu
  | 2, hp =>
    injection hp with hp; subst hp
    refine ⟨_, rfl, k52_mk w _, fun i u hu => ?_⟩
    rw [add_plain, blk_cell h]
    match i, hu with
    | 0, hu => exact hu
    | 1, hu => exact hu
    | 2, hu => exact hu
    | 3, hu => exact hu

set_option maxHeartbeats 400000 in
set_option maxRecDepth 100000 in
theorem awake_calls (w : World) : Calls Try.prog 30 #[] w fun e w' => e = .returned (.bool true) ∧ Below w.heap.size w w' := by
  have hck : elect_Check.f 4 [⟨1, 1, 0, 0⟩, ⟨2, 1, 0, 0⟩, ⟨3, 1, 0, 0⟩] = some 0 := by kernel_rfl
  have h1 : chooseF [⟨1, 1, 0, 0⟩, ⟨2, 1, 0, 0⟩, ⟨3, 1, 0, 0⟩] = (3, 2) := by kernel_rfl
  have HK := Aside0.mk hck
  have H1 := Aside0.mk h1
  clear hck h1
  go_enter Try.func30, Try.ntmps30
  go_wp2_with fail
  refine (choose_yes 4 (some ⟨w.heap.size, 0, none⟩) 3 [⟨1, 1, 0, 0⟩, ⟨2, 1, 0, 0⟩, ⟨3, 1, 0, 0⟩] _ (C_three _ w.heap.size (blk_new w _)) (by simp) (by simp) HK.out).mono ?_
  rw [H1.out]
  rintro e w1 ⟨rfl, hb⟩
  have HB := Aside0.mk (below_step (below_alloc (Below.refl _ _) _) hb)
  clear hb
  go_wp2
  go_ret
  exact ⟨rfl, HB.out⟩

set_option maxHeartbeats 400000 in
set_option maxRecDepth 100000 in
theorem two_long (A : Option Addr) (c : Nat) (xs : List S52) (w : World) (h : 70 < xs.length) :
    Calls Try.prog 8 #[.slice A xs.length c] w fun e w' => e = .returned (.bool true) ∧ Below w.heap.size w w' := by
  have h' : (70 : Int) < (xs.length : Int) := by omega
  go_enter Try.func8, Try.ntmps8
  go_wp2_with fail
  refine (awake_calls _).mono ?_
  rintro e w1 ⟨rfl, hb⟩
  have HB := Aside0.mk hb
  clear hb
  go_wp2
  go_ret
  exact ⟨rfl, HB.out⟩

set_option maxHeartbeats 400000 in
set_option maxRecDepth 100000 in
theorem two_no (A : Option Addr) (c : Nat) (xs : List S52) (w : World) (hC : Kd.C k52 w A xs.length xs) (hc : xs.length ≤ c) (h : xs.length ≤ 70) (hm : okFrom 0 xs = false) :
    Calls Try.prog 8 #[.slice A xs.length c] w fun e w' => e = .returned (.bool true) ∧ Below w.heap.size w w' := by
  have h' : (xs.length : Int) ≤ 70 := by omega
  have HM : Aside0 (waymarkref55_May.f (xs.length + 1) xs = some false) := ⟨by rw [may_f xs (by omega), hm]⟩
  have HC := Aside0.mk hC
  clear hm hC
  go_enter Try.func8, Try.ntmps8
  go_wp2_with fail
  refine (waymarkref55_May.calls _ A c xs false _ HC.out hc HM.out).mono ?_
  rintro e w1 ⟨rfl, hb⟩
  have HB := Aside0.mk hb
  clear hb
  go_wp2_with fail
  refine (awake_calls _).mono ?_
  rintro e w2 ⟨rfl, hb⟩
  have HB2 := Aside0.mk (below_step HB.out hb)
  clear hb
  go_wp2
  go_ret
  exact ⟨rfl, HB2.out⟩

/-- What the law's first loop counts and finds. -/
def st1 (a b : Int) (s : Nat × Bool × Bool) (x : S52) : Nat × Bool × Bool := if 0 < x.f1 then (s.1 + 1, s.2.1 || (x.f0 == a), s.2.2 || (x.f0 == b)) else s
def F1 (a b : Int) (xs : List S52) : Nat × Bool × Bool := xs.foldl (st1 a b) (0, a == 0, b == 0)
def st2 (n : Nat) (x : S52) : Nat := if 0 < x.f1 ∧ x.f2 = x.f0 then n + 1 else n
def F2 (xs : List S52) : Nat := xs.foldl st2 0
theorem F1_snoc (a b : Int) (xs : List S52) (k : Nat) (x : S52) (h : xs[k]? = some x) : F1 a b (xs.take (k + 1)) = st1 a b (F1 a b (xs.take k)) x := by
  obtain ⟨hk, hx⟩ := List.getElem?_eq_some_iff.1 h
  unfold F1
  rw [List.take_succ_eq_append_getElem hk, List.foldl_append, hx]
  rfl
theorem F2_snoc (xs : List S52) (k : Nat) (x : S52) (h : xs[k]? = some x) : F2 (xs.take (k + 1)) = st2 (F2 (xs.take k)) x := by
  obtain ⟨hk, hx⟩ := List.getElem?_eq_some_iff.1 h
  unfold F2
  rw [List.take_succ_eq_append_getElem hk, List.foldl_append, hx]
  rfl
theorem F1_any (a b : Int) (xs : List S52) : ∀ s : Nat × Bool × Bool, (xs.foldl (st1 a b) s).1 = s.1 + manyF xs ∧ ((xs.foldl (st1 a b) s).2.1 = true ↔ s.2.1 = true ∨ ∃ x ∈ xs, 0 < x.f1 ∧ x.f0 = a) ∧ ((xs.foldl (st1 a b) s).2.2 = true ↔ s.2.2 = true ∨ ∃ x ∈ xs, 0 < x.f1 ∧ x.f0 = b) := by
  induction xs with
  | nil => intro s; simp [manyF]
  | cons y ys ih =>
    intro s
    rw [List.foldl_cons]
    obtain ⟨h1, h2, h3⟩ := ih (st1 a b s y)
    rw [h1, h2, h3]
    by_cases hy : 0 < y.f1
    · have e : st1 a b s y = (s.1 + 1, s.2.1 || (y.f0 == a), s.2.2 || (y.f0 == b)) := by unfold st1; rw [if_pos hy]
      rw [e]
      refine ⟨?_, ?_, ?_⟩
      · unfold manyF; rw [List.filter_cons, if_pos (by simpa using hy)]; simp; omega
      · simp [hy, or_assoc]
      · simp [hy, or_assoc]
    · have e : st1 a b s y = s := by unfold st1; rw [if_neg hy]
      rw [e]
      refine ⟨?_, ?_, ?_⟩
      · unfold manyF; rw [List.filter_cons, if_neg (by simpa using hy)]
      · simp [hy]
      · simp [hy]
theorem F2_any (xs : List S52) : ∀ n : Nat, xs.foldl st2 n = n + firstsF xs := by
  induction xs with
  | nil => intro n; simp [firstsF]
  | cons y ys ih =>
    intro n
    rw [List.foldl_cons, ih]
    by_cases hy : 0 < y.f1 ∧ y.f2 = y.f0
    · have e : st2 n y = n + 1 := by unfold st2; rw [if_pos hy]
      rw [e]
      unfold firstsF; rw [List.filter_cons, if_pos (by simpa using hy)]; simp; omega
    · have e : st2 n y = n := by unfold st2; rw [if_neg hy]
      rw [e]
      unfold firstsF; rw [List.filter_cons, if_neg (by simpa using hy)]

set_option maxHeartbeats 1600000 in
set_option maxRecDepth 100000 in
theorem two_yes (A : Option Addr) (c : Nat) (xs : List S52) (w : World) (hC : Kd.C k52 w A xs.length xs) (hc : xs.length ≤ c) (h : xs.length ≤ 70) (hm : okFrom 0 xs = true) :
    Calls Try.prog 8 #[.slice A xs.length c] w fun e w' => e = .returned (.bool true) ∧ Below w.heap.size w w' := by
  have h' : (xs.length : Int) ≤ 70 := by omega
  have HM : Aside0 (waymarkref55_May.f (xs.length + 1) xs = some true) := ⟨by rw [may_f xs (by omega), hm]⟩
  have HK : Aside0 (elect_Check.f (xs.length + 1) xs = some 0) := ⟨by rw [check_f xs (by omega), hm]; rfl⟩
  have HL := Aside0.mk (two_law xs hm)
  have HC := Aside0.mk hC
  clear hm hC
  obtain ⟨a, ha⟩ : ∃ a, (chooseF xs).1 = a := ⟨_, rfl⟩
  obtain ⟨b, hb⟩ : ∃ b, (chooseF xs).2 = b := ⟨_, rfl⟩
  rw [ha, hb] at HL
  have HA := Aside0.mk ha
  have HB := Aside0.mk hb
  clear ha hb
  go_enter Try.func8, Try.ntmps8
  go_wp2_with fail
  refine (waymarkref55_May.calls _ A c xs true _ HC.out hc HM.out).mono ?_
  rintro e w1 ⟨rfl, hb⟩
  have HB1 := Aside0.mk hb
  clear hb
  go_wp2_with fail
  refine (choose_yes _ A c xs _ (Kd.C_below HC.out HB1.out) hc (by omega) HK.out).mono ?_
  rw [HA.out, HB.out]
  rintro e w2 ⟨rfl, hb⟩
  have HB2 := Aside0.mk (below_step HB1.out hb)
  have HC2 := Aside0.mk (Kd.C_below HC.out HB2.out)
  clear hb
  go_wp2
  go_loop [5, 6, 7, 8] (fun v5 v6 v7 v8 => ∃ (k m : Nat) (f s : Bool), k ≤ xs.length ∧ m ≤ k ∧ v8 = .int .i64 k ∧ v5 = .int .i64 m ∧ v6 = .bool f ∧ v7 = .bool s ∧ Aside0 (F1 a b (xs.take k) = (m, f, s))) (fun _ _ _ i => xs.length - (intOf i).toNat)
  case atStart => exact ⟨0, 0, (a == 0), (b == 0), Nat.zero_le _, Nat.zero_le _, rfl, rfl, rfl, rfl, ⟨rfl⟩⟩
  case round =>
    obtain ⟨k, m, f, s, hk, hmk, rfl, rfl, rfl, rfl, HF⟩ := hrel
    by_cases hlt : k < xs.length
    · obtain ⟨ad, x, hA, hx, q0, q1, q2, q3⟩ := voter_at HC2.out k hlt
      subst hA
      have HX := Aside0.mk (F1_snoc a b xs k x hx)
      clear hx
      by_cases h1 : 0 < x.f1
      · have e1 : F1 a b (xs.take (k + 1)) = (m + 1, f || (x.f0 == a), s || (x.f0 == b)) := by rw [HX.out, HF.out]; unfold st1; rw [if_pos h1]
        have E1 := Aside0.mk e1
        clear e1
        cases f
        · cases s
          · go_wp2
            go_round
            case rel => exact ⟨k + 1, m + 1, (x.f0 == a), (x.f0 == b), by omega, by omega, by go_num, by go_num, rfl, rfl, ⟨by rw [E1.out]; simp⟩⟩
            case measure => simp [intOf]; omega
          · go_wp2
            go_round
            case rel => exact ⟨k + 1, m + 1, (x.f0 == a), true, by omega, by omega, by go_num, by go_num, rfl, rfl, ⟨by rw [E1.out]; simp⟩⟩
            case measure => simp [intOf]; omega
        · cases s
          · go_wp2
            go_round
            case rel => exact ⟨k + 1, m + 1, true, (x.f0 == b), by omega, by omega, by go_num, by go_num, rfl, rfl, ⟨by rw [E1.out]; simp⟩⟩
            case measure => simp [intOf]; omega
          · go_wp2
            go_round
            case rel => exact ⟨k + 1, m + 1, true, true, by omega, by omega, by go_num, by go_num, rfl, rfl, ⟨by rw [E1.out]; simp⟩⟩
            case measure => simp [intOf]; omega
      · have e1 : F1 a b (xs.take (k + 1)) = (m, f, s) := by rw [HX.out, HF.out]; unfold st1; rw [if_neg h1]
        have E1 := Aside0.mk e1
        clear e1
        go_wp2
        go_round
        case rel => exact ⟨k + 1, m, f, s, by omega, by omega, by go_num, rfl, rfl, rfl, E1⟩
        case measure => simp [intOf]; omega
    · obtain rfl : k = xs.length := by omega
      have e0 : F1 a b xs = (m, f, s) := by rw [← List.take_length (l := xs)]; exact HF.out
      have hany := F1_any a b xs (0, a == 0, b == 0)
      have e0' : List.foldl (st1 a b) (0, a == 0, b == 0) xs = (m, f, s) := e0
      rw [e0'] at hany
      obtain ⟨l1, l2, l3, l4, l5⟩ := HL.out
      have hf : f = true := hany.2.1.2 (by rcases l1 with h | h; exact .inl (by simpa using h); exact .inr h)
      have hs : s = true := hany.2.2.2 (by rcases l2 with h | h; exact .inl (by simpa using h); exact .inr h)
      have hmm : manyF xs = m := by have := hany.1; simp at this; exact this.symm
      rw [hmm] at l4 l5
      have HL2 : Aside0 ((a ≠ b ∨ a = 0) ∧ (m = 0 ↔ a = 0) ∧ (m < 2 ∨ 1 < firstsF xs ∨ 0 < b)) := ⟨l3, l4, l5⟩
      clear hany l1 l2 l3 l4 l5 e0 e0' HF HL hmm
      subst hf hs
      clear hlt
      go_wp2
      go_loopw [9, 10] (fun v9 v10 W => ∃ (k n : Nat), k ≤ xs.length ∧ n ≤ k ∧ v10 = .int .i64 k ∧ v9 = .int .i64 n ∧ Aside0 (F2 (xs.take k) = n) ∧ Aside0 (Below w.heap.size w W)) (fun _ i _ => xs.length - (intOf i).toNat)
      case atStart => exact ⟨0, 0, Nat.zero_le _, Nat.zero_le _, rfl, rfl, ⟨rfl⟩, HB2⟩
      case round =>
        obtain ⟨k, n, hk, hnk, rfl, rfl, HF, HBW⟩ := hrel
        by_cases hlt : k < xs.length
        · obtain ⟨ad, x, hA, hx, q0, q1, q2, q3⟩ := voter_at (Kd.C_below HC.out HBW.out) k hlt
          subst hA
          have HX := Aside0.mk (F2_snoc xs k x hx)
          clear hx
          by_cases h1 : 0 < x.f1
          · by_cases h2 : x.f2 = x.f0
            · have h2' : (x.f2 == x.f0) = true := beq_iff_eq.2 h2
              have E1 : Aside0 (F2 (xs.take (k + 1)) = n + 1) := ⟨by rw [HX.out, HF.out]; unfold st2; rw [if_pos ⟨h1, h2⟩]⟩
              clear h2
              go_wp2_with fail
              go_quiet (fail)
              go_wp2
              go_roundw
              case rel => exact ⟨k + 1, n + 1, by omega, by omega, by go_num, by go_num, E1, ⟨pw_below_drewN HBW.out _⟩⟩
              case measure => simp [intOf]; omega
            · have h2' : (x.f2 == x.f0) = false := beq_eq_false_iff_ne.2 h2
              have E1 : Aside0 (F2 (xs.take (k + 1)) = n) := ⟨by rw [HX.out, HF.out]; unfold st2; rw [if_neg (fun h => h2 h.2)]⟩
              clear h2
              go_wp2_with fail
              go_quiet (fail)
              go_wp2
              go_roundw
              case rel => exact ⟨k + 1, n, by omega, by omega, by go_num, rfl, E1, ⟨pw_below_drewN HBW.out _⟩⟩
              case measure => simp [intOf]; omega
          · have h1' : decide (0 < x.f1) = false := decide_eq_false h1
            have E1 : Aside0 (F2 (xs.take (k + 1)) = n) := ⟨by rw [HX.out, HF.out]; unfold st2; rw [if_neg (fun h => h1 h.1)]⟩
            clear h1
            go_wp2_with fail
            go_quiet (fail)
            go_wp2
            go_roundw
            case rel => exact ⟨k + 1, n, by omega, by omega, by go_num, rfl, E1, ⟨pw_below_drewN HBW.out _⟩⟩
            case measure => simp [intOf]; omega
        · obtain rfl : k = xs.length := by omega
          have hn : firstsF xs = n := by
            have := F2_any xs 0
            have e0 : F2 xs = n := by rw [← List.take_length (l := xs)]; exact HF.out
            unfold F2 at e0
            omega
          have HL3 : Aside0 ((a ≠ b ∨ a = 0) ∧ (m = 0 ↔ a = 0) ∧ (m < 2 ∨ 1 < n ∨ 0 < b)) := ⟨by have := HL2.out; rwa [hn] at this⟩
          clear HL2 hn HF hlt
          obtain ⟨l3, l4, l5⟩ := HL3.out
          clear HL3
          by_cases ha : a = 0
          · obtain rfl : m = 0 := l4.2 ha
            subst ha
            clear l3 l4 l5
            by_cases hb : b = 0
            · subst hb
              go_wp2_with fail
              refine (awake_calls _).mono ?_
              rintro e w5 ⟨rfl, hb⟩
              have HB5 := Aside0.mk (below_step HBW.out hb)
              clear hb
              go_wp2
              go_ret
              exact ⟨rfl, HB5.out⟩
            · have hb1 : (b == 0) = false := beq_eq_false_iff_ne.2 hb
              have hb2 : (0 == b) = false := beq_eq_false_iff_ne.2 (fun e => hb e.symm)
              have hb3 : (0 != b) = true := bne_iff_ne.2 (fun e => hb e.symm)
              clear hb
              go_wp2_with fail
              refine (awake_calls _).mono ?_
              rintro e w5 ⟨rfl, hb⟩
              have HB5 := Aside0.mk (below_step HBW.out hb)
              clear hb
              go_wp2
              go_ret
              exact ⟨rfl, HB5.out⟩
          · have hm : m ≠ 0 := fun e => ha (l4.1 e)
            have hab : a ≠ b := by rcases l3 with h | h; exact h; exact absurd h ha
            have ha1 : (a == 0) = false := beq_eq_false_iff_ne.2 ha
            have hab1 : (a == b) = false := beq_eq_false_iff_ne.2 hab
            have hab2 : (a != b) = true := bne_iff_ne.2 hab
            have hm1 : ((m : Int) == 0) = false := beq_eq_false_iff_ne.2 (by omega)
            clear l3 l4 ha hab
            by_cases hm2 : (m : Int) < 2
            · clear l5 hm
              go_wp2_with fail
              refine (awake_calls _).mono ?_
              rintro e w5 ⟨rfl, hb⟩
              have HB5 := Aside0.mk (below_step HBW.out hb)
              clear hb
              go_wp2
              go_ret
              exact ⟨rfl, HB5.out⟩
            · have hm2' : 2 ≤ (m : Int) := by omega
              by_cases hn2 : 1 < (n : Int)
              · clear l5 hm hm2
                go_wp2_with fail
                refine (awake_calls _).mono ?_
                rintro e w5 ⟨rfl, hb⟩
                have HB5 := Aside0.mk (below_step HBW.out hb)
                clear hb
                go_wp2
                go_ret
                exact ⟨rfl, HB5.out⟩
              · have hb2 : 0 < b := by omega
                have hn3 : (n : Int) ≤ 1 := by omega
                clear l5 hm hm2 hn2
                go_wp2_with fail
                refine (awake_calls _).mono ?_
                rintro e w5 ⟨rfl, hb⟩
                have HB5 := Aside0.mk (below_step HBW.out hb)
                clear hb
                go_wp2
                go_ret
                exact ⟨rfl, HB5.out⟩

theorem two_any (A : Option Addr) (c : Nat) (xs : List S52) (w : World) (hC : Kd.C k52 w A xs.length xs) (hc : xs.length ≤ c) :
    Calls Try.prog 8 #[.slice A xs.length c] w fun e w' => e = .returned (.bool true) ∧ Below w.heap.size w w' := by
  by_cases h : 70 < xs.length
  · exact two_long A c xs w h
  · cases hm : okFrom 0 xs
    · exact two_no A c xs w hC hc (by omega) hm
    · exact two_yes A c xs w hC hc (by omega) hm
end Go.Proofs.Ytdkobokdeofiiaa.El
