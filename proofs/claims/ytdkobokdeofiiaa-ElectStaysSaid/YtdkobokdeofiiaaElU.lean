/- ElectStays (the theorem of staying), walked: for every input. -/
import Derived.Test.YtdkobokdeofiiaaElV
set_option linter.unusedVariables false
set_option linter.unusedSimpArgs false
namespace Go.Proofs.Ytdkobokdeofiiaa.El
open Go.RowKit Go.Proofs.YtdkobokdeofiiaaW.PrintWords Go.Proofs.YtdkobokdeofiiaaW.PrintLast Go.Proofs.YtdkobokdeofiiaaW.PrintMore

set_option maxHeartbeats 400000 in
set_option maxRecDepth 100000 in
theorem stays_long (A : Option Addr) (c : Nat) (xs : List S52) (w : World) (h : 70 < xs.length) :
    Calls Try.prog 12 #[.slice A xs.length c] w fun e w' => e = .returned (.bool true) ∧ Below w.heap.size w w' := by
  have h' : (70 : Int) < (xs.length : Int) := by omega
  go_enter Try.func12, Try.ntmps12
  go_wp2_with fail
  refine (awake_calls _).mono ?_
  rintro e w1 ⟨rfl, hb⟩
  have HB := Aside0.mk hb
  clear hb
  go_wp2
  go_ret
  exact ⟨rfl, HB.out⟩

set_option maxHeartbeats 400000 in
set_option maxRecDepth 100000 in
theorem stays_no (A : Option Addr) (c : Nat) (xs : List S52) (w : World) (hC : Kd.C k52 w A xs.length xs) (hc : xs.length ≤ c) (h : xs.length ≤ 70) (hm : okFrom 0 xs = false) :
    Calls Try.prog 12 #[.slice A xs.length c] w fun e w' => e = .returned (.bool true) ∧ Below w.heap.size w w' := by
  have h' : (xs.length : Int) ≤ 70 := by omega
  have HM : Aside0 (waymarkref55_May.f (xs.length + 1) xs = some false) := ⟨by rw [may_f xs (by omega), hm]⟩
  have HC := Aside0.mk hC
  clear hm hC
  go_enter Try.func12, Try.ntmps12
  go_wp2_with fail
  refine (waymarkref55_May.calls _ A c xs false _ HC.out hc HM.out).mono ?_
  rintro e w1 ⟨rfl, hb⟩
  have HB := Aside0.mk hb
  clear hb
  go_wp2_with fail
  refine (awake_calls _).mono ?_
  rintro e w2 ⟨rfl, hb⟩
  have HB2 := Aside0.mk (below_step HB.out hb)
  clear hb
  go_wp2
  go_ret
  exact ⟨rfl, HB2.out⟩

set_option maxHeartbeats 1600000 in
set_option maxRecDepth 100000 in
theorem stays_yes (A : Option Addr) (c : Nat) (xs : List S52) (w : World) (hC : Kd.C k52 w A xs.length xs) (hc : xs.length ≤ c) (h : xs.length ≤ 70) (hok : okFrom 0 xs = true) :
    Calls Try.prog 12 #[.slice A xs.length c] w fun e w' => e = .returned (.bool true) ∧ Below w.heap.size w w' := by
  have h' : (xs.length : Int) ≤ 70 := by omega
  have HM : Aside0 (waymarkref55_May.f (xs.length + 1) xs = some true) := ⟨by rw [may_f xs (by omega), hok]⟩
  have HK : Aside0 (elect_Check.f (xs.length + 1) xs = some 0) := ⟨by rw [check_f xs (by omega), hok]; rfl⟩
  have HC := Aside0.mk hC
  have HOK := Aside0.mk hok
  obtain ⟨s1, s2⟩ := stays_law xs hok
  obtain ⟨r1, r2⟩ := choose_range xs hok
  obtain ⟨f, hf⟩ : ∃ f, (chooseF xs).1 = f := ⟨_, rfl⟩
  obtain ⟨s, hs⟩ : ∃ s, (chooseF xs).2 = s := ⟨_, rfl⟩
  rw [hf, hs] at s1 s2
  rw [hf] at r1
  rw [hs] at r2
  obtain ⟨b, hb⟩ : ∃ b, (chooseF (takenF f s xs)).2 = b := ⟨_, rfl⟩
  have hk1 := taken_ok r1 r2 xs 0 hok
  have r3 := (choose_range _ hk1).2
  rw [hb] at r3
  rw [s1, hb] at s2
  have e1 : chooseF (takenF f s xs) = (f, b) := Prod.ext s1 hb
  rw [e1] at s2
  have hk2 := taken_ok r1 r3 xs 0 hok
  have l1 := taken_len f s xs
  have l2 := taken_len f b xs
  obtain ⟨n, hn, hn2⟩ : ∃ n, (settleF xs).2.2 = n ∧ n ≤ 2 := by
    refine ⟨_, rfl, ?_⟩
    unfold settleF
    split <;> simp
  obtain ⟨n1, hn1⟩ : ∃ n1, (settleF xs).1 = n1 := ⟨_, rfl⟩
  obtain ⟨n2, hn22⟩ : ∃ n2, (settleF xs).2.1 = n2 := ⟨_, rfl⟩
  have HK1 : Aside0 (elect_Check.f ((takenF f s xs).length + 1) (takenF f s xs) = some 0) := ⟨by rw [check_f _ (by omega), hk1]; rfl⟩
  have HK2 : Aside0 (elect_Check.f ((takenF f b xs).length + 1) (takenF f b xs) = some 0) := ⟨by rw [check_f _ (by omega), hk2]; rfl⟩
  have HO1 := Aside0.mk hk1
  have HF := Aside0.mk hf
  have HS := Aside0.mk hs
  have E1 := Aside0.mk e1
  have E2 := Aside0.mk s2
  have L1 := Aside0.mk l1
  have L2 := Aside0.mk l2
  have HN := Aside0.mk hn
  have HN1 := Aside0.mk hn1
  have HN2 := Aside0.mk hn22
  clear hC hok s1 s2 r1 r2 r3 hf hs hb hk1 hk2 e1 l1 l2 hn hn1 hn22
  go_enter Try.func12, Try.ntmps12
  go_wp2_with fail
  refine (waymarkref55_May.calls _ A c xs true _ HC.out hc HM.out).mono ?_
  rintro e w1 ⟨rfl, hb⟩
  have HB1 := Aside0.mk hb
  clear hb
  go_wp2_with fail
  refine (choose_yes _ A c xs _ (Kd.C_below HC.out HB1.out) hc (by omega) HK.out).mono ?_
  rw [HF.out, HS.out]
  rintro e w2 ⟨rfl, hb⟩
  have HB2 := Aside0.mk (below_step HB1.out hb)
  clear hb
  go_wp2_with fail
  refine (take_yes A c xs _ (Kd.C_below HC.out HB2.out) hc h HOK.out).mono ?_
  rw [HF.out, HS.out]
  rintro e w3 ⟨v, rfl, hF, hb⟩
  have HB3 := Aside0.mk (below_step HB2.out hb)
  obtain ⟨A1, c1, rfl⟩ := hF.slice
  have HF1 := Aside0.mk hF
  clear hb hF
  go_wp2_with fail
  refine (choose_yes _ A1 c1 (takenF f s xs) _ (HF1.out.C (by have := L1.out; omega)).2.2 (HF1.out.C (by have := L1.out; omega)).2.1 (by have := L1.out; omega) HK1.out).mono ?_
  rw [E1.out]
  rintro e w4 ⟨rfl, hb⟩
  have HB4 := Aside0.mk (below_step HB3.out hb)
  have HF2 := Aside0.mk (HF1.out.below hb)
  clear hb
  go_wp2_with fail
  refine (take_yes A1 c1 (takenF f s xs) _ (HF2.out.C (by have := L1.out; omega)).2.2 (HF2.out.C (by have := L1.out; omega)).2.1 (by have := L1.out; omega) HO1.out).mono ?_
  rw [E1.out, taken_taken]
  rintro e w5 ⟨v, rfl, hF, hb⟩
  have HB5 := Aside0.mk (below_step HB4.out hb)
  obtain ⟨A2, c2, rfl⟩ := hF.slice
  have HF3 := Aside0.mk hF
  clear hb hF
  go_wp2_with fail
  refine (choose_yes _ A2 c2 (takenF f b xs) _ (HF3.out.C (by have := L2.out; omega)).2.2 (HF3.out.C (by have := L2.out; omega)).2.1 (by have := L2.out; omega) HK2.out).mono ?_
  rw [E2.out]
  rintro e w6 ⟨rfl, hb⟩
  have HB6 := Aside0.mk (below_step HB5.out hb)
  clear hb
  go_wp2_with fail
  refine (settle_yes A c xs _ (Kd.C_below HC.out HB6.out) hc h HOK.out).mono ?_
  rw [HN.out, HN1.out, HN2.out]
  rintro e w7 ⟨rfl, hb⟩
  have HB7 := Aside0.mk (below_step HB6.out hb)
  clear hb
  go_wp2_with fail
  refine (awake_calls _).mono ?_
  rintro e w8 ⟨rfl, hb⟩
  have HB8 := Aside0.mk (below_step HB7.out hb)
  clear hb
  go_wp2
  go_ret
  exact ⟨rfl, HB8.out⟩

theorem stays_any (A : Option Addr) (c : Nat) (xs : List S52) (w : World) (hC : Kd.C k52 w A xs.length xs) (hc : xs.length ≤ c) :
    Calls Try.prog 12 #[.slice A xs.length c] w fun e w' => e = .returned (.bool true) ∧ Below w.heap.size w w' := by
  by_cases h : 70 < xs.length
  · exact stays_long A c xs w h
  · cases hm : okFrom 0 xs
    · exact stays_no A c xs w hC hc (by omega) hm
    · exact stays_yes A c xs w hC hc (by omega) hm
end Go.Proofs.Ytdkobokdeofiiaa.El
