/- ElectChooses (who is chosen of any voters), walked: for every input. -/
import Derived.Test.YtdkobokdeofiiaaElW
import Derived.Test.YtdkobokdeofiiaaElE
import Derived.Test.YtdkobokdeofiiaaElS
set_option linter.unusedVariables false
set_option linter.unusedSimpArgs false
namespace Go.Proofs.Ytdkobokdeofiiaa.El
open Go.RowKit Go.Proofs.YtdkobokdeofiiaaW.PrintWords Go.Proofs.YtdkobokdeofiiaaW.PrintLast Go.Proofs.YtdkobokdeofiiaaW.PrintMore

set_option maxHeartbeats 400000 in
set_option maxRecDepth 100000 in
theorem chooses_long (A : Option Addr) (c : Nat) (xs : List S52) (w : World) (h : 70 < xs.length) :
    Calls Try.prog 11 #[.slice A xs.length c] w fun e w' => e = .returned (.bool true) ∧ Below w.heap.size w w' := by
  have h' : (70 : Int) < (xs.length : Int) := by omega
  go_enter Try.func11, Try.ntmps11
  go_wp2_with fail
  refine (awake_calls _).mono ?_
  rintro e w1 ⟨rfl, hb⟩
  have HB := Aside0.mk hb
  clear hb
  go_wp2
  go_ret
  exact ⟨rfl, HB.out⟩

set_option maxHeartbeats 800000 in
set_option maxRecDepth 100000 in
theorem chooses_no (A : Option Addr) (c : Nat) (xs : List S52) (w : World) (hC : Kd.C k52 w A xs.length xs) (hc : xs.length ≤ c) (h : xs.length ≤ 70) (hok : okFrom 0 xs = false) :
    Calls Try.prog 11 #[.slice A xs.length c] w fun e w' => e = .returned (.bool true) ∧ Below w.heap.size w w' := by
  have h' : (xs.length : Int) ≤ 70 := by omega
  have HM : Aside0 (waymarkref55_May.f (xs.length + 1) xs = some false) := ⟨by rw [may_f xs (by omega), hok]⟩
  have HK : Aside0 (elect_Check.f (xs.length + 1) xs = some 1) := ⟨by rw [check_f xs (by omega), hok]; rfl⟩
  have HC := Aside0.mk hC
  have HOK := Aside0.mk hok
  clear hC hok
  go_enter Try.func11, Try.ntmps11
  go_wp2_with fail
  refine (choose_no _ A c xs _ HC.out hc HK.out).mono ?_
  rintro e w1 ⟨rfl, hb⟩
  have HB1 := Aside0.mk hb
  clear hb
  go_wp2_with fail
  refine (take_no A c xs _ (Kd.C_below HC.out HB1.out) hc h HOK.out).mono ?_
  rintro e w2 ⟨rfl, hb⟩
  have HB2 := Aside0.mk (below_step HB1.out hb)
  clear hb
  go_wp2_with fail
  refine (settle_no A c xs _ (Kd.C_below HC.out HB2.out) hc h HOK.out).mono ?_
  rintro e w3 ⟨rfl, hb⟩
  have HB3 := Aside0.mk (below_step HB2.out hb)
  clear hb
  go_wp2_with fail
  refine (waymarkref55_May.calls _ A c xs false _ (Kd.C_below HC.out HB3.out) hc HM.out).mono ?_
  rintro e w4 ⟨rfl, hb⟩
  have HB4 := Aside0.mk (below_step HB3.out hb)
  clear hb
  go_wp2_with fail
  refine (elect_Check.calls _ A c xs 1 _ (Kd.C_below HC.out HB4.out) hc HK.out).mono ?_
  rintro e w5 ⟨rfl, hb⟩
  have HB5 := Aside0.mk (below_step HB4.out hb)
  clear hb
  go_wp2_with fail
  refine (awake_calls _).mono ?_
  rintro e w6 ⟨rfl, hb⟩
  have HB6 := Aside0.mk (below_step HB5.out hb)
  clear hb
  go_wp2
  go_ret
  exact ⟨rfl, HB6.out⟩

set_option maxHeartbeats 1600000 in
set_option maxRecDepth 100000 in
theorem chooses_yes (A : Option Addr) (c : Nat) (xs : List S52) (w : World) (hC : Kd.C k52 w A xs.length xs) (hc : xs.length ≤ c) (h : xs.length ≤ 70) (hok : okFrom 0 xs = true) :
    Calls Try.prog 11 #[.slice A xs.length c] w fun e w' => e = .returned (.bool true) ∧ Below w.heap.size w w' := by
  have h' : (xs.length : Int) ≤ 70 := by omega
  have HM : Aside0 (waymarkref55_May.f (xs.length + 1) xs = some true) := ⟨by rw [may_f xs (by omega), hok]⟩
  have HK : Aside0 (elect_Check.f (xs.length + 1) xs = some 0) := ⟨by rw [check_f xs (by omega), hok]; rfl⟩
  have HC := Aside0.mk hC
  have HOK := Aside0.mk hok
  obtain ⟨f, hf⟩ : ∃ f, (chooseF xs).1 = f := ⟨_, rfl⟩
  obtain ⟨s, hs⟩ : ∃ s, (chooseF xs).2 = s := ⟨_, rfl⟩
  obtain ⟨n0, hn0⟩ : ∃ n0, (settleF xs).1 = n0 := ⟨_, rfl⟩
  obtain ⟨n1, hn1⟩ : ∃ n1, (settleF xs).2.1 = n1 := ⟨_, rfl⟩
  obtain ⟨n2, hn2⟩ : ∃ n2, (settleF xs).2.2 = n2 := ⟨_, rfl⟩
  have l1 := taken_len f s xs
  have RC : Aside0 (waymarkref55_Choose.f 1000 xs = some (f, s)) := ⟨by rw [refchoose xs (by omega) (inc_of_ok xs 0 (by omega) hok) 1000 (by omega), ← hf, ← hs]⟩
  have RS : Aside0 (waymarkref55_Settle.f 1000 xs = some (n0, n1, n2)) := ⟨by rw [refsettle xs h hok, ← hn0, ← hn1, ← hn2]⟩
  have RT : Aside0 (waymarkref55_Take.f 1000 xs f s = some (takenF f s xs)) := ⟨reftake xs (by omega) f s 1000 (by omega)⟩
  have SM : Aside0 (waymarklaw55_same.f ((takenF f s xs).length + 1) (takenF f s xs) (takenF f s xs) = some true) := ⟨same_f _ (by omega)⟩
  have HF := Aside0.mk hf
  have HS := Aside0.mk hs
  have N0 := Aside0.mk hn0
  have N1 := Aside0.mk hn1
  have N2 := Aside0.mk hn2
  have L1 := Aside0.mk l1
  clear hC hok hf hs hn0 hn1 hn2 l1
  go_enter Try.func11, Try.ntmps11
  go_wp2_with fail
  refine (choose_yes _ A c xs _ HC.out hc (by omega) HK.out).mono ?_
  rw [HF.out, HS.out]
  rintro e w1 ⟨rfl, hb⟩
  have HB1 := Aside0.mk hb
  clear hb
  go_wp2_with fail
  refine (take_yes A c xs _ (Kd.C_below HC.out HB1.out) hc h HOK.out).mono ?_
  rw [HF.out, HS.out]
  rintro e w2 ⟨v, rfl, hF, hb⟩
  have HB2 := Aside0.mk (below_step HB1.out hb)
  obtain ⟨A1, c1, rfl⟩ := hF.slice
  have F2 := Aside0.mk hF
  clear hb hF
  go_wp2_with fail
  refine (settle_yes A c xs _ (Kd.C_below HC.out HB2.out) hc h HOK.out).mono ?_
  rw [N0.out, N1.out, N2.out]
  rintro e w3 ⟨rfl, hb⟩
  have HB3 := Aside0.mk (below_step HB2.out hb)
  have F3 := Aside0.mk (F2.out.below hb)
  clear hb
  go_wp2_with fail
  refine (waymarkref55_May.calls _ A c xs true _ (Kd.C_below HC.out HB3.out) hc HM.out).mono ?_
  rintro e w4 ⟨rfl, hb⟩
  have HB4 := Aside0.mk (below_step HB3.out hb)
  have F4 := Aside0.mk (F3.out.below hb)
  clear hb
  go_wp2_with fail
  refine (elect_Check.calls _ A c xs 0 _ (Kd.C_below HC.out HB4.out) hc HK.out).mono ?_
  rintro e w5 ⟨rfl, hb⟩
  have HB5 := Aside0.mk (below_step HB4.out hb)
  have F5 := Aside0.mk (F4.out.below hb)
  clear hb
  go_wp2_with fail
  refine (waymarkref55_Choose.calls 1000 A c xs f s _ (Kd.C_below HC.out HB5.out) hc RC.out).mono ?_
  rintro e w6 ⟨rfl, hb⟩
  have HB6 := Aside0.mk (below_step HB5.out hb)
  have F6 := Aside0.mk (F5.out.below hb)
  clear hb
  go_wp2_with fail
  refine (waymarkref55_Settle.calls 1000 A c xs n0 n1 n2 _ (Kd.C_below HC.out HB6.out) hc RS.out).mono ?_
  rintro e w7 ⟨rfl, hb⟩
  have HB7 := Aside0.mk (below_step HB6.out hb)
  have F7 := Aside0.mk (F6.out.below hb)
  clear hb
  go_wp2_with fail
  refine (waymarkref55_Take.calls 1000 A c xs f s (takenF f s xs) _ (Kd.C_below HC.out HB7.out) hc RT.out).mono ?_
  rintro e w8 ⟨v, rfl, hR, hb⟩
  have HB8 := Aside0.mk (below_step HB7.out hb)
  have F8 := Aside0.mk (F7.out.below hb)
  obtain ⟨A2, c2, rfl⟩ := Kd.R_slice hR
  have hR2 := Kd.R_reads' hR
  have R8 := Aside0.mk hR2
  clear hb hR hR2
  go_wp2_with fail
  refine (waymarklaw55_same.calls _ A1 c1 (takenF f s xs) A2 c2 (takenF f s xs) true _ (F8.out.C (by have := L1.out; omega)).2.2 (F8.out.C (by have := L1.out; omega)).2.1 R8.out.2.2 R8.out.2.1 SM.out).mono ?_
  rintro e w9 ⟨rfl, hb⟩
  have HB9 := Aside0.mk (below_step HB8.out hb.below)
  clear hb
  go_wp2_with fail
  refine (awake_calls _).mono ?_
  rintro e w10 ⟨rfl, hb⟩
  have HB10 := Aside0.mk (below_step HB9.out hb)
  clear hb
  go_wp2
  go_ret
  exact ⟨rfl, HB10.out⟩

theorem chooses_any (A : Option Addr) (c : Nat) (xs : List S52) (w : World) (hC : Kd.C k52 w A xs.length xs) (hc : xs.length ≤ c) :
    Calls Try.prog 11 #[.slice A xs.length c] w fun e w' => e = .returned (.bool true) ∧ Below w.heap.size w w' := by
  by_cases h : 70 < xs.length
  · exact chooses_long A c xs w h
  · cases hm : okFrom 0 xs
    · exact chooses_no A c xs w hC hc (by omega) hm
    · exact chooses_yes A c xs w hC hc (by omega) hm
end Go.Proofs.Ytdkobokdeofiiaa.El
