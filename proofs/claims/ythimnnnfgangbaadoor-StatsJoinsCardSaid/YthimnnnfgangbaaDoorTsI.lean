/- like and awake of the stats' laws, walked: for every input. -/
import Derived.Test.YthimnnnfgangbaaDoorTsH
import Derived.Test.YthimnnnfgangbaaDoorQrO
set_option linter.unusedVariables false
set_option linter.unusedSimpArgs false
namespace Go.Proofs.YthimnnnfgangbaaDoor.Ts
open Go.RowKit Go.Proofs.YthimnnnfgangbaaDoorW.PrintWords Go.Proofs.YthimnnnfgangbaaDoorW.PrintLast Go.Proofs.YthimnnnfgangbaaDoorW.PrintMore Go.Proofs.YthimnnnfgangbaaDoor.Qr
set_option maxHeartbeats 6400000 in
set_option maxRecDepth 100000 in
theorem like_calls (xs : List U64) (A : Option Addr) (c : Nat) (p : Option Addr) (q : Int) (w : World) (ht : Tab w) (hp : TP w p (tal (vals xs))) (hC : Kd.C kU w A xs.length xs) (hl : xs.length ≤ 100) :
    Calls Tryd.prog 35 #[.pointer p, .slice A xs.length c, .int .i64 q] w fun e w' => e = .returned (.bool true) ∧ Below w.heap.size w w' := by
  have HTab := Aside0.mk ht
  have HP := Aside0.mk hp
  have HC := Aside0.mk hC
  have HL := Aside0.mk hl
  have hF := fine_tal (vals xs) (vals_lt _)
  rw [vals_len] at hF
  obtain ⟨t, htt⟩ : ∃ t, tal (vals xs) = t := ⟨_, rfl⟩
  have HT := Aside0.mk htt
  rw [htt] at hF HP
  have HF := Aside0.mk hF
  have hn5 : (xs.length : Int) ≤ 1000 := by omega
  clear ht hp hC hl htt hF
  go_enter Tryd.func35, Tryd.ntmps35
  go_wp2_with fail
  refine (range_any HP.out).mono ?_
  rintro e w1 ⟨rfl, hb⟩
  have HB := Aside0.mk hb
  have HP1 := Aside0.mk (HP.out.below hb)
  have HC1 := Aside0.mk (Kd.C_below HC.out hb)
  have HT1 := Aside0.mk (tab_below HTab.out hb)
  clear hb HP HC HTab
  go_wp2_with fail
  refine (count_any HP1.out).mono ?_
  rintro e w2 ⟨rfl, rfl⟩
  rw [HF.out.c]
  go_wp2_with fail
  refine (sum_any HP1.out).mono ?_
  rintro e w2 ⟨rfl, rfl⟩
  go_wp2_with fail
  refine (rsum_calls xs A c _ HC1.out HL.out).mono ?_
  rintro e w2 ⟨rfl, rfl⟩
  rw [HT.out]
  go_wp2_with fail
  refine (rleast_calls xs A c false _ HC1.out HL.out).mono ?_
  rintro e w2 ⟨rfl, rfl⟩
  rw [HT.out, show leastAt false t = t.l from rfl]
  go_wp2_with fail
  refine (rleast_calls xs A c true _ HC1.out HL.out).mono ?_
  rintro e w2 ⟨rfl, rfl⟩
  rw [HT.out, show leastAt true t = t.m from rfl]
  go_wp2_with fail
  go_loop [9] (fun v9 => ∃ j : Int, -1 ≤ j ∧ j ≤ 66 ∧ v9 = .int .i64 j) (fun v9 => (66 - intOf v9).toNat)
  case atStart => exact ⟨-1, by omega, by omega, rfl⟩
  case round =>
    obtain ⟨j, h1, h2, rfl⟩ := hrel
    by_cases h3 : j ≤ 65
    · go_wp2_with fail
      refine (step_any HP1.out j).mono ?_
      rintro e w2 ⟨rfl, rfl⟩
      go_wp2_with fail
      refine (rstep_calls xs A c j _ HC1.out HL.out).mono ?_
      rintro e w2 ⟨rfl, rfl⟩
      rw [HT.out]
      go_wp2
      go_round
      case rel => exact ⟨j + 1, by omega, by omega, rfl⟩
      case measure => simp [intOf]; omega
    · go_wp2_with fail
      refine (at_any HP1.out HF.out HL.out q).mono ?_
      rintro e w2 ⟨rfl, rfl⟩
      go_wp2_with fail
      refine (rat_calls xs A c q _ HC1.out HL.out).mono ?_
      rintro e w2 ⟨rfl, rfl⟩
      rw [HT.out]
      go_wp2_with fail
      refine (text_calls p t xs.length _ HT1.out HP1.out HF.out HL.out).mono ?_
      rintro e w3 ⟨rfl, hb⟩
      have HB3 := Aside0.mk (below_step HB.out hb)
      have HC3 := Aside0.mk (Kd.C_below HC1.out hb)
      clear hb HC1
      go_wp2_with fail
      refine (rtext_calls xs A c _ HC3.out HL.out).mono ?_
      rintro e w4 ⟨rfl, hb⟩
      have HB4 := Aside0.mk (below_step HB3.out hb)
      clear hb HC3
      rw [HT.out]
      go_wp2
      go_ret
      exact ⟨rfl, HB4.out⟩
/-! awake. -/
def three : List U64 := [⟨0, by omega⟩, ⟨1, by omega⟩, ⟨5, by omega⟩]
theorem C_three (W : World) : Kd.C kU (W.alloc (.cells #[.int .u64 (0 : Int), .int .u64 (1 : Int), .int .u64 (5 : Int)] 39)) (some ⟨W.heap.size, 0, none⟩) three.length three := by
  refine ⟨rfl, by decide, fun _ => ⟨_, rfl, fun j p hp => ?_⟩⟩
  have hb := blk_new W (.cells #[.int .u64 (0 : Int), .int .u64 (1 : Int), .int .u64 (5 : Int)] 39)
  match j, hp with
  | 0, hp =>
    injection hp with hp; subst hp
    exact ⟨[.int .u64 (0 : Int)], rfl, rfl, fun i u hu => by
      rw [Addr.add_mid, blk_cell hb]
      match i, hu with
      | 0, hu => exact hu⟩
  | 1, hp =>
    injection hp with hp; subst hp
    exact ⟨[.int .u64 (1 : Int)], rfl, rfl, fun i u hu => by
      rw [Addr.add_mid, blk_cell hb]
      match i, hu with
      | 0, hu => exact hu⟩
  | 2, hp =>
    injection hp with hp; subst hp
    exact ⟨[.int .u64 (5 : Int)], rfl, rfl, fun i u hu => by
      rw [Addr.add_mid, blk_cell hb]
      match i, hu with
      | 0, hu => exact hu⟩
theorem t3_c : (tal (vals three)).c = 3 := by decide
theorem t3_s : (tal (vals three)).s = 6 := by decide
theorem t3_step : stepAt (tal (vals three)) 3 = 1 := by decide
theorem t3_at : atF (tal (vals three)) 100 = 7 := by decide
set_option maxHeartbeats 1600000 in
set_option maxRecDepth 100000 in
theorem awake_calls (w : World) : Calls Tryd.prog 31 #[] w fun e w' => e = .returned (.bool true) ∧ Below w.heap.size w w' := by
  go_enter Tryd.func31, Tryd.ntmps31
  go_wp2_with fail
  refine (of_calls three (some ⟨w.heap.size, 0, none⟩) 3 _ (C_three w) (by decide)).mono ?_
  rintro e w1 ⟨rfl, ht, hb⟩
  have HT := Aside0.mk (show TP w1 (some ⟨_, 0, none⟩) (tal (vals three)) from .inr ⟨_, rfl, ht⟩)
  have HF := Aside0.mk (fine_tal (vals three) (vals_lt _))
  have HB := Aside0.mk ((below_alloc (Below.refl w.heap.size w) (.cells #[.int .u64 (0 : Int), .int .u64 (1 : Int), .int .u64 (5 : Int)] 39)).trans (hb.mono (by simp)))
  clear ht hb
  obtain ⟨g, hg⟩ : ∃ g, (w.alloc (.cells #[.int .u64 (0 : Int), .int .u64 (1 : Int), .int .u64 (5 : Int)] 39)).heap.size = g := ⟨_, rfl⟩
  rw [hg] at HT ⊢
  clear hg
  go_wp2_with fail
  refine (count_any HT.out).mono ?_
  rintro e w2 ⟨rfl, rfl⟩
  rw [t3_c]
  go_wp2_with fail
  refine (sum_any HT.out).mono ?_
  rintro e w2 ⟨rfl, rfl⟩
  rw [t3_s]
  go_wp2_with fail
  refine (step_any HT.out 3).mono ?_
  rintro e w2 ⟨rfl, rfl⟩
  rw [t3_step]
  go_wp2_with fail
  refine (at_any HT.out HF.out (by decide) 100).mono ?_
  rintro e w2 ⟨rfl, rfl⟩
  rw [t3_at]
  go_wp2
  go_ret
  exact ⟨rfl, HB.out⟩
end Go.Proofs.YthimnnnfgangbaaDoor.Ts
