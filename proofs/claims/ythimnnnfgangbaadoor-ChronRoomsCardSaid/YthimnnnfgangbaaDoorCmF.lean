/- The law ChronTells: true for every input. -/
import Derived.Test.YthimnnnfgangbaaDoorCmE
set_option linter.unusedVariables false
set_option linter.unusedSimpArgs false
namespace Go.Proofs.YthimnnnfgangbaaDoor.Cn
open Go.Proofs.YthimnnnfgangbaaDoor.Ts (cell_lt)
open Go.RowKit Go.Proofs.YthimnnnfgangbaaDoorW.PrintWords Go.Proofs.YthimnnnfgangbaaDoorW.PrintLast Go.Proofs.YthimnnnfgangbaaDoorW.PrintMore Go.Proofs.YthimnnnfgangbaaDoor.Qr
theorem CR.kept {B : Nat} {w w' : World} {v : Value} {room : Nat} {told : List E} {gx : Nat} {cs : Array Value} (h : CR B w B v room told) (hG : w.heap[gx]? = some (.cells cs 51 (0, 0))) (hk : KR B v w w') : w'.heap[gx]? = some (.cells cs 51 (0, 0)) := by
  obtain ⟨ring, k, q1, _⟩ := h.ch
  rw [hk.other gx (blk_lt hG) (fun e => by
    subst e
    have := q1.blk
    rw [hG] at this
    simp at this) (fun e => by
    obtain ⟨_, inner, ⟨_, hown⟩, _⟩ := q1.row
    rcases hown with ⟨h1, _⟩ | ⟨g2, cap, cur, h1, _, hh, _⟩
    · rw [h1] at e
      simp [Value.ownBlock] at e
    · rw [h1] at e
      have : g2 = gx := by simpa [Value.ownBlock] using e
      subst this
      rw [hh] at hG
      simp at hG)]
  exact hG
theorem Tld.len {told told' : List E} {a n err : Int} {s : ByteArray} (h : Tld told a n s told' err) : told'.length ≤ told.length + 1 := by
  rcases h with ⟨_, h2, _⟩ | ⟨_, _, h2, _⟩ | ⟨_, _, _, p, h2, _⟩
  · rw [h2]; omega
  · rw [h2]; omega
  · rw [h2]; simp
set_option maxHeartbeats 6400000 in
set_option maxRecDepth 100000 in
theorem tells_any (room : Int) (A : Option Addr) (c : Nat) (xs : List TT) (w : World) (ht : Tab w) (hC : Kd.C kT w A xs.length xs) :
    Calls Tryd.prog 6 #[.int .i64 room, .slice A xs.length c] w fun e w' => e = .returned (.bool true) ∧ Below w.heap.size w w' := by
  obtain ⟨B, hB⟩ : ∃ B, w.heap.size = B := ⟨_, rfl⟩
  have HBQ := Aside0.mk hB
  have HC := Aside0.mk hC
  have HTB : Aside0 (∀ W, Below B w W → Tab W) := ⟨fun W hW => tab_below ht (by rw [hB]; exact hW)⟩
  have HSZ : Aside0 (∀ W, Below B w W → B ≤ W.heap.size) := ⟨fun W hW => by rw [← hB]; exact hW.size⟩
  clear ht hC hB
  by_cases hl : 60 < xs.length
  · have h1 : (60 : Int) < (xs.length : Int) := by omega
    clear hl
    go_enter Tryd.func6, Tryd.ntmps6
    go_wp2_with fail
    refine (awake_calls w).mono ?_
    rintro e w1 ⟨rfl, hb⟩
    go_wp2
    go_ret
    exact ⟨rfl, hb⟩
  have h1 : ¬ (60 : Int) < (xs.length : Int) := by omega
  have HL : Aside0 (xs.length ≤ 60) := ⟨by omega⟩
  have n5 : (xs.length : Int) ≤ 60 := by omega
  clear hl
  by_cases hr : room < 1 ∨ 1000 < room
  · have HR := Aside0.mk hr
    by_cases hr1 : room < 1
    · clear hr
      go_enter Tryd.func6, Tryd.ntmps6
      go_wp2_with fail
      refine (new_no room w HR.out).mono ?_
      rintro e w1 ⟨rfl, rfl⟩
      go_wp2_with fail
      refine (awake_calls w).mono ?_
      rintro e w1 ⟨rfl, hb⟩
      go_wp2
      go_ret
      exact ⟨rfl, hb⟩
    · have hr2 : 1000 < room := by omega
      clear hr
      go_enter Tryd.func6, Tryd.ntmps6
      go_wp2_with fail
      refine (new_no room w HR.out).mono ?_
      rintro e w1 ⟨rfl, rfl⟩
      go_wp2_with fail
      refine (awake_calls w).mono ?_
      rintro e w1 ⟨rfl, hb⟩
      go_wp2
      go_ret
      exact ⟨rfl, hb⟩
  have hr1 : ¬ room < 1 := by omega
  have hr2 : ¬ 1000 < room := by omega
  obtain ⟨r, rfl⟩ : ∃ r : Nat, room = (r : Int) := ⟨room.toNat, by omega⟩
  have HRA : Aside0 (1 ≤ r ∧ r ≤ 1000) := ⟨by omega⟩
  clear hr
  go_enter Tryd.func6, Tryd.ntmps6
  go_wp2_with fail
  refine (new_yes (r : Int) w (by have := HRA.out; omega) (by have := HRA.out; omega)).mono ?_
  rintro e w1 ⟨rfl, hc, hb⟩
  have hcr := CR.start hc r rfl (by have := HRA.out; omega)
  rw [HBQ.out] at hcr hb ⊢
  have HCR := Aside0.mk hcr
  have HB1 := Aside0.mk hb
  clear hc hcr hb
  go_upto_region 9 with (fail)
  have HJ0 : Aside0 (JS B (w1.alloc (.cells #[] 93)) B (.slice none 0 0) (.slice (some ⟨w1.heap.size, 0, none⟩) 0 0) r []) := ⟨⟨HCR.out.below (below_alloc (Below.refl _ _) _), RE_none w1 B (HSZ.out _ HB1.out), fun b _ h => by simp [Value.ownBlock] at h⟩⟩
  have HB2 : Aside0 (Below B w (w1.alloc (.cells #[] 93))) := ⟨HB1.out.trans ((below_alloc (Below.refl _ _) _).mono (HSZ.out _ HB1.out))⟩
  clear HCR HB1
  go_wp2_with fail
  go_loopw [8, 7] (fun v8 v7 W => ∃ (k : Nat) (told : List E) (v : Value), k ≤ xs.length ∧ v8 = .int .i64 k ∧ Aside0 (told.length ≤ k) ∧ Aside0 (JS B W B v v7 r told) ∧ Aside0 (Num told) ∧ Aside0 (Below B w W)) (fun v8 _ _ => xs.length - (intOf v8).toNat)
  case atStart => exact ⟨0, [], _, Nat.zero_le _, rfl, ⟨Nat.le_refl _⟩, HJ0, ⟨Num.nil⟩, HB2⟩
  case round =>
    clear HJ0 HB2
    obtain ⟨k, told, v, hk, rfl, HTL, HJ, HN, HB⟩ := hrel
    by_cases hlt : k < xs.length
    · obtain ⟨ad, x, rfl, hx, b0, b1, b2, b3⟩ := atT HC.out hlt
      have hBw : Below w.heap.size w wr := by rw [HBQ.out]; exact HB.out
      have p0 := pw_cell_below hBw b0
      have p1 := pw_cell_below hBw b1
      have p2 := pw_cell_below hBw b2
      have p3 := pw_cell_below hBw b3
      have HLT := Aside0.mk hlt
      have hk5 : (k : Int) ≤ 60 := by have := HL.out; omega
      have hki : (k : Int) < (xs.length : Int) := by omega
      clear hBw b0 b1 b2 b3 hx
      obtain ⟨⟨a, ha⟩, ⟨d, hd⟩, s, ⟨n, hn⟩⟩ := x
      simp only at p0 p1 p2 p3
      have HA : Aside0 (i64 a) := ⟨ha⟩
      have HD : Aside0 (i64 d) := ⟨hd⟩
      have HNN : Aside0 (i64 n) := ⟨hn⟩
      clear ha hd hn
      go_upto_region 13 with (fail)
      obtain ⟨gx, hgx⟩ : ∃ gx, wr.heap.size = gx := ⟨_, rfl⟩
      refine wp_world (fun W => Aside0 (JS B W B v u7 r told) ∧ Aside0 (Below B w W) ∧ Aside0 (W.heap[gx]? = some (.cells #[.int .i64 a, .int .i64 d, .string s, .int .i64 n] 51 (0, 0)))) ⟨⟨HJ.out.below (below_alloc (Below.refl _ _) _)⟩, ⟨HB.out.trans ((below_alloc (Below.refl _ _) _).mono (HSZ.out _ HB.out))⟩, ⟨by rw [← hgx]; exact blk_new wr _⟩⟩ ?_
      rw [hgx]
      clear HJ HB p0 p1 p2 p3 hgx
      rintro w3 ⟨HJ, HB, HG⟩
      have e2 := blk_cell HG.out 2
      simp at e2
      by_cases hs : 100 < s.size
      · have hs5 : (100 : Int) < (s.size : Int) := by omega
        go_wp2_with fail
        refine (awake_calls w3).mono ?_
        rintro e w4 ⟨rfl, hb⟩
        have HB4 : Aside0 (Below B w w4) := ⟨HB.out.trans (hb.mono (HSZ.out _ HB.out))⟩
        clear hb
        go_wp2
        go_ret
        exact ⟨rfl, by rw [HBQ.out]; exact HB4.out⟩
      have hs5 : ¬ (100 : Int) < (s.size : Int) := by omega
      have HS : Aside0 (s.size ≤ 100) := ⟨by omega⟩
      have e0 := blk_cell HG.out 0
      have e1 := blk_cell HG.out 1
      simp at e0 e1
      clear hs
      obtain ⟨Aa, ca, hva, _, hCa⟩ := Kd.R_reads HJ.out.all
      subst hva
      have HCA := Aside0.mk hCa
      clear hCa
      go_wp2_with fail
      refine (refTell_calls Aa ca told a d s w3 HCA.out (by have := HTL.out; have := HL.out; omega) HS.out HA.out HD.out).mono ?_
      rintro e w4 hP
      obtain ⟨va', told', err, rfl, hT, hb, hR, hap⟩ := HJ.out.ref (HSZ.out _ HB.out) HA.out HD.out (by have := HTL.out; have := HL.out; omega) rfl hP
      have HT := Aside0.mk hT
      have HCR4 := Aside0.mk (HJ.out.cr.below hb)
      have HR4 := Aside0.mk hR
      have HAP := Aside0.mk hap
      have HB4 : Aside0 (Below B w w4) := ⟨HB.out.trans (hb.mono (HSZ.out _ HB.out))⟩
      have HG4 := Aside0.mk (blk_below HG.out hb)
      have HTL4 : Aside0 (told'.length ≤ k + 1) := ⟨by have := hT.len; have := HTL.out; omega⟩
      have HN4 := Aside0.mk (HN.out.step HS.out hT)
      obtain ⟨Ab, cb, hvb, hcb, _⟩ := Kd.R_reads hR
      subst hvb
      have HCB := Aside0.mk hcb
      clear hP hT hb hR hap hcb HJ HB HG e0 e1 e2 HCA HN
      have e0 := blk_cell HG4.out 0
      have e1 := blk_cell HG4.out 1
      have e2 := blk_cell HG4.out 2
      simp at e0 e1 e2
      go_wp2_with fail
      refine (tell_any B B v r told a d s w4 HCR4.out (by have := HRA.out; omega) (by have := HRA.out; omega) (by have := HTL.out; have := HL.out; omega) HS.out HA.out HD.out).mono ?_
      rintro e w5 ⟨v2, told2, err2, rfl, hT2, hcr2, hk2, ho2⟩
      obtain ⟨hu1, hu2⟩ := hT2.unique HT.out
      subst hu1
      subst hu2
      have HJ5 := Aside0.mk (JS.tell HCR4.out HR4.out HAP.out hcr2 hk2 ho2)
      have HB5 : Aside0 (Below B w w5) := ⟨HB4.out.trans (HCR4.out.frame hk2 (HSZ.out _ HB4.out))⟩
      have HG5 := Aside0.mk (HCR4.out.kept HG4.out hk2)
      clear hT2 hcr2 hk2 ho2 HCR4 HR4 HAP HB4 HG4 e0 e1 e2 HT
      have HCA5 : Aside0 (Kd.C kE w5 Ab told2.length told2) := ⟨(Kd.R_reads' HJ5.out.all).2.2⟩
      go_wp2_with fail
      refine (there_calls Ab cb told2 (r : Int) w5 HCA5.out HCB.out (by omega) (by have := HTL4.out; have := HL.out; omega)).mono ?_
      rintro e w6 ⟨rfl, A2, c2, rfl, hC2, hc2⟩
      have HC2 := Aside0.mk hC2
      have HCC2 := Aside0.mk hc2
      clear hC2 hc2
      have e3 := blk_cell HG5.out 3
      simp at e3
      go_upto_region 21 with (fail)
      obtain ⟨bn, hbn⟩ : ∃ bn, decide (n < 0) = bn := ⟨_, rfl⟩
      have HBN := Aside0.mk hbn
      go_cut [92] (fun v92 wx => v92 = .bool bn ∧ Aside0 (w5 = wx))
      case first =>
        go_wp2_with fail
        go_meet
        exact ⟨rfl, ⟨rfl⟩⟩
      case rest =>
      obtain ⟨rfl, ⟨rfl⟩⟩ := hcut
      clear hbn
      go_upto_if 92 with (fail)
      go_cut [13] (fun v13 wx => v13 = .int .i64 (max n 0) ∧ Aside0 (w5 = wx))
      case first =>
        cases bn
        · have HM : Aside0 (max n 0 = n) := ⟨by have := of_decide_eq_false HBN.out; omega⟩
          go_wp2_with fail
          go_meet
          exact ⟨by rw [HM.out], ⟨rfl⟩⟩
        · have HM : Aside0 (max n 0 = 0) := ⟨by have := of_decide_eq_true HBN.out; omega⟩
          go_wp2_with fail
          go_meet
          exact ⟨by rw [HM.out], ⟨rfl⟩⟩
      case rest =>
        obtain ⟨rfl, ⟨rfl⟩⟩ := hcut
        have HTH : Aside0 ((thereL told2 (r : Int)).length ≤ 60) := ⟨by have := there_len told2 (r : Int); have := HTL4.out; have := HL.out; have := HLT.out; omega⟩
        go_wp2_with fail
        refine (there_calls A2 c2 (thereL told2 (r : Int)) (max n 0) w5 HC2.out HCC2.out (by omega) (by have := HTH.out; omega)).mono ?_
        rintro e w6 ⟨rfl, A3, c3, rfl, hC3, _⟩
        have HC3 := Aside0.mk hC3
        clear hC3
        go_wp2_with fail
        refine (since_any n HJ5.out.cr (by have := HRA.out; omega) (by have := HRA.out; omega) (by have := HTL4.out; have := HL.out; omega) HNN.out).mono ?_
        rintro e w6 ⟨vS, rfl, hRS, hb6⟩
        obtain ⟨As, cs, rfl, _, hCS⟩ := Kd.R_reads hRS
        have HCS := Aside0.mk hCS
        have HC26 := Aside0.mk (Kd.C_below HC2.out hb6)
        have HC36 := Aside0.mk (Kd.C_below HC3.out hb6)
        have HJ6 := Aside0.mk (HJ5.out.below hb6)
        have HB6 : Aside0 (Below B w w6) := ⟨HB5.out.trans (hb6.mono (HSZ.out _ HB5.out))⟩
        have HG6 := Aside0.mk (blk_below HG5.out hb6)
        clear hRS hb6 hCS HC2 HC3 HJ5 HB5 HG5 HCA5 e3
        have e3 := blk_cell HG6.out 3
        simp at e3
        go_wp2_with fail
        refine (refSince_calls A2 c2 (thereL told2 (r : Int)) n w6 HC26.out (by have := HTH.out; omega)).mono ?_
        rintro e w7 ⟨vV, rfl, hRV, hb7⟩
        obtain ⟨Av, cv, rfl, _, hCV⟩ := Kd.R_reads hRV
        have HCV := Aside0.mk hCV
        have HCS7 := Aside0.mk (Kd.C_below HCS.out hb7)
        have HC27 := Aside0.mk (Kd.C_below HC26.out hb7)
        have HC37 := Aside0.mk (Kd.C_below HC36.out hb7)
        have HJ7 := Aside0.mk (HJ6.out.below hb7)
        have HB7 : Aside0 (Below B w w7) := ⟨HB6.out.trans (hb7.mono (HSZ.out _ HB6.out))⟩
        have HG7 := Aside0.mk (blk_below HG6.out hb7)
        clear hRV hb7 hCV HC26 HC36 HJ6 HB6 HG6 HCS e3
        have HCA7 : Aside0 (Kd.C kE w7 Ab told2.length told2) := ⟨(Kd.R_reads' HJ7.out.all).2.2⟩
        obtain ⟨L1, hL1⟩ : ∃ L1, thereL (thereL told2 (r : Int)) (max n 0) = L1 := ⟨_, rfl⟩
        obtain ⟨S1, hS1⟩ : ∃ S1, sinceL (thereL told2 (r : Int)) n = S1 := ⟨_, rfl⟩
        obtain ⟨O1, hO1⟩ : ∃ O1, ofL (thereL told2 (r : Int)) d = O1 := ⟨_, rfl⟩
        obtain ⟨m2, hm2⟩ : ∃ m2, (sinceL told2 n).length = m2 := ⟨_, rfl⟩
        obtain ⟨T1, hT1⟩ : ∃ T1, textL (thereL told2 (r : Int)) = T1 := ⟨_, rfl⟩
        have hmax : max ((told2.length : Int) - max n 0) 0 = (m2 : Int) := by rw [← since_len HN4.out.num n, hm2]
        have HANS : Aside0 (Ans B w7 v2 r told2 n d Ab cb A2 c2 L1 S1 O1 m2 T1) := ⟨HJ7.out.cr, by have := HRA.out; omega, by have := HRA.out; omega, by have := HTL4.out; have := HL.out; have := HLT.out; omega, HN4.out, HNN.out, HTB.out _ HB7.out, HCA7.out, HC27.out, by rw [last_there, hL1], hS1, hO1, hm2, hT1⟩
        have HL1 : Aside0 (L1.length ≤ 1000) := ⟨by have := there_len (thereL told2 (r : Int)) (max n 0); rw [hL1] at this; have := HTH.out; omega⟩
        have HS1 : Aside0 (S1.length ≤ 1000) := ⟨by have := stay_len (fun x => decide (x.n.1 ≤ n)) (thereL told2 (r : Int)); have h2 : sinceL (thereL told2 (r : Int)) n = stay (fun x => decide (x.n.1 ≤ n)) (thereL told2 (r : Int)) := rfl; rw [← h2, hS1] at this; have := HTH.out; omega⟩
        have HO1 : Aside0 (O1.length ≤ 1000) := ⟨by have := stay_len (fun x => x.d.1 != d) (thereL told2 (r : Int)); have h2 : ofL (thereL told2 (r : Int)) d = stay (fun x => x.d.1 != d) (thereL told2 (r : Int)) := rfl; rw [← h2, hO1] at this; have := HTH.out; omega⟩
        rw [hL1] at HC37 ⊢
        rw [hS1] at HCS7 HCV ⊢
        rw [hmax]
        clear hL1 hS1 hO1 hm2 hT1 hmax HC27
        have e1 := blk_cell HG7.out 1
        have e3 := blk_cell HG7.out 3
        simp at e1 e3
        go_upto_region 26 with (fail)
        go_region_held3 (fun W => (W.cell? ⟨gx, 1, none⟩ = some (.int .i64 d) ∧ W.cell? ⟨gx, 3, none⟩ = some (.int .i64 n)) ∧ Aside0 (Below w7.heap.size w7 W))
          ((first | (with_reducible assumption) | exact ⟨⟨e1, e3⟩, ⟨below_drew (Below.refl _ _)⟩⟩ | exact ⟨⟨e1, e3⟩, ⟨Below.refl _ _⟩⟩))
          (first
            | (go_at_call 25; (with_reducible refine (Ans.k25 HANS (by with_reducible assumption)).mono ?_); rintro e wA ⟨⟨A5, c5, rfl, HR1⟩, hb⟩; have hS' := keep_two (by with_reducible assumption) hb; clear hb)
            | (go_at_call 24; (with_reducible refine (k24a HR1 HC37 HL1 (by with_reducible assumption)).mono ?_); rintro e wB ⟨rfl, hb⟩; have hS' := keep_two (by with_reducible assumption) hb; clear hb HR1)
            | (go_at_call 24; (with_reducible refine (k24b HCS7 HCV HS1 (by with_reducible assumption)).mono ?_); rintro e wC ⟨rfl, hb⟩; have hS' := keep_two (by with_reducible assumption) hb; clear hb)
            | (go_at_call 23; (with_reducible refine (Ans.k23 HANS (by with_reducible assumption)).mono ?_); rintro e wD ⟨⟨A6, c6, rfl⟩, hb⟩; have hS' := keep_two (by with_reducible assumption) hb; clear hb)
            | (go_at_call 26; (with_reducible refine (Ans.k26 HANS (by with_reducible assumption)).mono ?_); rintro e wE ⟨⟨A7, c7, rfl, HR6⟩, hb⟩; have hS' := keep_two (by with_reducible assumption) hb; clear hb)
            | (go_at_call 27; (with_reducible refine (Ans.k27 HANS (by with_reducible assumption)).mono ?_); rintro e wF ⟨⟨A8, c8, rfl, HR7⟩, hb⟩; have hS' := keep_two (by with_reducible assumption) hb; have HBE := Aside0.mk hb; clear hb)
            | (go_at_call 24; (with_reducible refine (k24c HR6 HBE HR7 HO1).mono ?_); rintro e wG ⟨rfl, hb⟩; have hS' := keep_two (by with_reducible assumption) hb; clear hb HR6 HR7 HBE)
            | (go_at_call 28; (with_reducible refine (Ans.k28 HANS (by with_reducible assumption)).mono ?_); rintro e wH ⟨rfl, hb⟩; have hS' := keep_two (by with_reducible assumption) hb; clear hb)
            | (go_at_call 29; (with_reducible refine (Ans.k29 HANS (by with_reducible assumption)).mono ?_); rintro e wI ⟨rfl, hb⟩; have hS' := keep_two (by with_reducible assumption) hb; clear hb)
            | (go_at_call 30; (with_reducible refine (Ans.k30 HANS (by with_reducible assumption)).mono ?_); rintro e wJ ⟨rfl, hb⟩; have hS' := keep_two (by with_reducible assumption) hb; clear hb))
        have HJ8 := Aside0.mk (HJ7.out.below hS'.2.out)
        have HB8 : Aside0 (Below B w wJ) := ⟨HB7.out.trans (hS'.2.out.mono (HSZ.out _ HB7.out))⟩
        clear hS' e1 e3 HANS HCV HCS7 HC37 HJ7 HB7 HG7 HCA7
        go_wp2
        go_roundw
        case rel => exact ⟨k + 1, told2, v2, HLT.out, by go_num, HTL4, HJ8, HN4, HB8⟩
        case measure => have := HLT.out; simp [intOf]; omega
    · obtain rfl : k = xs.length := by omega
      go_wp2_with fail
      refine (awake_calls wr).mono ?_
      rintro e w4 ⟨rfl, hb⟩
      have HB4 : Aside0 (Below B w w4) := ⟨HB.out.trans (hb.mono (HSZ.out _ HB.out))⟩
      clear hb
      go_wp2
      go_ret
      exact ⟨rfl, by rw [HBQ.out]; exact HB4.out⟩
end Go.Proofs.YthimnnnfgangbaaDoor.Cn
