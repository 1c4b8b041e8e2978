/- Two chronicles to which the same is told. The law ChronRooms: true for every input. -/
import Derived.Test.YthimnnnfgangbaaDoorCmE
set_option linter.unusedVariables false
set_option linter.unusedSimpArgs false
namespace Go.Proofs.YthimnnnfgangbaaDoor.Cn
open Go.Proofs.YthimnnnfgangbaaDoor.Ts (cell_lt)
open Go.RowKit Go.Proofs.YthimnnnfgangbaaDoorW.PrintWords Go.Proofs.YthimnnnfgangbaaDoorW.PrintLast Go.Proofs.YthimnnnfgangbaaDoorW.PrintMore Go.Proofs.YthimnnnfgangbaaDoor.Qr
/-- A chronicle behind another one's Tell. -/
theorem CR.other {B : Nat} {w w' : World} {gx gy : Nat} {vx vy : Value} {r1 r2 : Nat} {t1 t2 : List E} (hx : CR B w gx vx r1 t1) (hy : CR B w gy vy r2 t2) (hne : gx ≠ gy) (hap : ∀ b, vy.ownBlock = some b → vx.ownBlock ≠ some b) (hk : KR gx vx w w') : CR B w' gy vy r2 t2 := by
  obtain ⟨ring, k, q1, q2⟩ := hy
  obtain ⟨ring1, k1, p1, _⟩ := hx
  refine ⟨ring, k, ⟨?_, RE_kr q1.row hk (RE_neq q1.row p1.blk) hap, q1.hB⟩, q2⟩
  rw [hk.other gy (blk_lt q1.blk) (Ne.symm hne) (RE_neq p1.row q1.blk)]
  exact q1.blk
/-- Two chronicles that hold what was told. -/
structure TS (B : Nat) (w : World) (gx gy : Nat) (vx vy : Value) (r1 r2 : Nat) (told : List E) : Prop where
  x : CR B w gx vx r1 told
  y : CR B w gy vy r2 told
  ne : gx ≠ gy
  apart : ∀ b, vy.ownBlock = some b → vx.ownBlock ≠ some b
theorem TS.below {B : Nat} {w w1 : World} {gx gy : Nat} {vx vy : Value} {r1 r2 : Nat} {told : List E} (h : TS B w gx gy vx vy r1 r2 told) (hb : Below w.heap.size w w1) : TS B w1 gx gy vx vy r1 r2 told := ⟨h.x.below hb, h.y.below hb, h.ne, h.apart⟩
theorem CR.own_lt {B : Nat} {w : World} {g : Nat} {v : Value} {r : Nat} {t : List E} (h : CR B w g v r t) : ∀ b, v.ownBlock = some b → b < w.heap.size := by
  obtain ⟨ring, k, q1, _⟩ := h
  exact RE_lt q1.row
/-- The same is told to the first one .. -/
structure MS (B : Nat) (w : World) (gx gy : Nat) (vx vy : Value) (r1 r2 : Nat) (told told' : List E) : Prop where
  x : CR B w gx vx r1 told'
  y : CR B w gy vy r2 told
  ne : gx ≠ gy
  apart : ∀ b, vy.ownBlock = some b → vx.ownBlock ≠ some b
theorem TS.first {B : Nat} {w W : World} {gx gy : Nat} {vx vy : Value} {r1 r2 : Nat} {told : List E} {a n : Int} {s : ByteArray} (h : Aside0 (TS B w gx gy vx vy r1 r2 told)) (hw : Below w.heap.size w W) (hB : B ≤ w.heap.size) (hr : Aside0 ((1 ≤ r1 ∧ r1 ≤ 1000) ∧ 1 ≤ r2 ∧ r2 ≤ 1000)) (ht : Aside0 (told.length ≤ 999)) (hs : Aside0 (s.size ≤ 100)) (ha : Aside0 (i64 a)) (hn : Aside0 (i64 n)) :
    Calls Tryd.prog 20 #[.pointer (some ⟨gx, 0, none⟩), .int .i64 a, .int .i64 n, .string s] W fun e w' => ∃ v' told' err, e = .returned (.int .i64 err) ∧ Aside0 (Tld told a n s told' err) ∧ Aside0 (MS B w' gx gy v' vy r1 r2 told told') ∧ Aside0 (Below B W w') := by
  have h2 := h.out.below hw
  have hBW : B ≤ W.heap.size := Nat.le_trans hB hw.size
  refine (tell_any B gx vx r1 told a n s W h2.x (by have := hr.out; omega) (by have := hr.out; omega) ht.out hs.out ha.out hn.out).mono ?_
  rintro e w' ⟨v', told', err, rfl, hT, hc, hk, ho⟩
  refine ⟨v', told', err, rfl, ⟨hT⟩, ⟨hc, CR.other h2.x h2.y h2.ne h2.apart hk, h2.ne, fun b hb hv => ?_⟩, ⟨h2.x.frame hk hBW⟩⟩
  rcases ho with ho | ⟨b2, ho, hlt⟩
  · rw [ho] at hv
    exact h2.apart b hb hv
  · have := h2.y.own_lt b hb
    rw [ho] at hv
    injection hv with hv
    omega
theorem MS.second {B : Nat} {w : World} {gx gy : Nat} {vx vy : Value} {r1 r2 : Nat} {told told' : List E} {a n err : Int} {s : ByteArray} (h : Aside0 (MS B w gx gy vx vy r1 r2 told told')) (hT : Aside0 (Tld told a n s told' err)) (hB : B ≤ w.heap.size) (hr : Aside0 ((1 ≤ r1 ∧ r1 ≤ 1000) ∧ 1 ≤ r2 ∧ r2 ≤ 1000)) (ht : Aside0 (told.length ≤ 999)) (hs : Aside0 (s.size ≤ 100)) (ha : Aside0 (i64 a)) (hn : Aside0 (i64 n)) :
    Calls Tryd.prog 20 #[.pointer (some ⟨gy, 0, none⟩), .int .i64 a, .int .i64 n, .string s] w fun e w' => ∃ v', e = .returned (.int .i64 err) ∧ Aside0 (TS B w' gx gy vx v' r1 r2 told') ∧ Aside0 (Below B w w') := by
  have h2 := h.out
  refine (tell_any B gy vy r2 told a n s w h2.y (by have := hr.out; omega) (by have := hr.out; omega) ht.out hs.out ha.out hn.out).mono ?_
  rintro e w' ⟨v', told2, err2, rfl, hT2, hc, hk, ho⟩
  obtain ⟨hu1, hu2⟩ := hT2.unique hT.out
  subst hu1
  subst hu2
  refine ⟨v', rfl, ⟨⟨CR.other h2.y h2.x (Ne.symm h2.ne) (fun b hb hv => h2.apart b hv hb) hk, hc, h2.ne, fun b hb hv => ?_⟩⟩, ⟨h2.y.frame hk hB⟩⟩
  rcases ho with ho | ⟨b2, ho, hlt⟩
  · rw [ho] at hb
    exact h2.apart b hb hv
  · have := h2.x.own_lt b hv
    rw [ho] at hb
    injection hb with hb
    omega
theorem there_there (xs : List E) (p q : Int) (hp : 0 ≤ p) (h : p ≤ q) : thereL (thereL xs q) p = thereL xs p := by
  by_cases h1 : q < (xs.length : Int)
  · have e1 : thereL xs q = xs.drop ((xs.length : Int) - q).toNat := by unfold thereL; rw [if_pos h1]
    have e2 : thereL xs p = xs.drop ((xs.length : Int) - p).toNat := by unfold thereL; rw [if_pos (by omega)]
    have hl : (xs.drop ((xs.length : Int) - q).toNat).length = xs.length - ((xs.length : Int) - q).toNat := List.length_drop
    rw [e1, e2]
    unfold thereL
    by_cases h2 : p < (((xs.drop ((xs.length : Int) - q).toNat).length : Nat) : Int)
    · rw [if_pos h2, List.drop_drop]
      congr 1
      omega
    · rw [if_neg h2]
      congr 1
      omega
  · have e1 : thereL xs q = xs := by unfold thereL; rw [if_neg h1]
    rw [e1]
theorem last_less (xs : List E) (p q : Nat) (h : p ≤ q) (hl : xs.length ≤ 1000) : lastN (thereL xs (p : Int)) 2000 = lastN (thereL xs (q : Int)) (p : Int) := by
  rw [last_there, last_there, show max (2000 : Int) 0 = 2000 by omega, show max (p : Int) 0 = (p : Int) by omega, there_there xs p q (by omega) (by omega)]
  have := there_len xs (p : Int)
  unfold thereL
  rw [if_neg]
  have h2 : thereL xs (p : Int) = (if (p : Int) < (xs.length : Int) then xs.drop ((xs.length : Int) - p).toNat else xs) := rfl
  rw [← h2]
  omega
end Go.Proofs.YthimnnnfgangbaaDoor.Cn

namespace Go.Proofs.YthimnnnfgangbaaDoor.Cn
open Go.Proofs.YthimnnnfgangbaaDoor.Ts (cell_lt)
open Go.RowKit Go.Proofs.YthimnnnfgangbaaDoorW.PrintWords Go.Proofs.YthimnnnfgangbaaDoorW.PrintLast Go.Proofs.YthimnnnfgangbaaDoorW.PrintMore Go.Proofs.YthimnnnfgangbaaDoor.Qr
theorem CR.lower {B B' : Nat} {w : World} {g : Nat} {v : Value} {r : Nat} {t : List E} (h : CR B w g v r t) (hb : B' ≤ B) : CR B' w g v r t := by
  obtain ⟨ring, k, q1, q2⟩ := h
  exact ⟨ring, k, ⟨q1.blk, Kd.R_lower q1.row hb, Nat.le_trans hb q1.hB⟩, q2⟩
set_option maxHeartbeats 6400000 in
set_option maxRecDepth 100000 in
theorem rooms_any (ai bi : Int) (A : Option Addr) (c : Nat) (xs : List TT) (w : World) (ht : Tab w) (hC : Kd.C kT w A xs.length xs) (ha : 0 ≤ ai ∧ ai ≤ 255) (hb : 0 ≤ bi ∧ bi ≤ 255) :
    Calls Tryd.prog 7 #[.int .u8 ai, .int .u8 bi, .slice A xs.length c] w fun e w' => e = .returned (.bool true) ∧ Below w.heap.size w w' := by
  obtain ⟨B, hB⟩ : ∃ B, w.heap.size = B := ⟨_, rfl⟩
  have HBQ := Aside0.mk hB
  have HC := Aside0.mk hC
  have HTB : Aside0 (∀ W, Below B w W → Tab W) := ⟨fun W hW => tab_below ht (by rw [hB]; exact hW)⟩
  have HSZ : Aside0 (∀ W, Below B w W → B ≤ W.heap.size) := ⟨fun W hW => by rw [← hB]; exact hW.size⟩
  have a0 := ha.1
  have a1 := ha.2
  have b0 := hb.1
  have b1 := hb.2
  clear ht hC hB ha hb
  by_cases hl : 60 < xs.length
  · have h1 : (60 : Int) < (xs.length : Int) := by omega
    clear hl
    go_enter Tryd.func7, Tryd.ntmps7
    go_wp2_with fail
    refine (awake_calls w).mono ?_
    rintro e w1 ⟨rfl, hb⟩
    go_wp2
    go_ret
    exact ⟨rfl, hb⟩
  have h1 : ¬ (60 : Int) < (xs.length : Int) := by omega
  have HL : Aside0 (xs.length ≤ 60) := ⟨by omega⟩
  have n5 : (xs.length : Int) ≤ 60 := by omega
  clear hl
  obtain ⟨r1, hr1⟩ : ∃ r1 : Nat, 1 + ai = (r1 : Int) := ⟨(1 + ai).toNat, by omega⟩
  obtain ⟨r2, hr2⟩ : ∃ r2 : Nat, 1 + ai + bi = (r2 : Int) := ⟨(1 + ai + bi).toNat, by omega⟩
  have HRR : Aside0 ((1 ≤ r1 ∧ r1 ≤ 1000) ∧ 1 ≤ r2 ∧ r2 ≤ 1000) := ⟨by omega⟩
  have HLE : Aside0 (r1 ≤ r2) := ⟨by omega⟩
  have HR1 := Aside0.mk hr1
  have HR2 := Aside0.mk hr2
  clear hr1 hr2
  go_enter Tryd.func7, Tryd.ntmps7
  go_wp2_with fail
  rw [HR1.out]
  refine (new_yes (r1 : Int) w (by have := HRR.out; omega) (by have := HRR.out; omega)).mono ?_
  rintro e w1 ⟨rfl, hc, hb⟩
  have hx := CR.start hc r1 rfl (by have := HRR.out; omega)
  rw [HBQ.out] at hx hb ⊢
  have HX := Aside0.mk hx
  have HB1 := Aside0.mk hb
  clear hc hx hb
  go_wp2_with fail
  rw [HR2.out]
  refine (new_yes (r2 : Int) w1 (by have := HRR.out; omega) (by have := HRR.out; omega)).mono ?_
  rintro e w2 ⟨rfl, hc, hb⟩
  have hy := (CR.start hc r2 rfl (by have := HRR.out; omega)).lower (HSZ.out _ HB1.out)
  obtain ⟨g2, hg2⟩ : ∃ g2, w1.heap.size = g2 := ⟨_, rfl⟩
  have hne : B ≠ g2 := by
    obtain ⟨ring, k, q1, _⟩ := HX.out.ch
    have := blk_lt q1.blk
    omega
  have HB2 : Aside0 (Below B w w2) := ⟨HB1.out.trans (hb.mono (HSZ.out _ HB1.out))⟩
  have HX2 := Aside0.mk (HX.out.below hb)
  rw [hg2] at hy ⊢
  have HTS : Aside0 (TS B w2 B g2 (.slice none 0 0) (.slice none 0 0) r1 r2 []) := ⟨HX2.out, hy, hne, fun b hb _ => by simp [Value.ownBlock] at hb⟩
  clear hc hy hb hg2 hne HX HX2 HB1
  go_wp2_with fail
  go_loopw [11] (fun v11 W => ∃ (k : Nat) (told : List E) (vx vy : Value), k ≤ xs.length ∧ v11 = .int .i64 k ∧ Aside0 (told.length ≤ k) ∧ Aside0 (TS B W B g2 vx vy r1 r2 told) ∧ Aside0 (Num told) ∧ Aside0 (Below B w W)) (fun v11 _ => xs.length - (intOf v11).toNat)
  case atStart => exact ⟨0, [], _, _, Nat.zero_le _, rfl, ⟨Nat.le_refl _⟩, HTS, ⟨Num.nil⟩, HB2⟩
  case round =>
    clear HTS HB2
    obtain ⟨k, told, vx, vy, hk, rfl, HTL, HTS, HN, HB⟩ := hrel
    by_cases hlt : k < xs.length
    · obtain ⟨ad, x, rfl, hx, p0, p1, p2, p3⟩ := atT HC.out hlt
      have HLT := Aside0.mk hlt
      have hk5 : (k : Int) ≤ 60 := by have := HL.out; omega
      have hki : (k : Int) < (xs.length : Int) := by omega
      obtain ⟨⟨a, ha⟩, ⟨d, hd⟩, s, ⟨n, hn⟩⟩ := x
      simp only at p0 p1 p2
      have HA : Aside0 (i64 a) := ⟨ha⟩
      have HD : Aside0 (i64 d) := ⟨hd⟩
      have HKS : Aside0 (∀ W, Below B w W → (W.cell? (ad.add (k * 4)) = some (.int .i64 a) ∧ W.cell? ⟨(ad.add (k * 4)).block, (ad.add (k * 4)).off + 1, none⟩ = some (.int .i64 d) ∧ W.cell? ⟨(ad.add (k * 4)).block, (ad.add (k * 4)).off + 2, none⟩ = some (.string s)) ∧ Aside0 (Below B w W)) := ⟨fun W hW => by
        have hW2 : Below w.heap.size w W := by rw [HBQ.out]; exact hW
        exact ⟨⟨pw_cell_below hW2 p0, pw_cell_below hW2 p1, pw_cell_below hW2 p2⟩, ⟨hW⟩⟩⟩
      clear ha hd hn hx p0 p1 p2 p3
      by_cases hs : 100 < s.size
      · have hs5 : (100 : Int) < (s.size : Int) := by omega
        have hS := HKS.out _ HB.out
        obtain ⟨⟨q0, q1, q2⟩, _⟩ := hS
        go_wp2_with fail
        go_region
        have HBD : Aside0 (Below B w wr.drew) := ⟨below_drew HB.out⟩
        obtain ⟨⟨q3, q4, q5⟩, _⟩ := HKS.out _ HBD.out
        clear q0 q1 q2
        go_wp2_with fail
        refine (awake_calls _).mono ?_
        rintro e w4 ⟨rfl, hb⟩
        have HB4 : Aside0 (Below B w w4) := ⟨HBD.out.trans (hb.mono (HSZ.out _ HBD.out))⟩
        clear hb
        go_wp2
        go_ret
        exact ⟨rfl, by rw [HBQ.out]; exact HB4.out⟩
      · have hs5 : ¬ (100 : Int) < (s.size : Int) := by omega
        have HS : Aside0 (s.size ≤ 100) := ⟨by omega⟩
        have HT9 : Aside0 (told.length ≤ 999) := ⟨by have := HTL.out; have := HL.out; omega⟩
        clear hs
        go_upto_region 10 with (fail)
        go_region_held3 (fun W => (W.cell? (ad.add (k * 4)) = some (.int .i64 a) ∧ W.cell? ⟨(ad.add (k * 4)).block, (ad.add (k * 4)).off + 1, none⟩ = some (.int .i64 d) ∧ W.cell? ⟨(ad.add (k * 4)).block, (ad.add (k * 4)).off + 2, none⟩ = some (.string s)) ∧ Aside0 (Below B w W))
          ((first | (with_reducible assumption) | exact HKS.out _ HB.out | exact HKS.out _ (below_drew HB.out)))
          (first
            | (go_at_call 20; (with_reducible refine (TS.first HTS (by first | exact Below.refl _ _ | exact below_drew (Below.refl _ _)) (HSZ.out _ HB.out) HRR HT9 HS HA HD).mono ?_); rintro e wA ⟨vA, told2, err, rfl, hT, hM, hbA⟩; have HBA : Aside0 (Below B w wA) := ⟨by first | exact HB.out.trans hbA.out | exact (below_drew HB.out).trans hbA.out⟩; have hS' := HKS.out _ HBA.out; clear hbA)
            | (go_at_call 20; (with_reducible refine (MS.second hM hT (HSZ.out _ HBA.out) HRR HT9 HS HA HD).mono ?_); rintro e wB ⟨vB, rfl, hTS2, hbB⟩; have HBB : Aside0 (Below B w wB) := ⟨HBA.out.trans hbB.out⟩; have hS' := HKS.out _ HBB.out; clear hbB))
        have HTL2 : Aside0 (told2.length ≤ k + 1) := ⟨by
          rcases hT.out with ⟨_, h2, _⟩ | ⟨_, _, h2, _⟩ | ⟨_, _, _, p, h2, _⟩
          · rw [h2]; have := HTL.out; omega
          · rw [h2]; have := HTL.out; omega
          · rw [h2]; have := HTL.out; simp; omega⟩
        have HN2 := Aside0.mk (HN.out.step HS.out hT.out)
        clear hS' hM hT HTS HBA HB HN HKS HTL
        go_wp2
        go_roundw
        case rel => exact ⟨k + 1, told2, vA, vB, HLT.out, by go_num, HTL2, hTS2, HN2, HBB⟩
        case measure => have := HLT.out; simp [intOf]; omega
    · obtain rfl : k = xs.length := by omega
      have HTL6 : Aside0 (told.length ≤ 60) := ⟨by have := HTL.out; have := HL.out; omega⟩
      go_wp2_with fail
      clear HC HL
      refine wp_loop_rounds 3 ?_
      rw [rounds_succ]
      go_wp2_with fail
      refine (since_nil 0 wr).mono ?_
      rintro e w1 ⟨rfl, hb⟩
      have HB1 : Aside0 (Below B w w1) := ⟨HB.out.trans (hb.mono (HSZ.out _ HB.out))⟩
      have HTS1 := Aside0.mk (HTS.out.below hb)
      clear hb HB HTS
      go_wp2_with fail
      refine (tell_nil 1 1 ⟨#[117, 112]⟩ w1).mono ?_
      rintro e w2 ⟨rfl, rfl⟩
      go_wp2_with fail
      refine (last_nil 3 w1).mono ?_
      rintro e w2 ⟨rfl, rfl⟩
      go_wp2_with fail
      refine (of_nil 1 w1).mono ?_
      rintro e w2 ⟨v', rfl, hR, hb⟩
      obtain ⟨Ao, co, rfl, _, _⟩ := Kd.R_reads hR
      have HB2 : Aside0 (Below B w w2) := ⟨HB1.out.trans (hb.mono (HSZ.out _ HB1.out))⟩
      have HTS2 := Aside0.mk (HTS1.out.below hb)
      clear hb hR HB1 HTS1
      go_wp2_with fail
      refine (many_nil w2).mono ?_
      rintro e w3 ⟨rfl, rfl⟩
      go_wp2_with fail
      refine (text_nil w2).mono ?_
      rintro e w3 ⟨rfl, hb⟩
      have HB3 : Aside0 (Below B w w3) := ⟨HB2.out.trans (hb.mono (HSZ.out _ HB2.out))⟩
      have HTS3 := Aside0.mk (HTS2.out.below hb)
      clear hb HB2 HTS2
      go_wp2_with fail
      rw [rounds_succ]
      go_wp2_with fail
      have HZ : Aside0 (CH B (w3.alloc (.cells #[.slice none 0 0, .int .i64 0, .int .i64 0, .int .i64 0, .int .i64 0] 65)) w3.heap.size (.slice none 0 0) [] 0 ((0 : Nat) : Int) 0 0) := ⟨blk_new w3 _, Kd.R_nil _ _ _ _ _, HSZ.out _ HB3.out⟩
      have HB4 : Aside0 (Below B w (w3.alloc (.cells #[.slice none 0 0, .int .i64 0, .int .i64 0, .int .i64 0, .int .i64 0] 65))) := ⟨HB3.out.trans ((below_alloc (Below.refl _ _) _).mono (HSZ.out _ HB3.out))⟩
      have HTS4 := Aside0.mk (HTS3.out.below (below_alloc (Below.refl w3.heap.size w3) (.cells #[.slice none 0 0, .int .i64 0, .int .i64 0, .int .i64 0, .int .i64 0] 65)))
      clear HB3 HTS3
      refine (since_zero B _ _ [] _ _ _ 0 _ HZ.out).mono ?_
      rintro e w5 ⟨rfl, hb⟩
      have HZ5 := Aside0.mk (HZ.out.below hb)
      have HB5 : Aside0 (Below B w w5) := ⟨HB4.out.trans (hb.mono (HSZ.out _ HB4.out))⟩
      have HTS5 := Aside0.mk (HTS4.out.below hb)
      clear hb HZ HB4 HTS4
      go_wp2_with fail
      refine (tell_zero B _ _ [] _ _ _ 1 1 ⟨#[117, 112]⟩ w5 HZ5.out).mono ?_
      rintro e w6 ⟨rfl, rfl⟩
      go_wp2_with fail
      refine (last_calls B _ _ [] _ _ _ 0 3 w5 HZ5.out (Nat.le_refl _) (by simp)).mono ?_
      have hn1 : lastN (([] : List E).drop 0 ++ ([] : List E).take 0) 3 = [] := rfl
      rw [hn1]
      rintro e w6 ⟨Al, cl, rfl, _, hb⟩
      have HZ6 := Aside0.mk (HZ5.out.below hb)
      have HB6 : Aside0 (Below B w w6) := ⟨HB5.out.trans (hb.mono (HSZ.out _ HB5.out))⟩
      have HTS6 := Aside0.mk (HTS5.out.below hb)
      clear hb HZ5 HB5 HTS5 hn1
      go_wp2_with fail
      refine (of_calls B _ _ [] _ _ _ 0 1 w6 HZ6.out (Nat.le_refl _) (by simp)).mono ?_
      have hn2 : ofL (([] : List E).drop 0 ++ ([] : List E).take 0) 1 = [] := rfl
      rw [hn2]
      rintro e w7 ⟨vo, rfl, hR, hb⟩
      obtain ⟨Ap, cp, rfl, _, _⟩ := Kd.R_reads hR
      have HZ7 := Aside0.mk (HZ6.out.below hb)
      have HB7 : Aside0 (Below B w w7) := ⟨HB6.out.trans (hb.mono (HSZ.out _ HB6.out))⟩
      have HTS7 := Aside0.mk (HTS6.out.below hb)
      clear hb HZ6 HB6 HTS6 hn2 hR
      go_wp2_with fail
      refine (many_calls B _ _ [] _ _ _ _ w7 HZ7.out).mono ?_
      rintro e w8 ⟨rfl, rfl⟩
      go_wp2_with fail
      refine (text_calls B _ _ [] _ _ _ 0 w7 HZ7.out (Nat.le_refl _) (by simp) (fun x hx => by cases hx) (HTB.out _ HB7.out)).mono ?_
      have hn3 : textL (([] : List E).drop 0 ++ ([] : List E).take 0) = [] := rfl
      rw [hn3]
      rintro e w8 ⟨rfl, hb⟩
      have HB8 : Aside0 (Below B w w8) := ⟨HB7.out.trans (hb.mono (HSZ.out _ HB7.out))⟩
      have HTS8 := Aside0.mk (HTS7.out.below hb)
      clear hb HZ7 HB7 HTS7 hn3
      go_wp2_with fail
      rw [rounds_succ]
      go_wp2_with fail
      refine (last_any 2000 HTS8.out.x (by have := HRR.out; omega)).mono ?_
      obtain ⟨L1, hL1⟩ : ∃ L1, lastN (thereL told (r1 : Int)) 2000 = L1 := ⟨_, rfl⟩
      have HL2 : Aside0 (lastN (thereL told (r2 : Int)) (r1 : Int) = L1) := ⟨by rw [← last_less told r1 r2 HLE.out (by have := HTL6.out; omega), hL1]⟩
      have HL3 : Aside0 (L1.length ≤ 1000) := ⟨by
        have h1 := there_len (thereL told (r1 : Int)) (max 2000 0)
        have h2 := there_len told (r1 : Int)
        rw [← last_there, hL1] at h1
        have := HTL6.out
        omega⟩
      rw [hL1]
      clear hL1
      rintro e w9 ⟨A5, c5, rfl, hC5, hb⟩
      have HC5 := Aside0.mk hC5
      have HB9 : Aside0 (Below B w w9) := ⟨HB8.out.trans (hb.mono (HSZ.out _ HB8.out))⟩
      have HTS9 := Aside0.mk (HTS8.out.below hb)
      clear hb hC5 HB8 HTS8
      go_wp2_with fail
      rw [HR1.out]
      refine (last_any (r1 : Int) HTS9.out.y (by have := HRR.out; omega)).mono ?_
      rw [HL2.out]
      rintro e w10 ⟨A6, c6, rfl, hC6, hb⟩
      have HC6 := Aside0.mk hC6
      have HC7 := Aside0.mk (Kd.C_below HC5.out hb)
      have HB10 : Aside0 (Below B w w10) := ⟨HB9.out.trans (hb.mono (HSZ.out _ HB9.out))⟩
      have HTS10 := Aside0.mk (HTS9.out.below hb)
      clear hb hC6 HB9 HTS9 HC5
      go_wp2_with fail
      refine (same_eq HC7.out HC6.out HL3.out).mono ?_
      rintro e w11 ⟨rfl, hb⟩
      have HB11 : Aside0 (Below B w w11) := ⟨HB10.out.trans (hb.mono (HSZ.out _ HB10.out))⟩
      have HTS11 := Aside0.mk (HTS10.out.below hb)
      clear hb HB10 HTS10 HC6 HC7
      go_wp2_with fail
      refine (many_any HTS11.out.x).mono ?_
      rintro e w12 ⟨rfl, rfl⟩
      go_wp2_with fail
      refine (many_any HTS11.out.y).mono ?_
      rintro e w12 ⟨rfl, rfl⟩
      go_wp2_with fail
      refine (awake_calls w11).mono ?_
      rintro e w12 ⟨rfl, hb⟩
      have HB12 : Aside0 (Below B w w12) := ⟨HB11.out.trans (hb.mono (HSZ.out _ HB11.out))⟩
      clear hb
      go_wp2
      go_ret
      exact ⟨rfl, by rw [HBQ.out]; exact HB12.out⟩
end Go.Proofs.YthimnnnfgangbaaDoor.Cn
