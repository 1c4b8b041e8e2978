/- Contract of (*Tally).Add: for every input. -/
import Derived.Test.YthimnnnfgangbaaDoorTsB
import Derived.Test.YthimnnnfgangbaaDoorQrI
import Derived.BigRegion
import Derived.Deep.RegionHeld3
set_option linter.unusedVariables false
set_option linter.unusedSimpArgs false
namespace Go.Proofs.YthimnnnfgangbaaDoor.Ts
open Go.RowKit Go.Proofs.YthimnnnfgangbaaDoorW.PrintWords Go.Proofs.YthimnnnfgangbaaDoorW.PrintLast Go.Proofs.YthimnnnfgangbaaDoorW.PrintMore Go.Proofs.YthimnnnfgangbaaDoor.Qr
abbrev bl (n : Nat) : Nat := Lib.bitLen n
theorem bl_lt {n : Nat} (h : n < 18446744073709551616) : bl n < 65 := by
  have := Lib.bitLen_le n 64 (by omega) h
  unfold bl
  omega
/-- A number of 64 bits. -/
def W64 (n : Nat) : Prop := n < 18446744073709551616
theorem wrapU {n : Nat} (h : n < 10000000) : IntKind.u64.wrap (n : Int) = n := IntWalk.u64_in _ (by omega)
def T.low (t : T) (n : Nat) : T := if t.c = 0 ∨ n < t.l then { t with l := n } else t
def T.add (t : T) (n : Nat) : T := ⟨t.c + 1, plus t.s n, if t.c = 0 ∨ n < t.l then n else t.l, max t.m n, t.st.set (bl n) (t.st.getD (bl n) 0 + 1)⟩
theorem add_nil (n : Int) (w : World) : Calls Tryd.prog 32 #[.pointer none, .int .u64 n] w fun e w' => e = .returned (.tuple #[]) ∧ w = w' := by
  go_enter Tryd.func32, Tryd.ntmps32
  go_wp2
  refine bodyPost_ret (results_none rfl _ _ _) rfl ?_
  exact ⟨rfl, rfl⟩
theorem u64_max (a b : Nat) : (max (a : Int) (b : Int)) = ((max a b : Nat) : Int) := by omega
set_option maxHeartbeats 3200000 in
set_option maxRecDepth 100000 in
theorem add_calls (g : Nat) (t : T) (n : Nat) (w : World) (h : TL w g t) (hn : W64 n) (hc : t.c < 1000000) (hs : W64 t.s) (hst : t.st.getD (bl n) 0 < 1000000) :
    Calls Tryd.prog 32 #[.pointer (some ⟨g, 0, none⟩), .int .u64 n] w fun e w' => e = .returned (.tuple #[]) ∧ TL w' g (t.add n) ∧ KB g w w' := by
  have HN := Aside0.mk hn
  have HS := Aside0.mk hs
  have HST := Aside0.mk hst
  have HH := Aside0.mk h
  have c0 := h.c0
  have c2 := h.c2
  have f2 := blk_frozen h.blk 2
  have hcc : (t.c : Int) < 1000000 := by omega
  have HC := Aside0.mk hc
  clear h hn hs hst hc hcc
  go_enter Tryd.func32, Tryd.ntmps32
  go_upto_region 1 with (fail)
  obtain ⟨b, hb⟩ : ∃ b : Bool, decide (t.c = 0 ∨ n < t.l) = b := ⟨_, rfl⟩
  have HB := Aside0.mk hb
  clear hb
  go_cut [18] (fun v18 wx => v18 = .bool b ∧ Aside0 (w = wx))
  case first =>
    by_cases h1 : t.c = 0
    · have b1 : ((t.c : Int) == 0) = true := by simp; omega
      have hb : b = true := by rw [← HB.out]; exact decide_eq_true (.inl h1)
      subst hb
      clear h1
      go_wp2_with fail
      go_meet
      exact ⟨rfl, ⟨rfl⟩⟩
    · have b1 : ((t.c : Int) == 0) = false := by simp; omega
      by_cases h2 : n < t.l
      · have b2 : decide (n < t.l) = true := decide_eq_true h2
        have hb : b = true := by rw [← HB.out]; exact decide_eq_true (.inr h2)
        subst hb
        clear h1 h2
        go_wp2_with fail
        go_meet
        exact ⟨rfl, ⟨rfl⟩⟩
      · have b2 : decide (n < t.l) = false := decide_eq_false h2
        have hb : b = false := by rw [← HB.out]; exact decide_eq_false (by rintro (h | h); exact h1 h; exact h2 h)
        subst hb
        clear h1 h2
        go_wp2_with fail
        go_meet
        exact ⟨rfl, ⟨rfl⟩⟩
  case rest =>
  obtain ⟨rfl, hw⟩ := hcut
  obtain rfl := hw.out
  clear hw
  go_upto_if 18 with (fail)
  go_cut [] (fun wx => Aside0 (TL wx g { t with l := if t.c = 0 ∨ n < t.l then n else t.l }) ∧ Aside0 (KB g w wx))
  case first =>
    cases b
    · have HT : Aside0 (TL w g { t with l := if t.c = 0 ∨ n < t.l then n else t.l }) := ⟨by rw [if_neg (of_decide_eq_false HB.out)]; exact HH.out⟩
      go_wp2_with fail
      go_meet
      exact ⟨HT, ⟨KB.refl _ _⟩⟩
    · have HT : Aside0 (TL (w.setCell ⟨g, 2, none⟩ (.int .u64 n)) g { t with l := if t.c = 0 ∨ n < t.l then n else t.l }) := ⟨by rw [if_pos (of_decide_eq_true HB.out)]; exact HH.out.s2 n⟩
      go_wp2_with fail
      go_meet
      exact ⟨HT, ⟨KB.set 2 _⟩⟩
  case rest =>
    obtain ⟨HT, HK⟩ := hcut
    obtain ⟨t1, ht1⟩ : ∃ t1 : T, { t with l := if t.c = 0 ∨ n < t.l then n else t.l } = t1 := ⟨_, rfl⟩
    have HT1 := Aside0.mk ht1
    rw [ht1] at HT
    clear ht1 HH c0 c2 f2
    have HC1 := Aside0.mk (show t1.c = t.c by rw [← HT1.out])
    have HS1 := Aside0.mk (show t1.s = t.s by rw [← HT1.out])
    have HM1 := Aside0.mk (show t1.m = t.m by rw [← HT1.out])
    have HST1 := Aside0.mk (show t1.st = t.st by rw [← HT1.out])
    have c3 := HT.out.c3
    have f3 := blk_frozen HT.out.blk 3
    go_upto_region 4 with (fail)
    rw [u64_max]
    refine wp_world (fun W => Aside0 (TL W g { t1 with m := max t1.m n }) ∧ Aside0 (KB g w W)) ⟨⟨HT.out.s3 _⟩, ⟨HK.out.trans (KB.set 3 _)⟩⟩ ?_
    clear HT HK c3 f3
    rintro w2 ⟨HT, HK⟩
    have c0 := HT.out.c0
    have f0 := blk_frozen HT.out.blk 0
    have hcc : (t1.c : Int) < 1000000 := by have := HC.out; have := HC1.out; omega
    go_upto_region 5 with (fail)
    rw [show ((t1.c : Int) + 1) = ((t1.c + 1 : Nat) : Int) by omega]
    refine wp_world (fun W => Aside0 (TL W g { t1 with m := max t1.m n, c := t1.c + 1 }) ∧ Aside0 (KB g w W)) ⟨⟨HT.out.s0 _⟩, ⟨HK.out.trans (KB.set 0 _)⟩⟩ ?_
    clear HT HK c0 f0 hcc
    rintro w3 ⟨HT, HK⟩
    have c1 := HT.out.c1
    have f1 := blk_frozen HT.out.blk 1
    simp only at c1
    go_wp2_with fail
    refine (plus_calls t1.s n (by have := HS.out; rw [← HS1.out] at this; exact this) HN.out _).mono ?_
    rintro e w' ⟨rfl, rfl⟩
    go_upto_region 6 with (fail)
    refine wp_world (fun W => Aside0 (TL W g { t1 with m := max t1.m n, c := t1.c + 1, s := plus t1.s n }) ∧ Aside0 (KB g w W)) ⟨⟨HT.out.s1 _⟩, ⟨HK.out.trans (KB.set 1 _)⟩⟩ ?_
    clear HT HK c1 f1
    rintro w4 ⟨HT, HK⟩
    have hbl := bl_lt HN.out
    have ck := HT.out.ck hbl
    have fk := blk_frozen HT.out.blk (4 + bl n)
    simp only at ck
    obtain ⟨q, hq⟩ : ∃ q, t1.st.getD (bl n) 0 = q := ⟨_, rfl⟩
    have HQ := Aside0.mk hq
    rw [hq] at ck
    have hq2 : (q : Int) < 1000000 := by have := HST.out; rw [← HST1.out, hq] at this; omega
    have HLEN : Aside0 (∀ W, Calls Tryd.prog 58 #[.int .u64 n] W fun e w' => e = .returned (.int .i64 (bl n)) ∧ W = w') := ⟨fun W => (Tryd.bits_Len64 n W (by omega) (by have := HN.out; unfold W64 at this; omega)).mono (by
      rintro e w' ⟨rfl, rfl⟩
      exact ⟨by simp, rfl⟩)⟩
    obtain ⟨k, hk⟩ : ∃ k, bl n = k := ⟨_, rfl⟩
    have HKK := Aside0.mk hk
    rw [hk] at ck fk hbl HLEN
    clear hk hq
    have k1 : (k : Int) < 65 := by omega
    have k2 : (0 : Int) ≤ k := by omega
    go_region_with (first | (go_at_call 58; (with_reducible refine (HLEN.out _).mono ?_); rintro e w' ⟨rfl, rfl⟩))
    have HW : Aside0 (IntKind.u64.wrap ((q : Int) + 1) = ((q + 1 : Nat) : Int)) := ⟨wrapU (n := q + 1) (by omega)⟩
    rw [HW.out]
    go_wp2
    go_end0
    refine ⟨rfl, ?_, (HK.out.trans (KB.set (4 + k) (.int .u64 ((q + 1 : Nat) : Int)))).drew 1⟩
    have h2 := (HT.out.sk k (q + 1)).below (below_drew (Below.refl _ _))
    have h3 : t.add n = { t1 with m := max t1.m n, c := t1.c + 1, s := plus t1.s n, st := t1.st.set k (q + 1) } := by
      unfold T.add
      rw [HKK.out, ← HQ.out, HKK.out, HST1.out, HC1.out, HS1.out, HM1.out]
      rw [← HT1.out]
    rw [h3]
    exact h2
end Go.Proofs.YthimnnnfgangbaaDoor.Ts
