/- Contracts of the law's of, and of (*Tally).At: for every input. -/
import Derived.Test.YthimnnnfgangbaaDoorTsC
import Derived.Deep.MidRow
set_option linter.unusedVariables false
set_option linter.unusedSimpArgs false
namespace Go.Proofs.YthimnnnfgangbaaDoor.Ts
open Go.RowKit Go.Proofs.YthimnnnfgangbaaDoorW.PrintWords Go.Proofs.YthimnnnfgangbaaDoorW.PrintLast Go.Proofs.YthimnnnfgangbaaDoorW.PrintMore Go.Proofs.YthimnnnfgangbaaDoor.Qr
/-- The tally of numbers. -/
def tal (l : List Nat) : T := l.foldl T.add t0
theorem tal_snoc (l : List Nat) (n : Nat) : tal (l ++ [n]) = (tal l).add n := by unfold tal; rw [List.foldl_append]; rfl
/-- What is always so of a tally of n numbers. -/
structure Fine (t : T) (n : Nat) : Prop where
  c : t.c = n
  s : W64 t.s
  l : W64 t.l
  m : W64 t.m
  len : t.st.length = 65
  st : ∀ k, t.st.getD k 0 ≤ n
theorem plus_lt (a b : Nat) : W64 (plus a b) := by unfold plus W64; split <;> omega
theorem fine_add {t : T} {n x : Nat} (h : Fine t n) (hx : W64 x) : Fine (t.add x) (n + 1) := by
  refine ⟨by simp [T.add, h.c], plus_lt _ _, ?_, ?_, by simp [T.add, h.len], fun k => ?_⟩
  · show W64 (if t.c = 0 ∨ x < t.l then x else t.l)
    split
    · exact hx
    · exact h.l
  · show W64 (max t.m x)
    have := h.m
    unfold W64 at *
    omega
  · show (t.st.set (bl x) (t.st.getD (bl x) 0 + 1)).getD k 0 ≤ n + 1
    have h1 := h.st k
    have h2 := h.st (bl x)
    rw [List.getD_eq_getElem?_getD, List.getElem?_set]
    split
    · rename_i e
      split
      · show t.st.getD (bl x) 0 + 1 ≤ n + 1; omega
      · simp
    · rw [← List.getD_eq_getElem?_getD]; omega
theorem fine_t0 : Fine t0 0 := ⟨rfl, show (0 : Nat) < 18446744073709551616 by decide, show (0 : Nat) < 18446744073709551616 by decide, show (0 : Nat) < 18446744073709551616 by decide, rfl, fun k => by
  show (List.replicate 65 (0 : Nat)).getD k 0 ≤ 0
  rw [List.getD_eq_getElem?_getD, List.getElem?_replicate]
  split <;> simp⟩
theorem fine_tal (l : List Nat) (h : ∀ x ∈ l, W64 x) : Fine (tal l) l.length := by
  have key : ∀ (l : List Nat) (t : T) (n : Nat), Fine t n → (∀ x ∈ l, W64 x) → Fine (l.foldl T.add t) (n + l.length) := by
    intro l
    induction l with
    | nil => intro t n h _; exact h
    | cons x l ih =>
      intro t n h hl
      have := ih (t.add x) (n + 1) (fine_add h (hl x (by simp))) (fun y hy => hl y (List.mem_cons_of_mem _ hy))
      rw [List.foldl_cons, List.length_cons, show n + (l.length + 1) = n + 1 + l.length by omega]
      exact this
  have := key l t0 0 fine_t0 h
  rw [Nat.zero_add] at this
  exact this
/-- Numbers, read. -/
def vals (xs : List U64) : List Nat := xs.map (·.1)
theorem vals_len (xs : List U64) : (vals xs).length = xs.length := by simp [vals]
theorem vals_lt (xs : List U64) : ∀ x ∈ vals xs, W64 x := by
  intro x hx
  obtain ⟨y, _, rfl⟩ := List.mem_map.1 hx
  exact y.2
theorem atU {w : World} {A : Option Addr} {xs : List U64} (h : Kd.C kU w A xs.length xs) {k : Nat} (hk : k < xs.length) : ∃ ad x, A = some ad ∧ xs[k]? = some x ∧ w.cell? (ad.add k) = some (.int .u64 x.1) := by
  obtain ⟨ad, x, c, e, hx, hK, hc0⟩ := el_at zU h hk
  have hc : ∀ j u, c[j]? = some u → w.cell? (ad.add (k * 1 + j)) = some u := hc0
  obtain rfl : c = [.int .u64 x.1] := hK
  refine ⟨ad, x, e, hx, ?_⟩
  have := hc 0 _ rfl
  simpa using this
set_option maxHeartbeats 1600000 in
set_option maxRecDepth 100000 in
theorem of_calls (xs : List U64) (A : Option Addr) (c : Nat) (w : World) (hC : Kd.C kU w A xs.length xs) (hl : xs.length ≤ 100) :
    Calls Tryd.prog 34 #[.slice A xs.length c] w fun e w' => e = .returned (.pointer (some ⟨w.heap.size, 0, none⟩)) ∧ TL w' w.heap.size (tal (vals xs)) ∧ Below w.heap.size w w' := by
  have HC := Aside0.mk hC
  have HL := Aside0.mk hl
  clear hC hl
  go_enter Tryd.func34, Tryd.ntmps34
  go_wp2_with fail
  refine (new_calls w).mono ?_
  obtain ⟨g, hg⟩ : ∃ g, w.heap.size = g := ⟨_, rfl⟩
  have HG := Aside0.mk hg
  rw [hg]
  clear hg
  rintro e w1 ⟨rfl, ht, hb⟩
  have HT := Aside0.mk ht
  have HB := Aside0.mk (show Below w.heap.size w w1 by rw [HG.out]; exact hb)
  clear ht hb
  go_wp2_with fail
  go_loopw [4] (fun v4 W => ∃ k : Nat, k ≤ xs.length ∧ v4 = .int .i64 k ∧ Aside0 (TL W g (tal (vals (xs.take k)))) ∧ Aside0 (Below w.heap.size w W)) (fun v4 _ => xs.length - (intOf v4).toNat)
  case atStart => exact ⟨0, Nat.zero_le _, rfl, HT, HB⟩
  case round =>
    clear HT HB
    obtain ⟨k, hk, rfl, HT, HB⟩ := hrel
    by_cases hlt : k < xs.length
    · obtain ⟨ad, ⟨x, hx⟩, rfl, hg, b0⟩ := atU HC.out hlt
      have p0 := pw_cell_below HB.out b0
      simp only at p0
      have HLT := Aside0.mk hlt
      have HF := Aside0.mk (fine_tal (vals (xs.take k)) (vals_lt _))
      have HLEN := Aside0.mk (show (vals (xs.take k)).length = k by rw [vals_len, List.length_take]; omega)
      have HX : Aside0 (W64 x) := ⟨hx⟩
      have HSTEP : Aside0 (tal (vals (xs.take (k + 1))) = (tal (vals (xs.take k))).add x) := ⟨by
        rw [← tal_snoc, List.take_add_one, hg]
        simp [vals]⟩
      have hk5 : (k : Int) ≤ 1000 := by have := HL.out; omega
      clear b0 hg hx
      go_wp2_with fail
      refine (add_calls g _ x _ HT.out HX.out (by have := HF.out.c; have := HLEN.out; have := HLT.out; have := HL.out; omega) HF.out.s (by have := HF.out.st (bl x); have := HLEN.out; have := HLT.out; have := HL.out; omega)).mono ?_
      rintro e w2 ⟨rfl, ht, hb⟩
      have HT2 : Aside0 (TL w2 g (tal (vals (xs.take (k + 1))))) := ⟨by rw [HSTEP.out]; exact ht⟩
      have HB2 : Aside0 (Below w.heap.size w w2) := ⟨HB.out.trans (hb.below (by rw [HG.out]; exact Nat.le_refl _) HB.out.size)⟩
      clear ht hb HSTEP HF HT HB
      go_wp2
      go_roundw
      case rel => exact ⟨k + 1, HLT.out, by go_num, HT2, HB2⟩
      case measure => have := HLT.out; simp [intOf]; omega
    · obtain rfl : k = xs.length := by omega
      have HT2 : Aside0 (TL wr g (tal (vals xs))) := ⟨by have := HT.out; rw [List.take_length] at this; exact this⟩
      have HB2 : Aside0 (Below g w wr) := ⟨by have := HB.out; rw [HG.out] at this; exact this⟩
      clear HT HB
      go_wp2
      go_ret
      rw [HG.out]
      exact ⟨rfl, HT2.out, HB2.out⟩
/-! At. -/
def atGo (c p : Nat) : Nat → Nat → List Nat → Nat
  | _, _, [] => 0
  | k, s, x :: r => if c * p ≤ (s + x) * 100 then endN k else atGo c p (k + 1) (s + x) r
def pN (p : Int) : Nat := (min (max p 0) 100).toNat
def atF (t : T) (p : Int) : Nat := if t.c = 0 then 0 else atGo t.c (pN p) 0 0 t.st
theorem at_nil (p : Int) (w : World) : Calls Tryd.prog 56 #[.pointer none, .int .i64 p] w fun e w' => e = .returned (.int .u64 (0 : Int)) ∧ w = w' := by
  go_enter Tryd.func56, Tryd.ntmps56
  go_wp2_with fail
  refine (count_nil w).mono ?_
  rintro e w1 ⟨rfl, rfl⟩
  go_wp2
  go_ret
  exact ⟨rfl, rfl⟩
theorem index106 (st : List Nat) (h : st.length = 65) (k : Nat) (hk : k < 65) (w : World) : (Instr.index 106 (.agg (st.map U).toArray) (.int .i64 k)).run Tryd.prog w = .ok (.int .u64 (st.getD k 0)) w := by
  have h2 : k < st.length := by omega
  have h3 : (k : Int) < 65 := by omega
  have h4 : ¬ 65 ≤ k := by omega
  simp [Instr.index, asIntOf, run_underlying Tryd.underlying106, go_sem, h2, h3, h4, U]
theorem range_st {w : World} {g : Nat} {t : T} (h : TL w g t) : w.rangeAt g 4 (t.st.map U) := by
  intro j v hv
  have hj : j < 65 := by
    have := (List.getElem?_eq_some_iff.1 hv).1
    simpa [h.len] using this
  rw [h.ck hj]
  rw [List.getElem?_map] at hv
  have h2 : j < t.st.length := by rw [h.len]; exact hj
  rw [List.getElem?_eq_getElem h2] at hv
  rw [List.getD_eq_getElem?_getD, List.getElem?_eq_getElem h2]
  simpa [U] using hv
theorem atGo_step (c p k s : Nat) (st : List Nat) (hk : k < st.length) : atGo c p k s (st.drop k) = if c * p ≤ (s + st.getD k 0) * 100 then endN k else atGo c p (k + 1) (s + st.getD k 0) (st.drop (k + 1)) := by
  rw [List.drop_eq_getElem_cons hk, atGo, show st.getD k 0 = st[k] by rw [List.getD_eq_getElem?_getD, List.getElem?_eq_getElem hk]; rfl]
set_option maxHeartbeats 1600000 in
set_option maxRecDepth 100000 in
theorem at_calls (g : Nat) (t : T) (n : Nat) (p : Int) (w : World) (h : TL w g t) (hf : Fine t n) (hn : n ≤ 100) :
    Calls Tryd.prog 56 #[.pointer (some ⟨g, 0, none⟩), .int .i64 p] w fun e w' => e = .returned (.int .u64 (atF t p)) ∧ w = w' := by
  by_cases hc : t.c = 0
  · have h1 : atF t p = 0 := if_pos hc
    have H := Aside0.mk h
    have HC : Aside0 (t.c = 0) := ⟨hc⟩
    rw [h1]
    clear h hc h1 hf hn
    go_enter Tryd.func56, Tryd.ntmps56
    go_wp2_with fail
    refine (count_calls g t w H.out).mono ?_
    rintro e w1 ⟨rfl, rfl⟩
    rw [HC.out]
    go_wp2
    go_ret
    exact ⟨rfl, rfl⟩
  · have h1 : atF t p = atGo t.c (pN p) 0 0 t.st := if_neg hc
    have H := Aside0.mk h
    have HF := Aside0.mk hf
    have HN := Aside0.mk hn
    have b1 : ((t.c : Int) == 0) = false := by simp; omega
    rw [h1]
    clear h hc h1 hf hn
    obtain ⟨r, hr⟩ : ∃ r, atGo t.c (pN p) 0 0 t.st = r := ⟨_, rfl⟩
    have HR := Aside0.mk hr
    rw [hr]
    clear hr
    go_enter Tryd.func56, Tryd.ntmps56
    go_wp2_with fail
    refine (count_calls g t w H.out).mono ?_
    rintro e w1 ⟨rfl, rfl⟩
    go_upto_region 4 with (fail)
    rw [show min (max p 0) 100 = ((pN p : Nat) : Int) by unfold pN; omega]
    obtain ⟨q, hq⟩ : ∃ q, pN p = q := ⟨_, rfl⟩
    have hq2 : q ≤ 100 := by rw [← hq]; unfold pN; omega
    have HQ := Aside0.mk hq2
    rw [hq] at HR ⊢
    clear hq hq2 b1
    have c0 := H.out.c0
    obtain ⟨cs, hcs⟩ : ∃ cs : List Value, t.st.map U = cs := ⟨_, rfl⟩
    have HCS := Aside0.mk hcs
    have HRG : Aside0 (w.rangeAt g 4 cs) := ⟨by rw [← hcs]; exact range_st H.out⟩
    have HINFO : Aside0 ((Tryd.prog.info? 106).map (·.size) = some cs.length) := ⟨by rw [← hcs, List.length_map, H.out.len]; kernel_rfl⟩
    clear hcs
    go_wp2_with ((with_reducible refine gate_dst (N := 18) rfl ?_); refine wpList_load_mid rfl 106 (.tmp 17) rfl g 4 rfl cs _ HRG.out Tryd.underlying106 rfl HINFO.out ?_)
    go_loop [19, 6] (fun v19 v6 => ∃ k s : Nat, k ≤ 65 ∧ v19 = .int .i64 k ∧ v6 = .int .u64 s ∧ Aside0 (s ≤ k * 100) ∧ Aside0 (atGo t.c q k s (t.st.drop k) = r)) (fun v19 _ => 65 - (intOf v19).toNat)
    case atStart => exact ⟨0, 0, by omega, rfl, rfl, ⟨by omega⟩, HR⟩
    case round =>
      clear HR
      obtain ⟨k, s, hk, rfl, rfl, HS, HR⟩ := hrel
      by_cases hlt : k < 65
      · obtain ⟨x, hx⟩ : ∃ x, t.st.getD k 0 = x := ⟨_, rfl⟩
        have j0 : ∀ W, (Instr.index 106 (.agg cs.toArray) (.int .i64 k)).run Tryd.prog W = .ok (.int .u64 x) W := fun W => by rw [← HCS.out, ← hx]; exact index106 t.st H.out.len k hlt W
        have hx5 : (x : Int) ≤ 1000 := by have := HF.out.st k; have := HN.out; omega
        have hs5 : (s : Int) ≤ 100000 := by have := HS.out; omega
        have HR2 : Aside0 ((if t.c * q ≤ (s + x) * 100 then endN k else atGo t.c q (k + 1) (s + x) (t.st.drop (k + 1))) = r) := ⟨by rw [← hx, ← atGo_step t.c q k s t.st (by rw [H.out.len]; exact hlt)]; exact HR.out⟩
        have HS2 : Aside0 (s + x ≤ (k + 1) * 100) := ⟨by have := HS.out; have := HF.out.st k; have := HN.out; omega⟩
        have HLT := Aside0.mk hlt
        clear HR HS hx
        by_cases hb : t.c * q ≤ (s + x) * 100
        · have HRR : Aside0 (endN k = r) := ⟨by have := HR2.out; rw [if_pos hb] at this; exact this⟩
          have HBB : Aside0 (decide (t.c * q ≤ (s + x) * 100) = true) := ⟨decide_eq_true hb⟩
          clear hb HR2
          go_wp2_with fail
          rw [show ((s : Int) + (x : Int)) = ((s + x : Nat) : Int) by omega]
          refine (enough_calls (s + x) t.c q (by omega) (by have := HF.out.c; have := HN.out; omega) HQ.out w).mono ?_
          rintro e w1 ⟨rfl, rfl⟩
          rw [HBB.out]
          go_wp2_with fail
          refine (end_calls k (by have := HLT.out; omega) w).mono ?_
          rintro e w1 ⟨rfl, rfl⟩
          go_wp2
          go_ret
          exact ⟨by rw [← HRR.out]; rfl, rfl⟩
        · have HRR : Aside0 (atGo t.c q (k + 1) (s + x) (t.st.drop (k + 1)) = r) := ⟨by have := HR2.out; rw [if_neg hb] at this; exact this⟩
          have HBB : Aside0 (decide (t.c * q ≤ (s + x) * 100) = false) := ⟨decide_eq_false hb⟩
          clear hb HR2
          go_wp2_with fail
          rw [show ((s : Int) + (x : Int)) = ((s + x : Nat) : Int) by omega]
          refine (enough_calls (s + x) t.c q (by omega) (by have := HF.out.c; have := HN.out; omega) HQ.out w).mono ?_
          rintro e w1 ⟨rfl, rfl⟩
          rw [HBB.out]
          go_wp2
          go_round
          case rel => exact ⟨k + 1, s + x, by have := HLT.out; omega, by go_num, rfl, HS2, HRR⟩
          case measure => have := HLT.out; simp [intOf]; omega
      · obtain rfl : k = 65 := by omega
        have HRR : Aside0 (0 = r) := ⟨by have := HR.out; rw [List.drop_of_length_le (by rw [H.out.len]; omega)] at this; exact this⟩
        clear HR HS
        go_wp2
        go_ret
        exact ⟨by rw [← HRR.out]; rfl, rfl⟩
end Go.Proofs.YthimnnnfgangbaaDoor.Ts
