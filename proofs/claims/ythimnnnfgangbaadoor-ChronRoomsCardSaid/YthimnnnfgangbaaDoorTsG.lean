/- Contracts of the tally's Text: for every input. -/
import Derived.Test.YthimnnnfgangbaaDoorTsF
import Derived.Lib.Join
set_option linter.unusedVariables false
set_option linter.unusedSimpArgs false
namespace Go.Proofs.YthimnnnfgangbaaDoor.Ts
open Go.RowKit Go.Proofs.YthimnnnfgangbaaDoorW.PrintWords Go.Proofs.YthimnnnfgangbaaDoorW.PrintLast Go.Proofs.YthimnnnfgangbaaDoorW.PrintMore Go.Proofs.YthimnnnfgangbaaDoor.Qr
/-- A tally, or nobody's. -/
def TP (w : World) (p : Option Addr) (t : T) : Prop := (p = none ∧ t = t0) ∨ ∃ g, p = some ⟨g, 0, none⟩ ∧ TL w g t
theorem TP.below {w w1 : World} {p : Option Addr} {t : T} (h : TP w p t) (hb : Below w.heap.size w w1) : TP w1 p t := by
  rcases h with h | ⟨g, h1, h2⟩
  · exact .inl h
  · exact .inr ⟨g, h1, h2.below hb⟩
theorem count_any {p : Option Addr} {t : T} {w : World} (h : TP w p t) : Calls Tryd.prog 53 #[.pointer p] w fun e w' => e = .returned (.int .u64 t.c) ∧ w = w' := by
  rcases h with ⟨rfl, rfl⟩ | ⟨g, rfl, h⟩
  · exact count_nil w
  · exact count_calls g t w h
theorem sum_any {p : Option Addr} {t : T} {w : World} (h : TP w p t) : Calls Tryd.prog 54 #[.pointer p] w fun e w' => e = .returned (.int .u64 t.s) ∧ w = w' := by
  rcases h with ⟨rfl, rfl⟩ | ⟨g, rfl, h⟩
  · exact sum_nil w
  · exact sum_calls g t w h
theorem range_any {p : Option Addr} {t : T} {w : World} (h : TP w p t) : Calls Tryd.prog 60 #[.pointer p] w fun e w' => e = .returned (.tuple #[.int .u64 t.l, .int .u64 t.m]) ∧ Below w.heap.size w w' := by
  rcases h with ⟨rfl, rfl⟩ | ⟨g, rfl, h⟩
  · exact range_nil w
  · exact range_calls g t w h
theorem stepAt_t0 (j : Int) : stepAt t0 j = 0 := by
  have := stepAt_le fine_t0 j
  omega
theorem step_any {p : Option Addr} {t : T} {w : World} (h : TP w p t) (j : Int) : Calls Tryd.prog 55 #[.pointer p, .int .i64 j] w fun e w' => e = .returned (.int .u64 (stepAt t j)) ∧ w = w' := by
  rcases h with ⟨rfl, rfl⟩ | ⟨g, rfl, h⟩
  · rw [stepAt_t0]
    exact step_nil j w
  · by_cases hj : 0 ≤ j ∧ j < 65
    · have h1 := step_calls g t j.toNat (by omega) w h
      rw [show ((j.toNat : Nat) : Int) = j by omega] at h1
      unfold stepAt
      rw [if_pos hj]
      exact h1
    · unfold stepAt
      rw [if_neg hj]
      exact step_out _ j (by omega) w
theorem at_any {p : Option Addr} {t : T} {n : Nat} {w : World} (h : TP w p t) (hf : Fine t n) (hn : n ≤ 100) (q : Int) : Calls Tryd.prog 56 #[.pointer p, .int .i64 q] w fun e w' => e = .returned (.int .u64 (atF t q)) ∧ w = w' := by
  rcases h with ⟨rfl, rfl⟩ | ⟨g, rfl, h⟩
  · exact at_nil q w
  · exact at_calls g t n q w h hf hn
theorem num_calls (u : Nat) (hu : W64 u) (w : World) (ht : Tab w) : Calls Tryd.prog 79 #[.int .u64 u] w fun e w' => e = .returned (.string ⟨(dd u).toArray⟩) ∧ Below w.heap.size w w' := by
  have HT := Aside0.mk ht
  have HU := Aside0.mk hu
  clear ht hu
  go_enter Tryd.func79, Tryd.ntmps79
  go_wp2_with fail
  refine (fmtu_calls u HU.out w HT.out).mono ?_
  rintro e w1 ⟨rfl, hb⟩
  go_wp2
  go_ret
  exact ⟨rfl, hb⟩
/-! The words. -/
def stepW (t : T) (k : Nat) : List (List UInt8) := if 0 < stepAt t k then [[115, 116, 101, 112], it k, dd (stepAt t k)] else []
def baseW (t : T) : List (List UInt8) := [[99, 111, 117, 110, 116], dd t.c, [115, 117, 109], dd t.s, [108, 101, 97, 115, 116], dd t.l, [109, 111, 115, 116], dd t.m]
def wordsT (t : T) : Nat → List (List UInt8)
  | 0 => baseW t
  | k + 1 => wordsT t k ++ stepW t k
def textT (t : T) : List UInt8 := Lib.join (wordsT t 65) [32]
def bs (l : List UInt8) : ByteArray := ⟨l.toArray⟩
theorem words_len (t : T) (k : Nat) : 8 ≤ (wordsT t k).length ∧ (wordsT t k).length ≤ 8 + 3 * k := by
  induction k with
  | zero => exact ⟨Nat.le_refl _, Nat.le_refl _⟩
  | succ k ih =>
    unfold wordsT
    rw [List.length_append]
    have : (stepW t k).length ≤ 3 := by unfold stepW; split <;> simp
    omega
theorem words_short {t : T} {n : Nat} (h : Fine t n) (hn : n ≤ 100) (k : Nat) (hk : k ≤ 65) : ∀ x ∈ wordsT t k, x.length ≤ 21 := by
  induction k with
  | zero =>
    intro x hx
    have hc : W64 t.c := by rw [h.c]; unfold W64; omega
    have h1 := (dd_len hc).2
    have h2 := (dd_len h.s).2
    have h3 := (dd_len h.l).2
    have h4 := (dd_len h.m).2
    simp only [wordsT, baseW, List.mem_cons, List.not_mem_nil, or_false] at hx
    rcases hx with rfl | rfl | rfl | rfl | rfl | rfl | rfl | rfl <;> simp <;> omega
  | succ k ih =>
    intro x hx
    rcases List.mem_append.1 hx with hx | hx
    · exact ih (by omega) x hx
    · unfold stepW at hx
      split at hx
      · have h1 := (it_len (n := (k : Int)) (by omega) (by omega)).2
        have h2 := (dd_len (u := stepAt t k) (by have := stepAt_le h (k : Int); omega)).2
        simp only [List.mem_cons, List.not_mem_nil, or_false] at hx
        rcases hx with rfl | rfl | rfl <;> simp <;> omega
      · cases hx
theorem join_short (xs : List (List UInt8)) (c : Nat) (h : ∀ x ∈ xs, x.length ≤ c) : (Lib.join xs [32]).length ≤ (c + 1) * xs.length := by
  cases xs with
  | nil => simp [Lib.join_nil]
  | cons x r =>
    rw [Lib.join_length]
    have key : ∀ l : List (List UInt8), (∀ x ∈ l, x.length ≤ c) → Lib.lens l ≤ c * l.length := by
      intro l
      induction l with
      | nil => intro _; exact Nat.le_refl _
      | cons y l ih =>
        intro h
        have h1 := ih (fun z hz => h z (List.mem_cons_of_mem _ hz))
        have h2 := h y (by simp)
        simp only [Lib.lens, List.map_cons, List.sum_cons, List.length_cons, Nat.mul_add] at h1 ⊢
        omega
    have := key (x :: r) h
    simp only [List.length_cons, List.length_nil, Nat.add_mul, Nat.mul_add] at this ⊢
    omega
theorem cell_lt {w : World} {a : Addr} {v : Value} (h : w.cell? a = some v) : a.block < w.heap.size := by
  rcases Nat.lt_or_ge a.block w.heap.size with h1 | h1
  · exact h1
  · have h2 : w.heap[a.block]? = none := Array.getElem?_eq_none h1
    simp [World.cell?, h2] at h
/-! A row of words of one's own. -/
theorem R_new (xs : List ByteArray) (W : World) (base : Nat) (hb : base ≤ W.heap.size) (hm : xs.length ≤ 1000000) :
    Kd.R Kd.string 9 (W.alloc (.cells (xs.map Value.string).toArray 9)) base (fun _ => True) (.slice (some ⟨W.heap.size, 0, none⟩) xs.length xs.length) xs := by
  refine ⟨fun _ _ => trivial, xs.map Value.string, ?_, ?_⟩
  · have h2 := World.ownsRow_lit (base := base) (e := 9) (size := 1) W (xs.map Value.string).toArray xs.length hb (by unfold maxLen; omega) (by simp)
    simpa [show Kd.string.sz = 1 from rfl] using h2
  · refine ⟨by simp [Kd.string, Kd.scalar], fun j p hp => ?_⟩
    have hj := (List.getElem?_eq_some_iff.1 hp).1
    have hv := (List.getElem?_eq_some_iff.1 hp).2
    show ((xs.map Value.string).drop (j * 1)).take 1 = [Value.string p]
    rw [Nat.mul_one, List.drop_eq_getElem_cons (by simpa using hj)]
    simp [hv]
theorem R_open {w : World} {base : Nat} {ok : Nat → Prop} {v : Value} {xs : List ByteArray} (h : Kd.R Kd.string 9 w base ok v xs) (hne : 0 < xs.length) :
    ∃ g c, v = .slice (some ⟨g, 0, none⟩) xs.length c ∧ xs.length ≤ c ∧ g < w.heap.size ∧ ∀ (j : Nat) x, xs[j]? = some x → w.cell? ⟨g, 0 + j, none⟩ = some (.string x) := by
  obtain ⟨A, c, rfl, hc, hC⟩ := Kd.R_reads h
  obtain ⟨_, inner, ⟨_, hown⟩, _⟩ := h
  have hA : ∃ g, A = some ⟨g, 0, none⟩ := by
    rcases hown with ⟨h1, _⟩ | ⟨g, cap, cur, h1, _⟩
    · simp at h1
      omega
    · injection h1 with h1
      exact ⟨g, h1⟩
  obtain ⟨g, rfl⟩ := hA
  have hcell : ∀ (j : Nat) x, xs[j]? = some x → w.cell? ⟨g, 0 + j, none⟩ = some (.string x) := by
    intro j x hx
    have hj := (List.getElem?_eq_some_iff.1 hx).1
    obtain ⟨ad, y, cs, he, hy, hK, hc0⟩ := el_at ByteArray.empty hC hj
    injection he with he
    subst he
    rw [hx] at hy
    injection hy with hy
    subst hy
    obtain rfl : cs = [Value.string x] := hK
    have := hc0 0 _ rfl
    rw [show Kd.string.sz = 1 from rfl, Nat.mul_one, Nat.add_zero] at this
    rw [Addr.add_mid] at this
    exact this
  refine ⟨g, c, rfl, hc, ?_, hcell⟩
  have := hcell 0 xs[0] (List.getElem?_eq_getElem hne)
  exact cell_lt this
theorem info9 : (Tryd.prog.info? 9).map (fun i => (i.zero, i.size, i.bytes)) = some (some (.string ⟨#[]⟩), 1, 16) := by kernel_rfl
/-- The words, as strings. -/
def wordsB (t : T) (k : Nat) : List ByteArray := (wordsT t k).map bs
theorem wordsB_len (t : T) (k : Nat) : (wordsB t k).length = (wordsT t k).length := by simp [wordsB]
theorem wordsB_join (t : T) (k : Nat) : (wordsB t k).map (·.data.toList) = wordsT t k := by
  unfold wordsB
  rw [List.map_map]
  have : ((fun b : ByteArray => b.data.toList) ∘ bs) = id := by
    funext l
    simp [bs]
  rw [this, List.map_id]
set_option maxHeartbeats 6400000 in
set_option maxRecDepth 100000 in
theorem text_calls (p : Option Addr) (t : T) (n : Nat) (w : World) (ht : Tab w) (hp : TP w p t) (hf : Fine t n) (hn : n ≤ 100) :
    Calls Tryd.prog 65 #[.pointer p] w fun e w' => e = .returned (.string ⟨(textT t).toArray⟩) ∧ Below w.heap.size w w' := by
  have HT := Aside0.mk ht
  have HP := Aside0.mk hp
  have HF := Aside0.mk hf
  have HN := Aside0.mk hn
  have HC64 : Aside0 (W64 t.c) := ⟨by rw [hf.c]; unfold W64; omega⟩
  clear ht hp hf hn
  go_enter Tryd.func65, Tryd.ntmps65
  go_wp2_with fail
  refine (range_any HP.out).mono ?_
  rintro e w1 ⟨rfl, hb⟩
  have HB1 := Aside0.mk hb
  clear hb
  go_wp2_with fail
  refine (count_any (HP.out.below HB1.out)).mono ?_
  rintro e w1' ⟨rfl, rfl⟩
  go_wp2_with fail
  refine (num_calls t.c HC64.out _ (tab_below HT.out HB1.out)).mono ?_
  rintro e w2 ⟨rfl, hb⟩
  have HB2 := Aside0.mk (below_step HB1.out hb)
  clear hb HB1
  go_wp2_with fail
  refine (sum_any (HP.out.below HB2.out)).mono ?_
  rintro e w2' ⟨rfl, rfl⟩
  go_wp2_with fail
  refine (num_calls t.s HF.out.s _ (tab_below HT.out HB2.out)).mono ?_
  rintro e w3 ⟨rfl, hb⟩
  have HB3 := Aside0.mk (below_step HB2.out hb)
  clear hb HB2
  go_wp2_with fail
  refine (num_calls t.l HF.out.l _ (tab_below HT.out HB3.out)).mono ?_
  rintro e w4 ⟨rfl, hb⟩
  have HB4 := Aside0.mk (below_step HB3.out hb)
  clear hb HB3
  go_wp2_with fail
  refine (num_calls t.m HF.out.m _ (tab_below HT.out HB4.out)).mono ?_
  rintro e w5 ⟨rfl, hb⟩
  have HB5 := Aside0.mk (below_step HB4.out hb)
  clear hb HB4
  go_upto_region 3 with (fail)
  refine wp_world (fun W => Aside0 (Kd.R Kd.string 9 W w.heap.size (fun _ => True) (.slice (some ⟨w5.heap.size, 0, none⟩) 8 8) (wordsB t 0)) ∧ Aside0 (Below w.heap.size w W)) ⟨⟨R_new (wordsB t 0) w5 w.heap.size HB5.out.size (by show 8 ≤ 1000000; omega)⟩, ⟨below_alloc HB5.out _⟩⟩ ?_
  obtain ⟨v0, hv0⟩ : ∃ v, Value.slice (some ⟨w5.heap.size, 0, none⟩) 8 8 = v := ⟨_, rfl⟩
  rw [hv0]
  clear HB5 hv0
  rintro w6 ⟨HR, HB⟩
  go_wp2_with fail
  go_loopw [24, 5] (fun v24 v5 W => ∃ k : Nat, k ≤ 65 ∧ v24 = .int .i64 k ∧ Aside0 (Kd.R Kd.string 9 W w.heap.size (fun _ => True) v5 (wordsB t k)) ∧ Aside0 (Below w.heap.size w W)) (fun v24 _ _ => 65 - (intOf v24).toNat)
  case atStart => exact ⟨0, by omega, rfl, HR, HB⟩
  case round =>
    clear HR HB
    obtain ⟨k, hk, rfl, HR, HB⟩ := hrel
    by_cases hlt : k < 65
    · have HLT := Aside0.mk hlt
      go_wp2_with fail
      refine (step_any (HP.out.below HB.out) k).mono ?_
      rintro e w7 ⟨rfl, rfl⟩
      obtain ⟨x, hx⟩ : ∃ x, stepAt t k = x := ⟨_, rfl⟩
      have hx1 : (x : Int) ≤ 1000 := by have := stepAt_le HF.out k; rw [hx] at this; have := HN.out; omega
      have HX := Aside0.mk hx
      rw [hx]
      clear hx
      by_cases h0 : 0 < x
      · have h1 : (0 : Int) < (x : Int) := by omega
        have HW : Aside0 (wordsB t k ++ [bs [115, 116, 101, 112], bs (it k), bs (dd x)] = wordsB t (k + 1)) := ⟨by
          show _ = (wordsT t k ++ stepW t k).map bs
          unfold stepW
          rw [HX.out, if_pos h0, List.map_append]
          rfl⟩
        clear h0
        go_wp2_with fail
        refine (itoa_calls (k : Int) (by omega) (by omega) _ (tab_below HT.out HB.out)).mono ?_
        rintro e w8 ⟨rfl, hb⟩
        have HB8 := Aside0.mk (below_step HB.out hb)
        have HR8 := Aside0.mk (Kd.R_below HR.out hb)
        clear hb HB HR
        go_wp2_with fail
        refine (num_calls x (by unfold W64; omega) _ (tab_below HT.out HB8.out)).mono ?_
        rintro e w9 ⟨rfl, hb⟩
        have HB9 := Aside0.mk (below_step HB8.out hb)
        have HR9 := Aside0.mk (Kd.R_below HR8.out hb)
        clear hb HB8 HR8
        have HLL : Aside0 (((wordsB t k).length + 3) * 16 ≤ 140737488355328) := ⟨by rw [wordsB_len]; have := (words_len t k).2; omega⟩
        have HC3 : Aside0 (Kd.C (Kd.scalar Value.string (fun _ => rfl)) (w9.alloc (.cells #[.string (bs [115, 116, 101, 112]), .string (bs (it k)), .string (bs (dd x))] 9)) (some ⟨w9.heap.size, 0, none⟩) 3 [bs [115, 116, 101, 112], bs (it k), bs (dd x)]) := ⟨(Kd.R_reads' (R_new [bs [115, 116, 101, 112], bs (it k), bs (dd x)] w9 0 (Nat.zero_le _) (by show 3 ≤ 1000000; omega))).2.2⟩
        have HRA : Aside0 (Kd.R (Kd.scalar Value.string (fun _ => rfl)) 9 (w9.alloc (.cells #[.string (bs [115, 116, 101, 112]), .string (bs (it k)), .string (bs (dd x))] 9)) w.heap.size (fun _ => True) u5 (wordsB t k)) := ⟨Kd.R_below HR9.out (below_alloc (Below.refl _ _) _)⟩
        have HBA : Aside0 (Below w.heap.size w (w9.alloc (.cells #[.string (bs [115, 116, 101, 112]), .string (bs (it k)), .string (bs (dd x))] 9))) := ⟨below_alloc HB9.out _⟩
        go_wp2_with ((with_reducible refine gate_builtin (b := .append) (xs := #[.tmp 32, .tmp 37]) rfl ?_); at_builtin; refine Kd.R_append_row (w0 := w) Value.string ByteArray.empty (h1 := fun _ => rfl) w.heap.size rfl (.tmp 32) (.tmp 37) 90 9 (.string ⟨#[]⟩) 16 rfl Tryd.underlying90 info9 rfl (by decide) u5 (wordsB t k) _ (some ⟨w9.heap.size, 0, none⟩) 3 3 (fun _ => True) rfl rfl (fun _ _ => trivial) HRA.out HC3.out HBA.out HBA.out.size HLL.out ?_; intro v1 w10 hr hb hg hown)
        have HR10 : Aside0 (Kd.R Kd.string 9 w10 w.heap.size (fun _ => True) v1 (wordsB t (k + 1))) := ⟨by rw [← HW.out]; exact hr⟩
        have HB10 := Aside0.mk hb
        clear hr hb hg hown HRA HBA HC3 HLL HR9 HB9
        go_wp2
        go_roundw
        case rel => exact ⟨k + 1, by have := HLT.out; omega, by go_num, HR10, HB10⟩
        case measure => have := HLT.out; simp [intOf]; omega
      · have h1 : ¬ (0 : Int) < (x : Int) := by omega
        have h2 : decide (0 < x) = false := decide_eq_false h0
        have HR2 : Aside0 (Kd.R Kd.string 9 wr w.heap.size (fun _ => True) u5 (wordsB t (k + 1))) := ⟨by
          have : wordsB t (k + 1) = wordsB t k := by
            show (wordsT t k ++ stepW t k).map bs = _
            unfold stepW
            rw [HX.out, if_neg h0, List.append_nil]
            rfl
          rw [this]
          exact HR.out⟩
        clear h0 HR
        go_wp2
        go_roundw
        case rel => exact ⟨k + 1, by have := HLT.out; omega, by go_num, HR2, HB⟩
        case measure => have := HLT.out; simp [intOf]; omega
    · obtain rfl : k = 65 := by omega
      obtain ⟨g, c, rfl, hc, hg, hcell⟩ := R_open HR.out (by rw [wordsB_len]; have := (words_len t 65).1; omega)
      have HCALL : Aside0 (Calls Tryd.prog 50 #[.slice (some ⟨g, 0, none⟩) (wordsB t 65).length c, .string ⟨#[32]⟩] wr fun e w' => e = .returned (.string ⟨(textT t).toArray⟩) ∧ Below wr.heap.size wr w') := ⟨by
        have h := Tryd.strings_Join g 0 c (wordsB t 65) ⟨#[32]⟩ wr hcell hg (by rw [wordsB_len]; have := (words_len t 65).2; omega) hc (by
          rw [wordsB_join]
          have := join_short (wordsT t 65) 21 (words_short HF.out HN.out 65 (by omega))
          have := (words_len t 65).2
          show (Lib.join (wordsT t 65) [32]).length ≤ _
          omega)
        rw [wordsB_join] at h
        exact h⟩
      clear hc hg hcell HR
      go_wp2_with fail
      refine HCALL.out.mono ?_
      rintro e w8 ⟨rfl, hb⟩
      have HB8 := Aside0.mk (below_step HB.out hb)
      clear hb HCALL
      go_wp2
      go_ret
      exact ⟨rfl, HB8.out⟩
end Go.Proofs.YthimnnnfgangbaaDoor.Ts
