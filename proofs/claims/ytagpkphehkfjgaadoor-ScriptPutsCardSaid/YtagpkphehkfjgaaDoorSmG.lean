/- Contract of the script's Put. Plain laws on scripts: a script is got as it was put, and there is no other text of the same acts. The laws ScriptPuts and ScriptOne, for every input. Slices of acts that came in, read as lists of acts whose numbers are the machine's, for every input. -/
import Derived.Test.YtagpkphehkfjgaaDoorSmF
import Derived.Test.YtagpkphehkfjgaaDoorSmE
import Derived.Test.YtagpkphehkfjgaaDoorPxT
import Derived.Deep.Slices
import Derived.Lib.SmallJoins
import Derived.OpenShut
set_option linter.unusedVariables false
set_option linter.unusedSimpArgs false
namespace Go.Proofs.YtagpkphehkfjgaaDoor.Sc
open Go.RowKit Go.Proofs.YtagpkphehkfjgaaDoorW.PrintWords Go.Proofs.YtagpkphehkfjgaaDoorW.PrintLast Go.Proofs.YtagpkphehkfjgaaDoorW.PrintMore Go.Proofs.YtagpkphehkfjgaaDoor.Px Go.Proofs.YtagpkphehkfjgaaDoor.Sb
/-- A text being built at block b. -/
def LN8 (B b : Nat) (l : List UInt8) (w : World) : Prop := Lib.IsBuilder 88 5 B b (Lib.byteCells l) w
theorem at_below8 {p : Value} {B b : Nat} {bs : List Value} {w w' : World} (h : Lib.BuilderAt 88 5 B b p bs w) (hb : Below w.heap.size w w') : Lib.BuilderAt 88 5 B b p bs w' := by
  obtain ⟨h1, v, h2, h3, h4⟩ := h
  exact ⟨h1, v, blk_below h2 hb, pw_own_below h3 hb, h4⟩
theorem LN8.below {B b : Nat} {l : List UInt8} {w w' : World} (h : LN8 B b l w) (hb : Below w.heap.size w w') : LN8 B b l w' := by
  rcases h with h | h
  · exact .inl (at_below8 h hb)
  · exact .inr (at_below8 h hb)
/-- The same, the base being where the call began. -/
def LNW (w : World) (b : Nat) (l : List UInt8) (W : World) : Prop := LN8 w.heap.size b l W
theorem ln8_new {w : World} : LN8 w.heap.size w.heap.size [] (w.alloc (.cells #[.pointer none, .slice none 0 0] 88)) :=
  .inl ⟨Nat.le_refl _, .slice none 0 0, blk_new w _, own_nil _ _ _ _, by simp [Value.ownBlock]⟩
theorem cells_snoc8 (l : List UInt8) (c : UInt8) : Lib.byteCells l ++ [.int .u8 (c.toNat : Int)] = Lib.byteCells (l ++ [c]) := by simp [Lib.byteCells]
theorem cells_app8 (l s : List UInt8) : Lib.byteCells l ++ Lib.strCells ⟨s.toArray⟩ = Lib.byteCells (l ++ s) := by simp [Lib.byteCells, Lib.strCells_eq]
/-- The script of acts. -/
def putT (xs : List Act) : List UInt8 := xs.flatMap fun a => lineT a ++ [10]
theorem putT_take {xs : List Act} {i : Nat} {a : Act} (h : xs[i]? = some a) : putT (xs.take (i + 1)) = (putT (xs.take i) ++ lineT a) ++ [10] := by
  unfold putT
  rw [List.take_add_one, h]
  simp
theorem form_wlen (k : Int) : (form k).1.length ≤ 6 := by
  by_cases hk : 1 ≤ k ∧ k ≤ 12
  · rcases kinds hk with rfl | rfl | rfl | rfl | rfl | rfl | rfl | rfl | rfl | rfl | rfl | rfl <;> decide
  · have e : form k = ([], []) := by
      unfold form
      repeat rw [if_neg (by omega)]
    rw [e]; decide
theorem words_small {a : Act} (hi : IA a) (ht : LT a.t) : ∀ x ∈ wordsOf a, x.length ≤ 2000 := by
  intro x hx
  unfold wordsOf at hx
  rcases List.mem_cons.1 hx with rfl | hx
  · have := form_wlen a.k; omega
  · unfold pw at hx
    obtain ⟨c, _, hc⟩ := List.mem_flatMap.1 hx
    split at hc
    · obtain ⟨t, htm, rfl⟩ := List.mem_map.1 hc
      have := ht.b t htm
      unfold tearW
      split
      · simp
      · split
        · simp
        · rw [List.length_cons, hexs_len]; omega
    · obtain rfl := List.mem_singleton.1 hc
      have h := hi.get c
      have := (it_len h.1 h.2).2
      show (Lib.itoa (a.get c)).length ≤ 2000
      unfold it at this
      omega
theorem words_count {a : Act} (ht : LT a.t) : (wordsOf a).length ≤ 200 := by
  unfold wordsOf
  have h1 := pw_len ht.l (form a.k).2
  have h2 := form_len a.k
  rw [List.length_cons]
  omega
theorem glue_len (c : UInt8) {n : Nat} : ∀ ws : List (List UInt8), (∀ x ∈ ws, x.length ≤ n) → (glue c ws).length ≤ (n + 1) * ws.length
  | [], _ => by simp [glue]
  | [w], h => by have := h w (by simp); simp [glue]; omega
  | w :: x :: r, h => by
    have h1 := glue_len c (x :: r) (fun y hy => h y (List.mem_cons_of_mem _ hy))
    have h2 := h w (by simp)
    rw [glue_cons c w _ (by simp), List.length_append, List.length_cons]
    have e : (n + 1) * (w :: x :: r).length = (n + 1) * (x :: r).length + (n + 1) := by rw [List.length_cons, Nat.mul_add, Nat.mul_one]
    omega
theorem line_len {a : Act} (hi : IA a) (ht : LT a.t) : (lineT a).length ≤ 1000000 := by
  have h1 := glue_len 32 (wordsOf a) (words_small hi ht)
  have h2 := words_count ht
  unfold lineT
  omega
theorem putT_len {xs : List Act} (h : ∀ a ∈ xs, (lineT a).length ≤ 1000000) : (putT xs).length ≤ 1000001 * xs.length := by
  induction xs with
  | nil => simp [putT]
  | cons a xs ih =>
    have h1 := ih (fun b hb => h b (List.mem_cons_of_mem _ hb))
    have h2 := h a (by simp)
    unfold putT at h1 ⊢
    rw [List.flatMap_cons, List.length_append, List.length_append]
    simp only [List.length_cons, List.length_nil]
    omega
theorem wr_of_rs2 {w : World} {base : Nat} {v : Value} {ws : List (List UInt8)} (h : RS w base v ws) (hne : 0 < ws.length) (hl : ∀ x ∈ ws, x.length ≤ 100000) (hn : ws.length ≤ 100000) : ∃ g c, v = .slice (some ⟨g, 0, none⟩) ws.length c ∧ ws.length ≤ c ∧ WR w g 0 ws := by
  obtain ⟨g, c, h1, h2, h3, h4⟩ := rs_open h hne
  exact ⟨g, c, h1, h2, h3, fun j x hx => by rw [Nat.zero_add]; exact h4 j x hx, hl, hn⟩
/-- What Put answers. -/
def PF (xs : List Act) (s : List UInt8) (er : Nat) : Prop := (er = 0 ∧ (∀ a ∈ xs, MayA a) ∧ s = putT xs) ∨ (er = 1 ∧ s = [] ∧ ∃ a ∈ xs, ¬ MayA a)
def PutPost (xs : List Act) (w : World) (e : Ending) (w' : World) : Prop := ∃ s er, e = .returned (.tuple #[Sv s, .int .i64 ((er : Nat) : Int)]) ∧ PF xs s er ∧ Below w.heap.size w w'
theorem pp_mk {xs : List Act} {w w' : World} {e : Ending} (s : List UInt8) (er : Nat) (he : e = .returned (.tuple #[Sv s, .int .i64 (er : Int)])) (hp : PF xs s er) (hb : Below w.heap.size w w') : PutPost xs w e w' := ⟨s, er, he, hp, hb⟩
theorem rn_same {a x : Act} (h : RN (wordsOf a) x true) : MayA x ∧ (MayA a → a = x) := by
  rcases h with ⟨_, h1, h2⟩ | ⟨h, _⟩
  · exact ⟨h1, fun ha => words_inj ha h1 h2.symm⟩
  · cases h
theorem rn_not {a x : Act} (h : RN (wordsOf a) x false) : ¬ MayA a := by
  rcases h with ⟨h, _⟩ | ⟨_, h⟩
  · cases h
  · exact fun ha => h a ha rfl
theorem join_line {ws : List (List UInt8)} : Lib.join ((ws.map bs).map (·.data.toList)) (⟨#[32]⟩ : ByteArray).data.toList = glue 32 ws := by
  have e : (ws.map bs).map (·.data.toList) = ws := by
    rw [List.map_map]
    conv => rhs; rw [← List.map_id ws]
    exact List.map_congr_left fun x _ => by simp [bs]
  rw [e]
  exact join_glue 32 ws
theorem join_calls (gw c : Nat) (ws : List (List UInt8)) (w : World) (hw : WR w gw 0 ws) (hc : ws.length ≤ c) (hl : (glue 32 ws).length ≤ 140737488355328) : Calls Tryd.prog 50 #[.slice (some ⟨gw, 0, none⟩) ws.length c, .string ⟨#[32]⟩] w fun e w' => e = .returned (Sv (glue 32 ws)) ∧ Below w.heap.size w w' := by
  have hn := hw.n
  have h := Tryd.strings_Join gw 0 c (ws.map bs) ⟨#[32]⟩ w (fun j x hx => by
    rw [List.getElem?_map] at hx
    cases hj : ws[j]? with
    | none => rw [hj] at hx; cases hx
    | some y =>
      rw [hj] at hx
      injection hx with hx
      rw [← hx]
      exact hw.c j y hj) hw.g (by rw [List.length_map]; omega) (by rw [List.length_map]; exact hc) (by rw [join_line]; exact hl)
  rw [List.length_map, join_line] at h
  exact h
theorem ln8_step {w W : World} {b : Nat} {l s : List UInt8} {bs' : List Value} (h : Lib.BuilderAt 88 5 w.heap.size b (.pointer (some ⟨b, 0, none⟩)) bs' W) (e : bs' = Lib.byteCells (l ++ s)) : LNW w b (l ++ s) W := by
  subst e
  exact .inr h
set_option maxHeartbeats 6400000 in
set_option maxRecDepth 100000 in
theorem put_calls (v : Value) (xs : List Act) (w : World) (hg : Gl w) (hv : AK w v xs) (hla : LA xs) (hia : ∀ a ∈ xs, IA a) : Calls Tryd.prog 28 #[v] w (PutPost xs w) := by
  have HG := Aside0.mk hg
  have HV := Aside0.mk hv
  have HLA := Aside0.mk hla
  have HIA := Aside0.mk hia
  have HL : Aside0 (xs.length ≤ 80) := ⟨hla.l⟩
  obtain ⟨A, c, rfl, _⟩ := hv
  have q0 : decide ((400 : Int) < (xs.length : Int)) = false := decide_eq_false (by have := HL.out; omega)
  clear hg hla hia
  go_enter Tryd.func28, Tryd.ntmps28
  go_upto_region 4 with (fail)
  clear q0
  obtain ⟨gb, hgb⟩ : ∃ gb, w.heap.size = gb := ⟨_, rfl⟩
  refine wp_world (fun W => Aside0 (LNW w gb [] W) ∧ Aside0 (Bw w W)) (by
    subst hgb
    exact ⟨⟨ln8_new⟩, ⟨below_alloc (Below.refl _ _) _⟩⟩) ?_
  rw [hgb]
  clear hgb
  rintro w1 ⟨HN, HB⟩
  go_wp2
  go_loopw [15] (fun v15 W => ∃ i : Nat, i ≤ xs.length ∧ v15 = .int .i64 i ∧ Aside0 (∀ a ∈ xs.take i, MayA a) ∧ Aside0 (LNW w gb (putT (xs.take i)) W) ∧ Aside0 (Bw w W)) (fun v15 _ => xs.length - (intOf v15).toNat)
  case atStart => exact ⟨0, Nat.zero_le _, rfl, ⟨by simp⟩, HN, HB⟩
  case round =>
    clear HN HB
    obtain ⟨i, hi, rfl, HM, HN, HB⟩ := hrel
    have hl := HL.out
    by_cases hlt : i < xs.length
    · have d0 : decide ((i : Int) < (xs.length : Int)) = true := decide_eq_true (by omega)
      obtain ⟨ad, c2, a, A2, n2, e1, ha, ⟨k0, k1, k2, k3, k4, k5, k6⟩, htk⟩ := (HV.out.below (show Below w.heap.size w wr from HB.out)).at hlt
      injection e1 with e1 _ e3
      subst e1 e3
      have hk1 : (i : Int) < (xs.length : Int) := by omega
      have hk3 : (i : Int) ≤ 80 := by omega
      have HVX := Aside0.mk ha
      have HTK := Aside0.mk htk
      have HIN : Aside0 (a ∈ xs) := ⟨List.mem_of_getElem? ha⟩
      have HIX := Aside0.mk (HIA.out a HIN.out)
      have HLX := Aside0.mk (HLA.out.t a HIN.out)
      clear ha htk
      go_upto_region 7 with (fail)
      obtain ⟨g6, hg6⟩ : ∃ g6, wr.heap.size = g6 := ⟨_, rfl⟩
      refine wp_world (fun W => Aside0 (B60 W g6 a (.slice A2 a.t.length n2)) ∧ Aside0 (TK W (.slice A2 a.t.length n2) a.t) ∧ Aside0 (Bw wr W)) (by
        subst hg6
        have h := a2_cut (wr := wr) (a := a) (v := .slice A2 a.t.length n2) rfl HTK.out
        exact ⟨⟨h.1⟩, ⟨h.2.1⟩, ⟨h.2.2⟩⟩) ?_
      rw [hg6]
      clear hg6 k0 k1 k2 k3 k4 k5 k6 HTK
      rintro w3 ⟨HC, HTK, HBW⟩
      have HN3 : Aside0 (LNW w gb (putT (xs.take i)) w3) := ⟨LN8.below HN.out HBW.out⟩
      have HB3 : Aside0 (Bw w w3) := ⟨Bw.step HB.out HBW.out⟩
      clear HN HB HBW
      obtain ⟨c0, c1, c2, c3, c4, c5, c6⟩ := HC.out.all
      go_wp2_with fail
      refine (words_calls a A2 n2 _ (HG.out.below HB3.out) HTK.out HLX.out HIX.out).mono ?_
      rintro e w4 ⟨v4, rfl, hrs, hb⟩
      obtain ⟨gw, cw, rfl, hcw, hwr⟩ := wr_of_rs2 hrs (by unfold wordsOf; simp) (fun y hy => by have := words_small HIX.out HLX.out y hy; omega) (by have := words_count HLX.out; omega)
      have HWR := Aside0.mk hwr
      have HCW := Aside0.mk hcw
      have HN4 : Aside0 (LNW w gb (putT (xs.take i)) w4) := ⟨LN8.below HN3.out hb⟩
      have HB4 : Aside0 (Bw w w4) := ⟨Bw.step HB3.out hb⟩
      have HC4 := Aside0.mk (blk_below HC.out hb)
      have HTK4 := Aside0.mk (HTK.out.below hb)
      clear hrs hb hwr hcw HN3 HB3 HC HTK c0 c1 c2 c3 c4 c5 c6
      obtain ⟨x, ls, hws⟩ : ∃ x ls, wordsOf a = x :: ls := ⟨_, _, rfl⟩
      have HWS := Aside0.mk hws
      rw [hws] at HWR HCW
      rw [hws]
      clear hws
      go_wp2_with fail
      refine (read_calls gw cw x ls _ (HG.out.below HB4.out) HWR.out HCW.out).mono ?_
      rintro e w5 ⟨ok, b, v5, rfl, hrn, hrt, hb⟩
      rw [← HWS.out] at hrn
      obtain ⟨A3, n3, ev⟩ := Kd.R_slice hrt
      subst ev
      have HRN := Aside0.mk hrn
      have HTB5 := Aside0.mk (TK.of_R hrt)
      have HN5 : Aside0 (LNW w gb (putT (xs.take i)) w5) := ⟨LN8.below HN4.out hb⟩
      have HB5 : Aside0 (Bw w w5) := ⟨Bw.step HB4.out hb⟩
      have HC5 := Aside0.mk (blk_below HC4.out hb)
      have HTK5 := Aside0.mk (HTK4.out.below hb)
      have HWR5 := Aside0.mk (HWR.out.below hb)
      clear hrn hrt hb HN4 HB4 HC4 HTK4 HWR
      go_upto_region 9 with (fail)
      obtain ⟨g8, hg8⟩ : ∃ g8, w5.heap.size = g8 := ⟨_, rfl⟩
      refine wp_world (fun W => Aside0 (B60 W g8 b (.slice A3 b.t.length n3)) ∧ Aside0 (TK W (.slice A3 b.t.length n3) b.t) ∧ Aside0 (B60 W g6 a (.slice A2 a.t.length n2)) ∧ Aside0 (TK W (.slice A2 a.t.length n2) a.t) ∧ Aside0 (WR W gw 0 (x :: ls)) ∧ Aside0 (LNW w gb (putT (xs.take i)) W) ∧ Aside0 (Bw w W)) (by
        subst hg8
        have h := a2_cut (wr := w5) (a := b) (v := .slice A3 b.t.length n3) rfl HTB5.out
        have hbl : Below w5.heap.size w5 (w5.alloc (.cells #[.int .i64 b.k, .int .i64 b.a, .int .i64 b.b, .int .i64 b.n, .int .i64 b.x, .int .i64 b.y, .slice A3 b.t.length n3] 60)) := h.2.2
        exact ⟨⟨h.1⟩, ⟨h.2.1⟩, ⟨blk_below HC5.out hbl⟩, ⟨HTK5.out.below hbl⟩, ⟨HWR5.out.below hbl⟩, ⟨LN8.below HN5.out hbl⟩, ⟨Bw.step HB5.out hbl⟩⟩) ?_
      rw [hg8]
      clear hg8 HTB5 HC5 HTK5 HWR5 HN5 HB5
      rintro w6 ⟨HC8, HTB8, HC6, HTK6, HWR6, HN6, HB6⟩
      cases ok
      · have HNM : Aside0 (PF xs [] 1) := ⟨Or.inr ⟨rfl, rfl, a, HIN.out, rn_not HRN.out⟩⟩
        go_wp2
        go_ret2
        exact pp_mk [] 1 rfl HNM.out HB6.out
      · have HMB := Aside0.mk (rn_same HRN.out)
        obtain ⟨D, hD⟩ : ∃ D, decide (a = b) = D := ⟨_, rfl⟩
        have HD := Aside0.mk hD
        have HTA : Aside0 (TB a.t) := ⟨HLA.out.ab.b a HIN.out⟩
        have HTBB : Aside0 (TB b.t) := ⟨tb_may HMB.out.1⟩
        clear hD
        obtain ⟨c0, c1, c2, c3, c4, c5, c6⟩ := HC6.out.all
        obtain ⟨b0, b1, b2, b3, b4, b5, b6⟩ := HC8.out.all
        go_wp2_with fail
        refine (same_calls a b A2 A3 n2 n3 _ HTK6.out HTB8.out HTA.out HTBB.out).mono ?_
        rintro e w7 ⟨rfl, hb⟩
        rw [HD.out]
        have HWR7 := Aside0.mk (HWR6.out.below hb)
        have HN7 : Aside0 (LNW w gb (putT (xs.take i)) w7) := ⟨LN8.below HN6.out hb⟩
        have HB7 : Aside0 (Bw w w7) := ⟨Bw.step HB6.out hb⟩
        clear hb HC8 HTB8 HC6 HTK6 HWR6 HN6 HB6 c0 c1 c2 c3 c4 c5 c6 b0 b1 b2 b3 b4 b5 b6
        cases D
        · have HNM : Aside0 (PF xs [] 1) := ⟨Or.inr ⟨rfl, rfl, a, HIN.out, fun h => (of_decide_eq_false HD.out) (HMB.out.2 h)⟩⟩
          go_wp2
          go_ret2
          exact pp_mk [] 1 rfl HNM.out HB7.out
        · have HMA : Aside0 (MayA a) := ⟨by rw [of_decide_eq_true HD.out]; exact HMB.out.1⟩
          have HM2 : Aside0 (∀ a ∈ xs.take (i + 1), MayA a) := ⟨take_allA HM.out HVX.out HMA.out⟩
          have HLL := Aside0.mk (line_len HIX.out HLX.out)
          have HPL : Aside0 ((putT (xs.take i)).length ≤ 100000000) := ⟨by
            have h := putT_len (xs := xs.take i) (fun a ha => line_len (HIA.out a (List.mem_of_mem_take ha)) (HLA.out.t a (List.mem_of_mem_take ha)))
            rw [List.length_take] at h
            have := HL.out
            omega⟩
          have HPT := Aside0.mk (putT_take HVX.out)
          have HLT2 : Aside0 (glue 32 (x :: ls) = lineT a) := ⟨by rw [← HWS.out]; rfl⟩
          go_wp2_with fail
          refine (join_calls gw cw (x :: ls) _ HWR7.out HCW.out (by rw [HLT2.out]; have := HLL.out; omega)).mono ?_
          rw [HLT2.out]
          rintro e w8 ⟨rfl, hb⟩
          have HN8 : Aside0 (LNW w gb (putT (xs.take i)) w8) := ⟨LN8.below HN7.out hb⟩
          have HB8 : Aside0 (Below w.heap.size w w8) := ⟨Bw.step HB7.out hb⟩
          obtain ⟨q, hq⟩ : ∃ q, lineT a = q := ⟨_, rfl⟩
          obtain ⟨r, hr⟩ : ∃ r, putT (xs.take i) = r := ⟨_, rfl⟩
          rw [hq, hr] at HPT
          rw [hq] at HLL
          rw [hr] at HPL HN8
          rw [hq]
          clear hb HWR7 HN7 HB7 HLT2 hq hr
          go_wp2_with fail
          refine (str_calls 88 bt88 w.heap.size gb (Lib.byteCells r) ⟨q.toArray⟩ _ HN8.out (by rw [Lib.byteCells_length]; have := HPL.out; have := HLL.out; simp only [ByteArray.size, List.size_toArray]; omega) HB8.out.size).mono ?_
          rintro e w9 ⟨rfl, h3, hb, hf⟩
          have HN9 : Aside0 (LNW w gb (r ++ q) w9) := ⟨ln8_step h3 (cells_app8 r q)⟩
          have HB9 : Aside0 (Below w.heap.size w w9) := ⟨HB8.out.trans hb⟩
          clear h3 hb hf HN8 HB8
          go_wp2_with fail
          refine (byte_calls 88 bt88 w.heap.size gb (Lib.byteCells (r ++ q)) 10 _ HN9.out (by rw [Lib.byteCells_length, List.length_append]; have := HPL.out; have := HLL.out; omega) HB9.out.size).mono ?_
          rintro e w10 ⟨rfl, h3, hb, hf⟩
          have HN10 : Aside0 (LNW w gb (putT (xs.take (i + 1))) w10) := ⟨by rw [HPT.out]; exact ln8_step h3 (cells_snoc8 (r ++ q) 10)⟩
          have HB10 : Aside0 (Bw w w10) := ⟨HB9.out.trans hb⟩
          clear h3 hb hf HN9 HB9
          go_wp2
          go_roundw
          case rel => exact ⟨i + 1, by omega, by go_num, HM2, HN10, HB10⟩
          case measure => simp [intOf]; omega
    · obtain rfl : i = xs.length := by omega
      have d0 : decide ((xs.length : Int) < (xs.length : Int)) = false := decide_eq_false (by omega)
      have HE : Aside0 (xs.take xs.length = xs) := ⟨List.take_of_length_le (Nat.le_refl _)⟩
      have HNN : Aside0 (LNW w gb (putT xs) wr) := ⟨by have h := HN.out; rw [HE.out] at h; exact h⟩
      have HPF : Aside0 (PF xs (putT xs) 0) := ⟨Or.inl ⟨rfl, by have h := HM.out; rw [HE.out] at h; exact h, rfl⟩⟩
      go_wp2_with fail
      refine (Tryd.Builder_String_any w.heap.size gb (putT xs) _ HNN.out (show Below w.heap.size w wr from HB.out).size).mono ?_
      rintro e w3 ⟨rfl, hb⟩
      have HB3 : Aside0 (Below w.heap.size w w3) := ⟨(show Below w.heap.size w wr from HB.out).trans hb⟩
      clear hb
      go_wp2
      go_ret2
      exact pp_mk (putT xs) 0 rfl HPF.out HB3.out
end Go.Proofs.YtagpkphehkfjgaaDoor.Sc

namespace Go.Proofs.YtagpkphehkfjgaaDoor.Sc
open Go.RowKit Go.Proofs.YtagpkphehkfjgaaDoor.Px
theorem putT_cons (a : Act) (xs : List Act) : putT (a :: xs) = lineT a ++ 10 :: putT xs := by
  unfold putT
  rw [List.flatMap_cons]
  simp
theorem line_no10 {a : Act} (h : MayA a) : (10 : UInt8) ∉ lineT a := fun hm => (line_ne h).2 10 hm rfl
theorem getF_put : ∀ (xs done : List Act), (∀ a ∈ xs, MayA a) → done.length + xs.length ≤ 400 → getF (pieces 10 (putT xs)) done = (done ++ xs, 0, 0)
  | [], done, _, _ => by
    show getF (pieces 10 []) done = _
    rw [getF_nil]
    simp
  | a :: xs, done, h, hl => by
    have ha := h a (by simp)
    rw [putT_cons, getF_some (line_no10 ha), lineA_some (⟨ha, rfl⟩ : IsLine (lineT a) a)]
    simp only [List.length_cons] at hl ⊢
    rw [if_neg (by omega), getF_put xs (done ++ [a]) (fun b hb => h b (List.mem_cons_of_mem _ hb)) (by simp; omega)]
    simp
theorem getF_inv (n : Nat) : ∀ (s : List UInt8) (done xs : List Act) (at_ : Nat), s.length ≤ n → getF (pieces 10 s) done = (xs, at_, 0) → ∃ ys, xs = done ++ ys ∧ s = putT ys := by
  induction n with
  | zero =>
    intro s done xs at_ hs h
    obtain rfl := List.length_eq_zero_iff.1 (Nat.le_zero.1 hs)
    rw [getF_nil] at h
    injection h with h _
    exact ⟨[], by simp [h], rfl⟩
  | succ n ih =>
    intro s done xs at_ hs h
    rcases parts10 s with ⟨hn, _⟩ | ⟨a, r, hn, rfl, _⟩
    · by_cases he : s = []
      · subst he
        rw [getF_nil] at h
        injection h with h _
        exact ⟨[], by simp [h], rfl⟩
      · rw [getF_last hn he] at h
        injection h with _ h
        injection h with _ h
        cases h
    · rw [getF_some hn] at h
      cases hla : lineA a with
      | none =>
        rw [hla] at h
        simp only [] at h
        injection h with _ h
        injection h with _ h
        cases h
      | some b =>
        rw [hla] at h
        simp only [] at h
        split at h
        · injection h with _ h
          injection h with _ h
          cases h
        · obtain ⟨ys, h1, h2⟩ := ih r (done ++ [b]) xs at_ (by simp at hs; omega) h
          refine ⟨b :: ys, by rw [h1]; simp, ?_⟩
          rw [putT_cons, ← h2, (lineA_is hla).2]
theorem script_one {l xs : List Act} {other : List UInt8} {at_ : Nat} (hl : ∀ a ∈ l, MayA a) (h8 : l.length ≤ 80) (h : getF (pieces 10 other) [] = (xs, at_, 0)) : (xs = l) ↔ (putT l = other) := by
  constructor
  · rintro rfl
    obtain ⟨ys, h1, h2⟩ := getF_inv other.length other [] _ at_ (Nat.le_refl _) h
    simp at h1
    rw [h2, h1]
  · rintro rfl
    rw [getF_put l [] hl (by simp; omega)] at h
    injection h with h _
    simpa using h.symm
theorem line_may {a : Act} (h : MayA a) : (lineT a).length ≤ 700 := by
  have hf := flat_tears h
  have ht := tearsW_len h.it
  have hl := h.il
  obtain ⟨k, a, b, n, x, y, ts⟩ := a
  have hk : 1 ≤ k ∧ k ≤ 12 := h.ik
  have ia : In a := h.ia
  have ib : In b := h.ib
  have ic : In n := h.ic
  have ix : In x := h.ix
  have iy : In y := h.iy
  have hn : ∀ ns : List Int, (∀ m ∈ ns, In m) → (numsW ns).length ≤ 22 * ns.length := fun ns hh => numsW_len hh
  simp only [] at ht hl
  rcases kinds hk with rfl | rfl | rfl | rfl | rfl | rfl | rfl | rfl | rfl | rfl | rfl | rfl
  · rw [lineT_1, List.length_append]; have := hn [a] (by simp; exact ia); have := form_wlen 1; simp at *; omega
  · rw [lineT_2, List.length_append]; have := hn [a, b, x, y] (by simp; exact ⟨ia, ib, ix, iy⟩); have := form_wlen 2; simp at *; omega
  · rw [lineT_3, List.length_append]; have := hn [a, b] (by simp; exact ⟨ia, ib⟩); have := form_wlen 3; simp at *; omega
  · rw [lineT_4, List.length_append]; have := hn [a] (by simp; exact ia); have := form_wlen 4; simp at *; omega
  · rw [lineT_5, List.length_append]; have := hn [a, b, n] (by simp; exact ⟨ia, ib, ic⟩); have := form_wlen 5; simp at *; omega
  · rw [lineT_6, List.length_append]; have := hn [a, b, n] (by simp; exact ⟨ia, ib, ic⟩); have := form_wlen 6; simp at *; omega
  · rw [lineT_7, List.length_append]; have := hn [a, b, n] (by simp; exact ⟨ia, ib, ic⟩); have := form_wlen 7; simp at *; omega
  · rw [lineT_8, List.length_append]; have := hn [a, n] (by simp; exact ⟨ia, ic⟩); have := form_wlen 8; simp at *; omega
  · rw [lineT_9, List.length_append, List.length_append]; have := hn [a] (by simp; exact ia); have := form_wlen 9; simp at *; omega
  · rw [lineT_10, List.length_append]; have := hn [a] (by simp; exact ia); have := form_wlen 10; simp at *; omega
  · rw [lineT_11, List.length_append]; have := hn [a] (by simp; exact ia); have := form_wlen 11; simp at *; omega
  · rw [lineT_12, List.length_append]; have := hn [a] (by simp; exact ia); have := form_wlen 12; simp at *; omega
theorem putT_may {xs : List Act} (h : ∀ a ∈ xs, MayA a) : (putT xs).length ≤ 701 * xs.length := by
  induction xs with
  | nil => simp [putT]
  | cons a xs ih =>
    have h1 := ih (fun b hb => h b (List.mem_cons_of_mem _ hb))
    have h2 := line_may (h a (by simp))
    rw [putT_cons, List.length_append, List.length_cons, List.length_cons]
    omega
end Go.Proofs.YtagpkphehkfjgaaDoor.Sc

namespace Go.Proofs.YtagpkphehkfjgaaDoor.Sc
open Go.RowKit Go.Proofs.YtagpkphehkfjgaaDoorW.PrintWords Go.Proofs.YtagpkphehkfjgaaDoorW.PrintLast Go.Proofs.YtagpkphehkfjgaaDoorW.PrintMore Go.Proofs.YtagpkphehkfjgaaDoor.Px
theorem pf_yes {xs : List Act} {s : List UInt8} {er : Nat} (h : PF xs s er) (hm : ∀ a ∈ xs, MayA a) : er = 0 ∧ s = putT xs := by
  rcases h with ⟨h1, _, h2⟩ | ⟨_, _, a, ha, hn⟩
  · exact ⟨h1, h2⟩
  · exact absurd (hm a ha) hn
theorem pf_no {xs : List Act} {s : List UInt8} {er : Nat} {a : Act} (h : PF xs s er) (ha : a ∈ xs) (hn : ¬ MayA a) : er = 1 ∧ s = [] := by
  rcases h with ⟨_, h1, _⟩ | ⟨h1, h2, _⟩
  · exact absurd (h1 a ha) hn
  · exact ⟨h1, h2⟩
set_option maxHeartbeats 3200000 in
set_option maxRecDepth 100000 in
theorem one_any (v : Value) (xs : List Act) (other : List UInt8) (w : World) (hg : Gl w) (hv : AK w v xs) (hia : ∀ a ∈ xs, IA a) : Calls Tryd.prog 7 #[v, Sv other] w fun e w' => e = .returned (.bool true) ∧ Below w.heap.size w w' := by
  have HG := Aside0.mk hg
  have HV := Aside0.mk hv
  have HIA := Aside0.mk hia
  clear hg hv hia
  go_enter Tryd.func7, Tryd.ntmps7
  go_wp2_with fail
  refine (light_calls v xs _ HV.out).mono ?_
  rintro e w2 ⟨r, rfl, hr, hb⟩
  have HB := Aside0.mk hb
  have HR := Aside0.mk hr
  clear hb hr
  cases r
  · go_wp2_with fail
    refine (awake_calls _ (HG.out.below HB.out)).mono ?_
    rintro e w3 ⟨rfl, hb⟩
    have HB3 := Aside0.mk (below_step HB.out hb)
    clear hb
    go_wp2
    go_ret
    exact ⟨rfl, HB3.out⟩
  · have HLA := Aside0.mk (HR.out rfl)
    by_cases hl : 4000 < other.length
    · have d0 : decide ((4000 : Int) < (other.length : Int)) = true := decide_eq_true (by omega)
      clear hl
      go_wp2_with fail
      refine (awake_calls _ (HG.out.below HB.out)).mono ?_
      rintro e w3 ⟨rfl, hb⟩
      have HB3 := Aside0.mk (below_step HB.out hb)
      clear hb
      go_wp2
      go_ret
      exact ⟨rfl, HB3.out⟩
    · have d0 : decide ((4000 : Int) < (other.length : Int)) = false := decide_eq_false (by omega)
      have HOL : Aside0 (other.length ≤ 65536) := ⟨by omega⟩
      clear hl
      go_wp2_with fail
      refine (put_calls v xs _ (HG.out.below HB.out) (HV.out.below HB.out) HLA.out HIA.out).mono ?_
      rintro e w3 ⟨s, er, rfl, hpf, hb⟩
      have HPF := Aside0.mk hpf
      have HB3 := Aside0.mk (below_step HB.out hb)
      clear hb hpf HB d0
      go_wp2_with fail
      refine (get_calls other _ HOL.out (HG.out.below HB3.out)).mono ?_
      rintro e w4 ⟨ys, v4, at_, er2, rfl, hgf, hra, hb⟩
      have HGF := Aside0.mk hgf
      have HAK := Aside0.mk (AK.of_R hra)
      have HAB := Aside0.mk (ab_get hgf)
      have HB4 := Aside0.mk (below_step HB3.out hb)
      clear hb hgf hra HB3
      rcases HPF.out with ⟨rfl, hm, hs⟩ | ⟨rfl, hs, hn⟩
      · have HM := Aside0.mk hm
        have HS := Aside0.mk hs
        clear hm hs
        by_cases h0 : er2 = 0
        · subst h0
          have HEQ := Aside0.mk (script_one HM.out HLA.out.l HGF.out)
          obtain ⟨D, hD⟩ : ∃ D, decide (ys = xs) = D := ⟨_, rfl⟩
          have HD := Aside0.mk hD
          have HS2 : Aside0 ((s == other) = D) := ⟨by
            rw [HS.out, ← HD.out, Bool.eq_iff_iff, beq_iff_eq, decide_eq_true_iff]
            exact HEQ.out.symm⟩
          have q0 := HS2.out
          clear hD
          go_wp2_with fail
          refine (rsame_calls v4 v ys xs _ HAK.out (HV.out.below HB4.out) HAB.out HLA.out.ab).mono ?_
          rintro e w5 ⟨rfl, hb⟩
          rw [HD.out]
          have HB5 := Aside0.mk (below_step HB4.out hb)
          clear hb
          cases D
          · go_wp2_with fail
            refine (awake_calls _ (HG.out.below HB5.out)).mono ?_
            rintro e w6 ⟨rfl, hb⟩
            have HB6 := Aside0.mk (below_step HB5.out hb)
            clear hb
            go_wp2
            go_ret
            exact ⟨rfl, HB6.out⟩
          · go_wp2_with fail
            refine (awake_calls _ (HG.out.below HB5.out)).mono ?_
            rintro e w6 ⟨rfl, hb⟩
            have HB6 := Aside0.mk (below_step HB5.out hb)
            clear hb
            go_wp2
            go_ret
            exact ⟨rfl, HB6.out⟩
        · have q0 : ((er2 : Int) == 0) = false := by rw [beq_eq_false_iff_ne]; omega
          have q1 : ((er2 : Int) != 0) = true := by rw [bne_iff_ne]; omega
          clear h0
          go_wp2_with fail
          refine (awake_calls _ (HG.out.below HB4.out)).mono ?_
          rintro e w6 ⟨rfl, hb⟩
          have HB6 := Aside0.mk (below_step HB4.out hb)
          clear hb
          go_wp2
          go_ret
          exact ⟨rfl, HB6.out⟩
      · clear hs hn
        go_wp2_with fail
        refine (awake_calls _ (HG.out.below HB4.out)).mono ?_
        rintro e w6 ⟨rfl, hb⟩
        have HB6 := Aside0.mk (below_step HB4.out hb)
        clear hb
        go_wp2
        go_ret
        exact ⟨rfl, HB6.out⟩
set_option maxHeartbeats 6400000 in
set_option maxRecDepth 100000 in
theorem puts_any (v u : Value) (xs ys : List Act) (w : World) (hg : Gl w) (hv : AK w v xs) (hu : AK w u ys) (hia : ∀ a ∈ xs, IA a) : Calls Tryd.prog 8 #[v, u] w fun e w' => e = .returned (.bool true) ∧ Below w.heap.size w w' := by
  have HG := Aside0.mk hg
  have HV := Aside0.mk hv
  have HU := Aside0.mk hu
  have HIA := Aside0.mk hia
  obtain ⟨A, c, rfl, _⟩ := hv
  clear hg hu hia
  go_enter Tryd.func8, Tryd.ntmps8
  go_wp2_with fail
  refine (light_calls _ xs _ HV.out).mono ?_
  rintro e w2 ⟨r, rfl, hr, hb⟩
  have HB := Aside0.mk hb
  have HR := Aside0.mk hr
  clear hb hr
  cases r
  · go_wp2_with fail
    refine (awake_calls _ (HG.out.below HB.out)).mono ?_
    rintro e w3 ⟨rfl, hb⟩
    have HB3 := Aside0.mk (below_step HB.out hb)
    clear hb
    go_wp2
    go_ret
    exact ⟨rfl, HB3.out⟩
  have HLA := Aside0.mk (HR.out rfl)
  clear HR
  go_wp2_with fail
  refine (light_calls u ys _ (HU.out.below HB.out)).mono ?_
  rintro e w3 ⟨r, rfl, hr, hb⟩
  have HB3 := Aside0.mk (below_step HB.out hb)
  have HR := Aside0.mk hr
  clear hb hr HB
  cases r
  · go_wp2_with fail
    refine (awake_calls _ (HG.out.below HB3.out)).mono ?_
    rintro e w4 ⟨rfl, hb⟩
    have HB4 := Aside0.mk (below_step HB3.out hb)
    clear hb
    go_wp2
    go_ret
    exact ⟨rfl, HB4.out⟩
  have HLB := Aside0.mk (HR.out rfl)
  clear HR
  go_wp2_with fail
  refine (put_calls _ xs _ (HG.out.below HB3.out) (HV.out.below HB3.out) HLA.out HIA.out).mono ?_
  rintro e w4 ⟨s, er, rfl, hpf, hb⟩
  have HPF := Aside0.mk hpf
  have HB4 := Aside0.mk (below_step HB3.out hb)
  clear hb hpf HB3
  go_wp2_with fail
  refine (ssame_calls _ u xs ys _ (HV.out.below HB4.out) (HU.out.below HB4.out) HLA.out.ab HLB.out.ab).mono ?_
  rintro e w5 ⟨rfl, hb⟩
  have HB5 := Aside0.mk (below_step HB4.out hb)
  obtain ⟨D, hD⟩ : ∃ D, decide (xs = ys) = D := ⟨_, rfl⟩
  have HD := Aside0.mk hD
  rw [hD]
  clear hb HB4 hD
  go_wp2_with fail
  refine (rsame_calls _ u xs ys _ (HV.out.below HB5.out) (HU.out.below HB5.out) HLA.out.ab HLB.out.ab).mono ?_
  rintro e w6 ⟨rfl, hb⟩
  have HB6 := Aside0.mk (below_step HB5.out hb)
  rw [HD.out]
  have qd : (D != D) = false := by cases D <;> rfl
  have qe : (D == D) = true := by cases D <;> rfl
  clear hb HB5
  go_wp2
  clear qd qe
  go_loopw [7, 8] (fun v7 v8 W => ∃ i : Nat, i ≤ xs.length ∧ v7 = Sv (putT (xs.take i)) ∧ v8 = .int .i64 i ∧ Aside0 (∀ a ∈ xs.take i, MayA a) ∧ Aside0 (Below w.heap.size w W)) (fun _ v8 _ => xs.length - (intOf v8).toNat)
  case atStart => exact ⟨0, Nat.zero_le _, rfl, rfl, ⟨by simp⟩, HB6⟩
  case round =>
    clear HB6
    obtain ⟨i, hi, rfl, rfl, HM, HB⟩ := hrel
    have HL : Aside0 (xs.length ≤ 80) := ⟨HLA.out.l⟩
    have hl := HL.out
    by_cases hlt : i < xs.length
    · have d0 : decide ((i : Int) < (xs.length : Int)) = true := decide_eq_true (by omega)
      obtain ⟨ad, c2, a, A2, n2, e1, ha, ⟨k0, k1, k2, k3, k4, k5, k6⟩, htk⟩ := (HV.out.below HB.out).at hlt
      injection e1 with e1 _ e3
      subst e1 e3
      have hk1 : (i : Int) < (xs.length : Int) := by omega
      have hk3 : (i : Int) ≤ 80 := by omega
      have HVX := Aside0.mk ha
      have HTK := Aside0.mk htk
      have HIN : Aside0 (a ∈ xs) := ⟨List.mem_of_getElem? ha⟩
      have HTA : Aside0 (TB a.t) := ⟨HLA.out.ab.b a HIN.out⟩
      clear ha htk
      go_wp2_with fail
      refine (may_calls a A2 n2 _ HTK.out HTA.out).mono ?_
      rintro e w7 ⟨r, rfl, hr, hb⟩
      have HR := Aside0.mk hr
      have HB7 := Aside0.mk (below_step HB.out hb)
      clear hb hr HB HTK k0 k1 k2 k3 k4 k5 k6
      cases r
      · have HNM : Aside0 (¬ MayA a) := ⟨fun h => by have := HR.out.2 h; cases this⟩
        obtain ⟨h1, h2⟩ := pf_no HPF.out HIN.out HNM.out
        subst h1 h2
        go_wp2_with fail
        refine (awake_calls _ (HG.out.below HB7.out)).mono ?_
        rintro e w8 ⟨rfl, hb⟩
        have HB8 := Aside0.mk (below_step HB7.out hb)
        clear hb
        go_wp2
        go_ret
        exact ⟨rfl, HB8.out⟩
      · have HMA : Aside0 (MayA a) := ⟨HR.out.1 rfl⟩
        have HM2 : Aside0 (∀ a ∈ xs.take (i + 1), MayA a) := ⟨take_allA HM.out HVX.out HMA.out⟩
        have HLL := Aside0.mk (line_may HMA.out)
        have HPL : Aside0 ((putT (xs.take i)).length ≤ 100000) := ⟨by
          have h := putT_may HM.out
          rw [List.length_take] at h
          have := HL.out
          omega⟩
        have HPT := Aside0.mk (putT_take HVX.out)
        obtain ⟨ad', c2', a', A3, n3, e1, ha, ⟨k0, k1, k2, k3, k4, k5, k6⟩, htk⟩ := (HV.out.below HB7.out).at hlt
        injection e1 with e1 _ e3
        injection e1 with e1
        subst e1 e3
        obtain rfl : a = a' := by
          have h := HVX.out
          rw [ha] at h
          injection h with h
          exact h.symm
        have HTK := Aside0.mk htk
        obtain ⟨r, hr⟩ : ∃ r, putT (xs.take i) = r := ⟨_, rfl⟩
        rw [hr] at HPT HPL
        rw [hr]
        clear ha htk hr
        go_wp2_with fail
        refine (line_calls a A3 n3 _ HMA.out HTK.out).mono ?_
        rintro e w8 ⟨rfl, hb⟩
        have HB8 := Aside0.mk (below_step HB7.out hb)
        obtain ⟨q, hq⟩ : ∃ q, lineT a = q := ⟨_, rfl⟩
        rw [hq] at HPT HLL
        rw [hq]
        have hl1 : ¬ 9223372036854775807 < r.length + q.length := by have := HPL.out; have := HLL.out; omega
        have hl2 : ¬ 9223372036854775807 < r.length + q.length + 1 := by have := HPL.out; have := HLL.out; omega
        clear hb hq HTK HB7 k0 k1 k2 k3 k4 k5 k6
        go_wp2
        go_roundw
        case rel => exact ⟨i + 1, by omega, by rw [HPT.out]; show Value.string _ = Value.string ⟨((r ++ q) ++ [10]).toArray⟩; rw [← cat_bytes, ← cat_bytes], by go_num, HM2, HB8⟩
        case measure => simp [intOf]; omega
    · obtain rfl : i = xs.length := by omega
      have d0 : decide ((xs.length : Int) < (xs.length : Int)) = false := decide_eq_false (by omega)
      have HE : Aside0 (xs.take xs.length = xs) := ⟨List.take_of_length_le (Nat.le_refl _)⟩
      have HMM : Aside0 (∀ a ∈ xs, MayA a) := ⟨by have h := HM.out; rw [HE.out] at h; exact h⟩
      obtain ⟨h1, h2⟩ := pf_yes HPF.out HMM.out
      rw [HE.out]
      subst h1 h2
      have HPL : Aside0 ((putT xs).length ≤ 65536) := ⟨by
        have h := putT_may HMM.out
        have := HL.out
        omega⟩
      have HGP := Aside0.mk (getF_put xs [] HMM.out (by have := HL.out; simp; omega))
      obtain ⟨r, hr⟩ : ∃ r, putT xs = r := ⟨_, rfl⟩
      rw [hr] at HPL HGP
      rw [hr]
      clear hr
      go_wp2_with fail
      refine (get_calls r _ HPL.out (HG.out.below HB.out)).mono ?_
      rintro e w7 ⟨zs, v7, at_, er2, rfl, hgf, hra, hb⟩
      have h := HGP.out.symm.trans hgf
      injection h with h1 h2
      injection h2 with h2 h3
      subst h2 h3
      have HZS : Aside0 (zs = xs) := ⟨by rw [← h1]; simp⟩
      have HAK : Aside0 (AK w7 v7 xs) := ⟨by have h := AK.of_R hra; rw [HZS.out] at h; exact h⟩
      have HB7 := Aside0.mk (below_step HB.out hb)
      have q0 : (r == r) = true := by simp
      clear hb hgf hra h1 HB
      go_wp2_with fail
      refine (rsame_calls v7 _ xs xs _ HAK.out (HV.out.below HB7.out) HLA.out.ab HLA.out.ab).mono ?_
      rintro e w8 ⟨rfl, hb⟩
      have HB8 := Aside0.mk (below_step HB7.out hb)
      have e0 : decide (xs = xs) = true := decide_eq_true rfl
      rw [e0]
      clear hb e0 HB7
      go_wp2_with fail
      refine (awake_calls _ (HG.out.below HB8.out)).mono ?_
      rintro e w9 ⟨rfl, hb⟩
      have HB9 := Aside0.mk (below_step HB8.out hb)
      clear hb
      go_wp2
      go_ret
      exact ⟨rfl, HB9.out⟩
end Go.Proofs.YtagpkphehkfjgaaDoor.Sc

namespace Go.Proofs.YtagpkphehkfjgaaDoor.Sc
open Go.RowKit Go.Deep Go.Proofs.YtagpkphehkfjgaaDoorW.PrintWords Go.Proofs.YtagpkphehkfjgaaDoorW.PrintLast Go.Proofs.YtagpkphehkfjgaaDoorW.PrintMore Go.Proofs.YtagpkphehkfjgaaDoor.Px
/-- Opened: whatever each element reads as, the slice is a list of it. -/
theorem open_kd {H : Type} {enc : TypeId × Value → H} {P : Program} {w : World} {base : Nat} {spare : Nat → Bool} {held : Bool} {α : Type} [Inhabited α] (d : Kd α) {t e : TypeId} {fuel : Nat} {a0 : Option Addr} {len0 cap0 : Nat} {x : DataW H × List MemPlace}
    (ht : P.underlying t = some (.slice e)) (hs : P.cellsOf e = d.sz)
    (hel : ∀ n cs D Pl, DataW.trod enc P w base spare held n e cs = some (D, Pl) → ∃ x, d.K w x cs)
    (h : DataW.trod enc P w base spare held fuel t [.slice a0 len0 cap0] = some x) : ∃ xs : List α, xs.length = len0 ∧ len0 ≤ cap0 ∧ Kd.C d w a0 len0 xs := by
  rcases open_slice ht h with ⟨hc, _⟩ | ⟨a, len, cap, m, n, D, Pl, hc, hb, hl, hm, hmm, _, hx⟩
  · simp at hc
    obtain ⟨rfl, rfl, rfl⟩ := hc
    exact ⟨[], rfl, Nat.le_refl _, rfl, by omega, fun h => by omega⟩
  · simp at hc
    obtain ⟨rfl, rfl, rfl⟩ := hc
    have hlm : len0 ≤ m := by rw [hmm]; split <;> omega
    have hall : ∀ i, i < len0 → ∃ p : α, ∃ cs, w.cells? base (a.add (i * P.cellsOf e)) (P.cellsOf e) = some cs ∧ d.K w p cs := by
      intro i hi
      obtain ⟨cs, h1, h2⟩ := hx i (by omega)
      obtain ⟨p, hp⟩ := hel _ _ _ _ h2
      exact ⟨p, cs, h1, hp⟩
    obtain ⟨f, hf⟩ := choose_lt hall
    refine ⟨(List.range len0).map f, by simp, hl, by simp, by unfold maxLen at hm; omega, fun _ => ⟨a, rfl, fun j p hp => ?_⟩⟩
    have hj : j < len0 := by
      have := (List.getElem?_eq_some_iff.1 hp).1
      simpa using this
    have hp' : f j = p := by
      have := (List.getElem?_eq_some_iff.1 hp).2
      simpa using this
    obtain ⟨cs, h1, h2⟩ := hf j hj
    rw [hp'] at h2
    refine ⟨cs, d.K_len h2, h2, fun i u hu => ?_⟩
    obtain ⟨_, _, hcell⟩ := World.cells?_some h1
    have hi : i < P.cellsOf e := by
      have := (List.getElem?_eq_some_iff.1 hu).1
      have := d.K_len h2
      omega
    rw [← hs, ← Go.Deep.add_add, hcell i hi]
    exact hu


/-- The same, of the cells. -/
theorem open_kdc {H : Type} {enc : TypeId × Value → H} {P : Program} {w : World} {base : Nat} {spare : Nat → Bool} {held : Bool} {α : Type} [Inhabited α] (d : Kd α) {t e : TypeId} {fuel : Nat} {cs : List Value} {x : DataW H × List MemPlace}
    (ht : P.underlying t = some (.slice e)) (hs : P.cellsOf e = d.sz)
    (hel : ∀ n cs D Pl, DataW.trod enc P w base spare held n e cs = some (D, Pl) → ∃ x, d.K w x cs)
    (h : DataW.trod enc P w base spare held fuel t cs = some x) : ∃ (A : Option Addr) (c : Nat) (xs : List α), cs = [.slice A xs.length c] ∧ xs.length ≤ c ∧ Kd.C d w A xs.length xs := by
  rcases open_slice ht h with ⟨rfl, _⟩ | ⟨a, len, cap, m, n, D, Pl, rfl, _⟩
  · obtain ⟨xs, h1, h2, h3⟩ := open_kd d ht hs hel h
    exact ⟨none, 0, xs, by rw [h1], by rw [h1]; exact h2, by rw [h1]; exact h3⟩
  · obtain ⟨xs, h1, h2, h3⟩ := open_kd d ht hs hel h
    exact ⟨some a, cap, xs, by rw [h1], by rw [h1]; exact h2, by rw [h1]; exact h3⟩
theorem ts7 {H : Type} {enc : TypeId × Value → H} {P : Program} {w : World} {base : Nat} {spare : Nat → Bool} {held : Bool} {t : TypeId} {f0 f1 f2 f3 f4 f5 f6 : Field} {fuel : Nat} {cs : List Value} {x : DataW H × List MemPlace} (ht : P.underlying t = some (.struct #[f0, f1, f2, f3, f4, f5, f6])) (h : DataW.trod enc P w base spare held fuel t cs = some x) :
    ∃ y0 y1 y2 y3 y4 y5 y6 n, cs.length = P.cellsOf t ∧ x.1 = .agg [y0.1, y1.1, y2.1, y3.1, y4.1, y5.1, y6.1] ∧ DataW.trod enc P w base spare held n f0.type ((cs.drop f0.offset).take (P.cellsOf f0.type)) = some y0 ∧
      DataW.trod enc P w base spare held n f1.type ((cs.drop f1.offset).take (P.cellsOf f1.type)) = some y1 ∧
      DataW.trod enc P w base spare held n f2.type ((cs.drop f2.offset).take (P.cellsOf f2.type)) = some y2 ∧
      DataW.trod enc P w base spare held n f3.type ((cs.drop f3.offset).take (P.cellsOf f3.type)) = some y3 ∧
      DataW.trod enc P w base spare held n f4.type ((cs.drop f4.offset).take (P.cellsOf f4.type)) = some y4 ∧
      DataW.trod enc P w base spare held n f5.type ((cs.drop f5.offset).take (P.cellsOf f5.type)) = some y5 ∧
      DataW.trod enc P w base spare held n f6.type ((cs.drop f6.offset).take (P.cellsOf f6.type)) = some y6 := by
  obtain ⟨xs, n, _, rfl, hl, hlen, hf⟩ := DataW.trod_struct ht h
  match xs, hlen with
  | [y0, y1, y2, y3, y4, y5, y6], _ => exact ⟨y0, y1, y2, y3, y4, y5, y6, n, hl, rfl, by simpa using hf 0 f0 rfl, by simpa using hf 1 f1 rfl, by simpa using hf 2 f2 rfl, by simpa using hf 3 f3 rfl, by simpa using hf 4 f4 rfl, by simpa using hf 5 f5 rfl, by simpa using hf 6 f6 rfl⟩
theorem cells5_of : Tryd.prog.cellsOf 5 = 1 := by kernel_rfl
theorem cells77_of : Tryd.prog.cellsOf 77 = 2 := by kernel_rfl
theorem cells60_of : Tryd.prog.cellsOf 60 = 7 := by kernel_rfl
theorem cells58_of : Tryd.prog.cellsOf 58 = 1 := by kernel_rfl
theorem cells75_of : Tryd.prog.cellsOf 75 = 1 := by kernel_rfl
/-- A byte, opened. -/
theorem el5 {H : Type} {enc : TypeId × Value → H} {w : World} {base : Nat} {spare : Nat → Bool} {held : Bool} {n : Nat} {cs : List Value} {D : DataW H} {Pl : List MemPlace} (h : DataW.trod enc Tryd.prog w base spare held n 5 cs = some (D, Pl)) : ∃ x : UInt8, kb.K w x cs := by
  obtain ⟨a0, u0, _, hw⟩ := DataW.trod_int Tryd.underlying5 h
  subst u0
  have hb := bounds_u8 hw
  refine ⟨UInt8.ofNat a0.toNat, ?_⟩
  show [Value.int .u8 a0] = [Value.int .u8 ((UInt8.ofNat a0.toNat).toNat : Int)]
  have e : ((UInt8.ofNat a0.toNat).toNat : Int) = a0 := by rw [UInt8.toNat_ofNat']; omega
  rw [e]
set_option maxRecDepth 100000 in
theorem el77 {H : Type} {enc : TypeId × Value → H} {w : World} {base : Nat} {spare : Nat → Bool} {held : Bool} {n : Nat} {cs : List Value} {D : DataW H} {Pl : List MemPlace} (h : DataW.trod enc Tryd.prog w base spare held n 77 cs = some (D, Pl)) : ∃ x : Tear, kTear.K w x cs := by
  obtain ⟨y0, y1, m, hl, _, e0, e1⟩ := ts2 Tryd.underlying77 h
  rw [cells77_of] at hl
  match cs, hl with
  | [c0, c1], _ =>
    simp [cells3_of, cells75_of] at e0 e1
    obtain ⟨a0, _, u0⟩ := oI64 e0
    obtain ⟨A, c, bl, u1, h1, h2⟩ := open_kdc kb Tryd.underlying75 cells5_of (fun n cs D Pl h => el5 h) e1
    simp at u0 u1
    subst u0 u1
    exact ⟨⟨a0, bl⟩, [_], [_], rfl, rfl, A, c, rfl, h1, h2⟩
/-- An act of the machine's numbers. -/
abbrev ActI := {a : Act // IA a}
theorem i64_zero : I64 0 := by unfold I64; decide
instance : Inhabited ActI := ⟨⟨zAct, i64_zero, i64_zero, i64_zero, i64_zero, i64_zero, i64_zero⟩⟩
def kActI : Kd ActI := Kd.iso kAct (fun a : ActI => a.1)
set_option maxRecDepth 100000 in
theorem el60 {H : Type} {enc : TypeId × Value → H} {w : World} {base : Nat} {spare : Nat → Bool} {held : Bool} {n : Nat} {cs : List Value} {D : DataW H} {Pl : List MemPlace} (h : DataW.trod enc Tryd.prog w base spare held n 60 cs = some (D, Pl)) : ∃ x : ActI, kActI.K w x cs := by
  obtain ⟨y0, y1, y2, y3, y4, y5, y6, m, hl, _, e0, e1, e2, e3, e4, e5, e6⟩ := ts7 Tryd.underlying60 h
  rw [cells60_of] at hl
  match cs, hl with
  | [c0, c1, c2, c3, c4, c5, c6], _ =>
    simp [cells3_of, cells58_of] at e0 e1 e2 e3 e4 e5 e6
    obtain ⟨a0, b0, u0⟩ := oI64 e0
    obtain ⟨a1, b1, u1⟩ := oI64 e1
    obtain ⟨a2, b2, u2⟩ := oI64 e2
    obtain ⟨a3, b3, u3⟩ := oI64 e3
    obtain ⟨a4, b4, u4⟩ := oI64 e4
    obtain ⟨a5, b5, u5⟩ := oI64 e5
    obtain ⟨A, c, ts, u6, h1, h2⟩ := open_kdc kTear Tryd.underlying58 cells77_of (fun n cs D Pl h => el77 h) e6
    simp at u0 u1 u2 u3 u4 u5 u6
    subst u0 u1 u2 u3 u4 u5 u6
    exact ⟨⟨⟨a0, a1, a2, a3, a4, a5, ts⟩, b0, b1, b2, b3, b4, b5⟩, [_], [_, _, _, _, _, _], rfl, rfl, [_], [_, _, _, _, _], rfl, rfl, [_], [_, _, _, _], rfl, rfl, [_], [_, _, _], rfl, rfl, [_], [_, _], rfl, rfl, [_], [_], rfl, rfl, A, c, rfl, h1, h2⟩
theorem open_acts {H : Type} {enc : TypeId × Value → H} {w : World} {base : Nat} {spare : Nat → Bool} {held : Bool} {fuel : Nat} {a0 : Option Addr} {len0 cap0 : Nat} {x : DataW H × List MemPlace}
    (h : DataW.trod enc Tryd.prog w base spare held fuel 49 [.slice a0 len0 cap0] = some x) : ∃ xs : List Act, xs.length = len0 ∧ (∀ a ∈ xs, IA a) ∧ AK w (.slice a0 len0 cap0) xs := by
  obtain ⟨ys, h1, h2, h3⟩ := open_kd kActI Tryd.underlying49 cells60_of (fun n cs D Pl h => el60 h) h
  refine ⟨ys.map (·.1), by simp [h1], fun a ha => ?_, a0, cap0, by simp [h1], by simp; omega, ?_⟩
  · obtain ⟨y, _, rfl⟩ := List.mem_map.1 ha
    exact y.2
  · obtain ⟨g1, g2, g3⟩ := h3
    refine ⟨by simp, by simp; omega, fun hp => ?_⟩
    obtain ⟨a, e, g4⟩ := g3 (by simp at hp; omega)
    refine ⟨a, e, fun j p hp => ?_⟩
    rw [List.getElem?_map] at hp
    cases hj : ys[j]? with
    | none => rw [hj] at hp; cases hp
    | some y =>
      rw [hj] at hp
      injection hp with hp
      subst hp
      exact g4 j y hj
theorem one_str (v : Value) (xs : List Act) (s : ByteArray) (w : World) (hg : Gl w) (hv : AK w v xs) (hia : ∀ a ∈ xs, IA a) : Calls Tryd.prog 7 #[v, .string s] w fun e w' => e = .returned (.bool true) ∧ Below w.heap.size w w' := by
  have h := one_any v xs s.data.toList w hg hv hia
  have e : (⟨s.data.toList.toArray⟩ : ByteArray) = s := by cases s; simp
  rw [Sv, e] at h
  exact h
end Go.Proofs.YtagpkphehkfjgaaDoor.Sc
