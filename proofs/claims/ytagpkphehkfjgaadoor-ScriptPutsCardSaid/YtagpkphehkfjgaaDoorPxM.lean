/- Contracts of the reference's number and Cut (layer 31), for every text of bounded length. -/
import Derived.Test.YtagpkphehkfjgaaDoorPxL
set_option linter.unusedVariables false
set_option linter.unusedSimpArgs false
namespace Go.Proofs.YtagpkphehkfjgaaDoor.Px
open Go.RowKit Go.Proofs.YtagpkphehkfjgaaDoorW.PrintWords Go.Proofs.YtagpkphehkfjgaaDoorW.PrintLast Go.Proofs.YtagpkphehkfjgaaDoorW.PrintMore
/-- One byte more of a number. -/
def nstep (n : Nat) (b : UInt8) : Nat := if 48 ≤ b.toNat ∧ b.toNat ≤ 57 then 10 * n + (b.toNat - 48) else n
/-- The number that a word seems to be, of its first c bytes. -/
def rnum (c : Nat) (l : List UInt8) : Nat := (l.take c).foldl nstep 0
theorem rnum_succ (c : Nat) {l : List UInt8} {k : Nat} {b : UInt8} (h : l[k]? = some b) : rnum (k + 1) l = nstep (rnum k l) b := by
  unfold rnum
  rw [List.take_add_one, h]
  simp
theorem rnum_lt (l : List UInt8) (k : Nat) : rnum k l < 10 ^ k := by
  induction k with
  | zero => simp [rnum]
  | succ k ih =>
    cases h : l[k]? with
    | none =>
      have : rnum (k + 1) l = rnum k l := by
        unfold rnum
        rw [List.take_add_one, h]; simp
      rw [this, Nat.pow_succ]; omega
    | some b =>
      rw [rnum_succ k h, Nat.pow_succ]
      unfold nstep
      split <;> omega
set_option maxHeartbeats 1600000 in
set_option maxRecDepth 100000 in
theorem rnumber_calls (l : List UInt8) (w : World) (hl : l.length ≤ 100000) :
    Calls Tryd.prog 38 #[Sv l] w fun e w' => e = .returned (.int .i64 (rnum 4 l : Nat)) ∧ w = w' := by
  have HL := Aside0.mk hl
  go_enter Tryd.func38, Tryd.ntmps38
  go_wp2
  go_loop [3, 4] (fun v3 v4 => ∃ k : Nat, k ≤ l.length ∧ k ≤ 4 ∧ v3 = .int .i64 (rnum k l : Nat) ∧ v4 = .int .i64 k) (fun _ v4 => 4 - (intOf v4).toNat)
  case atStart => exact ⟨0, by omega, by omega, rfl, rfl⟩
  case round =>
    obtain ⟨k, hk, hk4, rfl, rfl⟩ := hrel
    by_cases h1 : k < l.length
    · have d1 : decide ((k : Int) < (l.length : Int)) = true := decide_eq_true (by omega)
      by_cases h2 : k < 4
      · have d2 : decide ((k : Int) < 4) = true := decide_eq_true (by omega)
        obtain ⟨b, hb⟩ : ∃ b, l[k]? = some b := ⟨_, List.getElem?_eq_getElem h1⟩
        have hki : (k : Int) < (l.length : Int) := by omega
        have hbv : ∀ h : k < (⟨l.toArray⟩ : ByteArray).size, (⟨l.toArray⟩ : ByteArray)[k]'h = b := fun h => Option.some.inj ((List.getElem?_eq_getElem h1).symm.trans hb)
        have HS := Aside0.mk (rnum_succ k hb)
        have HR : Aside0 (rnum k l < 10000) := ⟨Nat.lt_of_lt_of_le (rnum_lt l k) (Nat.pow_le_pow_right (n := 10) (j := 4) (by decide) (by omega))⟩
        obtain ⟨r, hr⟩ : ∃ r, rnum k l = r := ⟨_, rfl⟩
        rw [hr] at HS HR
        rw [hr]
        obtain ⟨x, hx⟩ : ∃ x, b.toNat = x := ⟨_, rfl⟩
        have HX : Aside0 (nstep r b = if 48 ≤ x ∧ x ≤ 57 then 10 * r + (x - 48) else r) := ⟨by rw [← hx]; rfl⟩
        clear hb
        by_cases c1 : 48 ≤ x
        · have g1 : (48 : Int) ≤ (x : Int) := by omega
          by_cases c2 : x ≤ 57
          · have g2 : (x : Int) ≤ 57 := by omega
            have HV : Aside0 (wrap64 (wrap64 (10 * (r : Int)) + ((x : Int) - 48)) = ((rnum (k + 1) l : Nat) : Int)) := ⟨by
              rw [HS.out, HX.out, if_pos ⟨c1, c2⟩]
              have := HR.out
              unfold wrap64
              omega⟩
            go_wp2
            go_roundw
            case rel => exact ⟨k + 1, by omega, by omega, by rw [HV.out], by go_num⟩
            case measure => simp [intOf]; omega
          · have g2 : ¬ (x : Int) ≤ 57 := by omega
            have HV : Aside0 (r = rnum (k + 1) l) := ⟨by rw [HS.out, HX.out, if_neg (by omega)]⟩
            go_wp2
            go_roundw
            case rel => exact ⟨k + 1, by omega, by omega, by rw [← HV.out], by go_num⟩
            case measure => simp [intOf]; omega
        · have g1 : ¬ (48 : Int) ≤ (x : Int) := by omega
          have HV : Aside0 (r = rnum (k + 1) l) := ⟨by rw [HS.out, HX.out, if_neg (by omega)]⟩
          go_wp2
          go_roundw
          case rel => exact ⟨k + 1, by omega, by omega, by rw [← HV.out], by go_num⟩
          case measure => simp [intOf]; omega
      · obtain rfl : k = 4 := by omega
        go_wp2
        go_ret
        exact ⟨rfl, rfl⟩
    · obtain rfl : k = l.length := by omega
      have HE : Aside0 (rnum l.length l = rnum 4 l) := ⟨by unfold rnum; rw [List.take_of_length_le (Nat.le_refl _), List.take_of_length_le hk4]⟩
      go_wp2
      go_ret
      exact ⟨by rw [← HE.out]; rfl, rfl⟩
theorem ext_bs (l : List UInt8) (b k : Nat) : (bs l).extract b k = bs ((l.drop b).take (k - b)) := by
  apply ByteArray.ext
  simp [bs, List.take_drop]
/-- What the reference's Cut has found, at place k, the last part begun at place b. -/
def CI (c : UInt8) (l : List UInt8) (done : List (List UInt8)) (b k : Nat) : Prop := done.length ≤ k ∧ ((k ≤ l.length ∧ b ≤ k ∧ pieces c l = done ++ pieces c (l.drop b) ∧ c ∉ (l.drop b).take (k - b)) ∨ (k = l.length + 1 ∧ b = l.length + 1 ∧ done = pieces c l))
theorem ci_start (c : UInt8) (l : List UInt8) : CI c l [] 0 0 := ⟨Nat.zero_le _, Or.inl ⟨Nat.zero_le _, Nat.le_refl _, by simp, by simp⟩⟩
theorem ci_next {c : UInt8} {l : List UInt8} {done : List (List UInt8)} {b k : Nat} {x : UInt8} (h : CI c l done b k) (hx : l[k]? = some x) (hne : x ≠ c) : CI c l done b (k + 1) := by
  have hk := (List.getElem?_eq_some_iff.1 hx).1
  rcases h with ⟨hd, ⟨h1, h2, h3, h4⟩ | ⟨h1, _, _⟩⟩
  · refine ⟨by omega, Or.inl ⟨by omega, by omega, h3, ?_⟩⟩
    rw [show k + 1 - b = (k - b) + 1 by omega, List.take_add_one, List.getElem?_drop, show b + (k - b) = k by omega, hx]
    simp only [Option.toList_some, List.mem_append, List.mem_singleton, not_or]
    exact ⟨h4, fun e => hne e.symm⟩
  · omega
theorem ci_part {c : UInt8} {l : List UInt8} {done : List (List UInt8)} {b k : Nat} (h : CI c l done b k) (hx : l[k]? = some c) : CI c l (done ++ [(l.drop b).take (k - b)]) (k + 1) (k + 1) := by
  have hk := (List.getElem?_eq_some_iff.1 hx).1
  rcases h with ⟨hd, ⟨h1, h2, h3, h4⟩ | ⟨h1, _, _⟩⟩
  · refine ⟨by simp; omega, Or.inl ⟨by omega, by omega, ?_, by simp⟩⟩
    have e : l.drop b = (l.drop b).take (k - b) ++ c :: l.drop (k + 1) := by
      have e1 : l.drop k = c :: l.drop (k + 1) := by
        rw [List.drop_eq_getElem_cons hk]
        congr 1
        exact (List.getElem?_eq_some_iff.1 hx).2
      have e2 := (List.take_append_drop (k - b) (l.drop b)).symm
      rw [List.drop_drop, show b + (k - b) = k by omega, e1] at e2
      exact e2
    rw [h3, List.append_assoc]
    congr 1
    rw [e, pieces_some h4, List.take_left' (by simp; omega)]
    rfl
  · omega
theorem ci_end {c : UInt8} {l : List UInt8} {done : List (List UInt8)} {b : Nat} (h : CI c l done b l.length) : CI c l (done ++ [(l.drop b).take (l.length - b)]) (l.length + 1) (l.length + 1) := by
  rcases h with ⟨hd, ⟨h1, h2, h3, h4⟩ | ⟨h1, _, _⟩⟩
  · refine ⟨by simp; omega, Or.inr ⟨rfl, rfl, ?_⟩⟩
    rw [List.take_of_length_le (by simp)] at h4 ⊢
    rw [h3, pieces_none h4]
  · omega
theorem ci_done {c : UInt8} {l : List UInt8} {done : List (List UInt8)} {b k : Nat} (h : CI c l done b k) (hk : l.length < k) : done = pieces c l := by
  rcases h with ⟨_, ⟨h1, _, _, _⟩ | ⟨_, _, h3⟩⟩
  · omega
  · exact h3
theorem ci_len {c : UInt8} {l : List UInt8} {done : List (List UInt8)} {b k : Nat} (h : CI c l done b k) (hk : k ≤ l.length) : b ≤ k := by
  rcases h with ⟨_, ⟨_, h2, _, _⟩ | ⟨h1, _, _⟩⟩
  · exact h2
  · omega
set_option maxHeartbeats 1600000 in
set_option maxRecDepth 100000 in
theorem rcut31_calls (l : List UInt8) (c : UInt8) (cn : Int) (w : World) (hl : l.length ≤ 100000) (hc : cn = c.toNat) :
    Calls Tryd.prog 37 #[Sv l, .int .u8 cn] w fun e w' => (∃ v, e = .returned v ∧ RS w' w.heap.size v (pieces c l)) ∧ Below w.heap.size w w' := by
  have HL := Aside0.mk hl
  have HC := Aside0.mk hc
  clear hl hc
  go_enter Tryd.func37, Tryd.ntmps37
  go_wp2_with (first | ((with_reducible refine gate_dst (N := 8) rfl ?_); refine Kd.R_lit Kd.string (w0 := w) w.heap.size 9 ?hg (N := 8) ?hd (xs := ([] : List ByteArray)) (inner := []) (ok := fun _ => True) (okp := fun _ => True) ?hr ?hp (fun _ hk => hk) trivial (Below.refl _ _) (Nat.le_refl _) (by simp) ?_; (case hd => rfl); (case hg => rfl); (case hr => first | (go_simp; done) | (go_simp; rfl)); (case hp => exact (Reps.none _ _)); intro v1 w1 ho hb hg_ hnew_; have HR : Aside0 (RS w1 w.heap.size v1 []) := ⟨ho⟩; have HB := Aside0.mk hb; clear ho hb hg_ hnew_))
  go_loopw [5, 6, 7] (fun v5 v6 v7 W => ∃ (done : List (List UInt8)) (b k : Nat), v6 = .int .i64 b ∧ v7 = .int .i64 k ∧ Aside0 (CI c l done b k) ∧ Aside0 (RS W w.heap.size v5 done) ∧ Aside0 (Below w.heap.size w W)) (fun _ _ v7 _ => l.length + 1 - (intOf v7).toNat)
  case atStart => exact ⟨[], 0, 0, rfl, rfl, ⟨ci_start c l⟩, HR, HB⟩
  case round =>
    clear HR HB
    obtain ⟨done, b, k, rfl, rfl, HI, HR, HB⟩ := hrel
    by_cases h1 : k ≤ l.length
    · have d1 : decide ((k : Int) ≤ (l.length : Int)) = true := decide_eq_true (by omega)
      have hbk := ci_len HI.out h1
      have HDL : Aside0 (done.length ≤ k) := ⟨HI.out.1⟩
      have s1 : (0 : Int) ≤ (b : Int) := by omega
      have s2 : (b : Int) ≤ (k : Int) := by omega
      have s3 : (k : Int) ≤ (l.length : Int) := by omega
      have s4 : (l.length : Int) ≤ 100000 := by have := HL.out; omega
      have s5 : (k : Int) ≤ 100000 := by omega
      have HK := Aside0.mk h1
      by_cases h2 : k = l.length
      · subst h2
        have d2 : ((l.length : Int) == (l.length : Int)) = true := by simp
        have HE := Aside0.mk (ci_end HI.out)
        go_wp2_with (first | ((with_reducible refine gate_builtin (b := .append) (xs := #[.tmp 26, .tmp 31]) rfl ?_); at_builtin; refine Kd.R_append Kd.string (w0 := w) w.heap.size rfl (.tmp 26) (.tmp 31) 69 9 (.string ⟨#[]⟩) 16 rfl Tryd.underlying69 info9 rfl (by decide) (by omega) u5 (done.map bs) ((bs l).extract b l.length) [.string ((bs l).extract b l.length)] (fun _ => True) (fun _ => False) rfl rfl ?aP (fun _ hk => hk.elim) ?aF ?aO ?aB ?aS ?aL ?_; (case aP => exact rfl); (case aF => exact (fun _ _ => trivial)); (case aO => exact HR.out); (case aB => exact HB.out); (case aS => exact HB.out.size); (case aL => have := HDL.out; have := HL.out; simp only [List.length_map]; omega); intro v2 w2 ho hb hg hat; have HB2 := Aside0.mk hb; have HR2 : Aside0 (RS w2 w.heap.size v2 (done ++ [(l.drop b).take (l.length - b)])) := ⟨by show Kd.R Kd.string 9 w2 w.heap.size _ v2 (List.map bs (_ ++ [_])); rw [List.map_append, List.map_singleton, ← ext_bs]; exact ho⟩; clear ho hb hg hat HR HB))
        go_roundw
        case rel => exact ⟨done ++ [(l.drop b).take (l.length - b)], l.length + 1, l.length + 1, by go_num, by go_num, HE, HR2, HB2⟩
        case measure => simp [intOf]
      · have h3 : k < l.length := by omega
        have d2 : ((k : Int) == (l.length : Int)) = false := by rw [beq_eq_false_iff_ne]; omega
        obtain ⟨x, hx⟩ : ∃ x, l[k]? = some x := ⟨_, List.getElem?_eq_getElem h3⟩
        have hki : (k : Int) < (l.length : Int) := by omega
        have hbv : ∀ h : k < (⟨l.toArray⟩ : ByteArray).size, (⟨l.toArray⟩ : ByteArray)[k]'h = x := fun h => Option.some.inj ((List.getElem?_eq_getElem h3).symm.trans hx)
        by_cases h4 : x = c
        · have HE := Aside0.mk (ci_part HI.out (by rw [hx, h4]))
          have d3 : ((x.toNat : Int) == cn) = true := by rw [HC.out, h4]; simp
          clear h4 h2
          go_wp2_with (first | ((with_reducible refine gate_builtin (b := .append) (xs := #[.tmp 26, .tmp 31]) rfl ?_); at_builtin; refine Kd.R_append Kd.string (w0 := w) w.heap.size rfl (.tmp 26) (.tmp 31) 69 9 (.string ⟨#[]⟩) 16 rfl Tryd.underlying69 info9 rfl (by decide) (by omega) u5 (done.map bs) ((bs l).extract b k) [.string ((bs l).extract b k)] (fun _ => True) (fun _ => False) rfl rfl ?aP (fun _ hk => hk.elim) ?aF ?aO ?aB ?aS ?aL ?_; (case aP => exact rfl); (case aF => exact (fun _ _ => trivial)); (case aO => exact HR.out); (case aB => exact HB.out); (case aS => exact HB.out.size); (case aL => have := HDL.out; have := HL.out; simp only [List.length_map]; omega); intro v2 w2 ho hb hg hat; have HB2 := Aside0.mk hb; have HR2 : Aside0 (RS w2 w.heap.size v2 (done ++ [(l.drop b).take (k - b)])) := ⟨by show Kd.R Kd.string 9 w2 w.heap.size _ v2 (List.map bs (_ ++ [_])); rw [List.map_append, List.map_singleton, ← ext_bs]; exact ho⟩; clear ho hb hg hat HR HB))
          go_roundw
          case rel => exact ⟨done ++ [(l.drop b).take (k - b)], k + 1, k + 1, by go_num, by go_num, HE, HR2, HB2⟩
          case measure => simp [intOf]; omega
        · have HE := Aside0.mk (ci_next HI.out hx h4)
          have d3 : ((x.toNat : Int) == cn) = false := by
            rw [HC.out, beq_eq_false_iff_ne]
            intro e
            exact h4 (UInt8.toNat_inj.1 (by omega))
          clear h4 h2
          go_wp2
          go_roundw
          case rel => exact ⟨done, b, k + 1, rfl, by go_num, HE, HR, HB⟩
          case measure => simp [intOf]; omega
    · have d1 : decide ((k : Int) ≤ (l.length : Int)) = false := decide_eq_false (by omega)
      have HE := Aside0.mk (ci_done HI.out (by omega))
      go_wp2
      go_ret
      exact ⟨⟨_, rfl, by rw [← HE.out]; exact HR.out⟩, HB.out⟩
end Go.Proofs.YtagpkphehkfjgaaDoor.Px
