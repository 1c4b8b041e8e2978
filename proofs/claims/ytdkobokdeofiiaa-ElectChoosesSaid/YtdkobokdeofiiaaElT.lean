/- Contracts of Clone, taken, Take and Settle, for every input. -/
import Derived.Test.YtdkobokdeofiiaaElH
import Derived.WalkSpells
set_option linter.unusedVariables false
set_option linter.unusedSimpArgs false
namespace Go.Proofs.Ytdkobokdeofiiaa.El
open Go.RowKit Go.Proofs.YtdkobokdeofiiaaW.PrintWords Go.Proofs.YtdkobokdeofiiaaW.PrintLast Go.Proofs.YtdkobokdeofiiaaW.PrintMore

/-- A block holds these voters, one behind the other. -/
def VB (w : World) (g : Nat) (xs : List S52) : Prop := ∃ cur : Array Value, w.heap[g]? = some (.cells cur 52 (0, 0)) ∧ xs.length * 4 ≤ cur.size ∧
  ∀ j x, xs[j]? = some x → cur[j * 4]? = some (.int .i64 x.f0) ∧ cur[j * 4 + 1]? = some (.int .i64 x.f1) ∧ cur[j * 4 + 2]? = some (.int .i64 x.f2) ∧ cur[j * 4 + 3]? = some (.int .i64 x.f3)
/-- A slice of the call's own that holds these voters. -/
def Fresh (B : Nat) (w : World) (v : Value) (xs : List S52) : Prop := ∃ A c, v = .slice A xs.length c ∧ xs.length ≤ c ∧ (xs = [] ∨ ∃ g, A = some ⟨g, 0, none⟩ ∧ B ≤ g ∧ VB w g xs)
theorem VB.C {w : World} {g : Nat} {xs : List S52} (h : VB w g xs) (hl : xs.length ≤ 9223372036854775807) : Kd.C k52 w (some ⟨g, 0, none⟩) xs.length xs := by
  obtain ⟨cur, hb, _, hc⟩ := h
  refine ⟨rfl, hl, fun _ => ⟨_, rfl, fun j p hp => ?_⟩⟩
  obtain ⟨h0, h1, h2, h3⟩ := hc j p hp
  refine ⟨_, rfl, k52_mk w p, fun i u hu => ?_⟩
  rw [add_plain, blk_cell hb]
  match i, hu with
  | 0, hu => injection hu with hu; subst hu; exact h0
  | 1, hu => injection hu with hu; subst hu; exact h1
  | 2, hu => injection hu with hu; subst hu; exact h2
  | 3, hu => injection hu with hu; subst hu; exact h3
theorem VB.below {w w' : World} {g : Nat} {xs : List S52} (h : VB w g xs) (hb : Below w.heap.size w w') : VB w' g xs := by
  obtain ⟨cur, h1, h2, h3⟩ := h
  exact ⟨cur, blk_below h1 hb, h2, h3⟩
theorem VB.of_R {w : World} {base : Nat} {A : Option Addr} {n c : Nat} {xs : List S52} (h : Kd.R k52 52 w base (fun _ => True) (.slice A n c) xs) : xs = [] ∨ ∃ g, A = some ⟨g, 0, none⟩ ∧ base ≤ g ∧ VB w g xs := by
  obtain ⟨_, inner, ⟨hl, ho⟩, hr⟩ := h
  rcases ho with ⟨_, hn⟩ | ⟨g, cap, cur, hv, hb, hh, _, _, hcs, htk⟩
  · exact .inl (List.eq_nil_of_length_eq_zero hn)
  · injection hv with hv _ _
    refine .inr ⟨g, hv, hb, cur, hh, ?_, fun j x hx => ?_⟩
    · have h4 : k52.sz = 4 := rfl
      rw [h4] at hcs hl htk
      have : inner.length ≤ cur.size := by
        rw [← htk]
        simp
        omega
      omega
    · have hq := hr.2 j x hx
      have h4 : k52.sz = 4 := rfl
      have hq' := k52_openM hq
      rw [h4] at hq' htk hl
      have hj : j < xs.length := (List.getElem?_eq_some_iff.1 hx).1
      have get : ∀ i, i < 4 → inner[j * 4 + i]? = ((inner.drop (j * 4)).take 4)[i]? := by
        intro i hi
        rw [List.getElem?_take, if_pos hi, List.getElem?_drop]
      have cur_get : ∀ i, i < 4 → cur[j * 4 + i]? = inner[j * 4 + i]? := by
        intro i hi
        rw [← htk, List.getElem?_take, if_pos (by omega)]
        simp
      refine ⟨?_, ?_, ?_, ?_⟩
      · have := cur_get 0 (by omega); rw [get 0 (by omega), hq'] at this; simpa using this
      · have := cur_get 1 (by omega); rw [get 1 (by omega), hq'] at this; simpa using this
      · have := cur_get 2 (by omega); rw [get 2 (by omega), hq'] at this; simpa using this
      · have := cur_get 3 (by omega); rw [get 3 (by omega), hq'] at this; simpa using this

set_option maxHeartbeats 800000 in
set_option maxRecDepth 100000 in
theorem clone_calls (A : Option Addr) (c : Nat) (xs : List S52) (w : World) (hC : Kd.C k52 w A xs.length xs) (hl : xs.length ≤ 1000000) :
    Calls Try.prog 74 #[.slice A xs.length c] w fun e w' => ∃ v, e = .returned v ∧ Fresh w.heap.size w' v xs ∧ Below w.heap.size w w' := by
  have HC := Aside0.mk hC
  cases A with
  | none =>
    have h0 : xs = [] := by
      rcases Nat.eq_zero_or_pos xs.length with h | h
      · exact List.eq_nil_of_length_eq_zero h
      · obtain ⟨ad, e, _⟩ := hC.2.2 h
        cases e
    subst h0
    clear hC
    have hnil := fun w => Go.Lib.run_eql_slice_nil (P := Try.prog) w 47 52 none 0 c 0 0 Try.underlying47
    have hpost : Fresh w.heap.size w (.slice none 0 0) [] := ⟨none, 0, rfl, Nat.le_refl _, .inl rfl⟩
    have HP := Aside0.mk hpost
    clear hpost
    go_enter Try.func74, Try.ntmps74
    go_wp2
    go_ret
    exact ⟨_, rfl, HP.out, Below.refl _ _⟩
  | some ad =>
    clear hC
    have hnil := fun w => Go.Lib.run_eql_slice_nil (P := Try.prog) w 47 52 (some ad) xs.length c 0 0 Try.underlying47
    go_enter Try.func74, Try.ntmps74
    go_wp2_with (first | ((with_reducible refine gate_dst (N := 5) rfl ?_); refine Kd.R_lit k52 (w0 := w) w.heap.size 52 ?hg (N := 5) ?hd (xs := ([] : List S52)) (inner := []) (ok := fun _ => True) (okp := fun _ => True) ?hr ?hp (fun _ hk => hk) trivial (Below.refl _ _) (Nat.le_refl _) (by simp) ?_; (case hd => rfl); (case hg => rfl); (case hr => first | (go_simp; done) | (go_simp; rfl)); (case hp => exact (Reps.none _ _)); intro v5 w5 ho5 hb5 hg5 hnew5; have HO5 := Aside0.mk ho5; have HB5 := Aside0.mk hb5; clear ho5 hb5 hg5 hnew5) | ((with_reducible refine gate_dst (N := 7) rfl ?_); refine Kd.R_append_rows k52 (w0 := w) w.heap.size rfl (.tmp 5) (.tmp 6) 47 52 (.agg #[(.int .i64 0), (.int .i64 0), (.int .i64 0), (.int .i64 0)]) 32 rfl Try.underlying47 info52 rfl (by decide) (by omega) v5 [] xs _ _ _ (fun _ => True) (fun _ => False) rfl rfl HO5.out (Kd.C_below HC.out HB5.out) (fun _ _ h => h) (fun _ h => h.elim) (fun _ _ => trivial) HB5.out HB5.out.size (by simp; omega) ?_; intro v7 w7 ho7 hb7 hg7 hat7; have HO7 := Aside0.mk ho7; have HB7 := Aside0.mk hb7; clear ho7 hb7 hg7 hat7))
    go_ret
    refine ⟨_, rfl, ?_, HB7.out⟩
    have ho := HO7.out
    rw [List.nil_append] at ho
    obtain ⟨A', c', he⟩ := Kd.R_slice ho
    show Fresh _ _ v7 _
    rw [he] at ho ⊢
    obtain ⟨h1, h2, _⟩ := Kd.R_reads' ho
    exact ⟨A', c', rfl, h2, VB.of_R ho⟩

def takenF (a b : Int) (xs : List S52) : List S52 := xs.map fun x => ⟨x.f0, x.f1, a, b⟩
theorem VB.put2 {w : World} {g : Nat} {ys : List S52} (h : VB w g ys) {k : Nat} {x : S52} (hx : ys[k]? = some x) (a b : Int) :
    VB ((w.setCell ⟨g, k * 4 + 2, none⟩ (.int .i64 a)).setCell ⟨g, k * 4 + 3, none⟩ (.int .i64 b)) g (ys.set k ⟨x.f0, x.f1, a, b⟩) := by
  obtain ⟨cur, hb, hs, hc⟩ := h
  have hk : k < ys.length := (List.getElem?_eq_some_iff.1 hx).1
  refine ⟨_, blk_set (blk_set hb (k * 4 + 2) (.int .i64 a)) (k * 4 + 3) (.int .i64 b), by simpa using hs, fun j p hp => ?_⟩
  rw [List.getElem?_set] at hp
  have ne1 : ∀ i u, i ≠ k * 4 + 2 → i ≠ k * 4 + 3 → cur[i]? = some u → ((cur.setIfInBounds (k * 4 + 2) (.int .i64 a)).setIfInBounds (k * 4 + 3) (.int .i64 b))[i]? = some u := by
    intro i u h1 h2 h3
    rw [Array.getElem?_setIfInBounds_ne (Ne.symm h2), Array.getElem?_setIfInBounds_ne (Ne.symm h1)]
    exact h3
  by_cases hjk : k = j
  · subst hjk
    rw [if_pos rfl, if_pos hk] at hp
    injection hp with hp
    subst hp
    obtain ⟨h0, h1, h2, h3⟩ := hc k x hx
    refine ⟨ne1 _ _ (by omega) (by omega) h0, ne1 _ _ (by omega) (by omega) h1, ?_, ?_⟩
    · rw [Array.getElem?_setIfInBounds_ne (by omega), Array.getElem?_setIfInBounds_self_of_lt (by omega)]
    · rw [Array.getElem?_setIfInBounds_self_of_lt (by simp; omega)]
  · rw [if_neg hjk] at hp
    obtain ⟨h0, h1, h2, h3⟩ := hc j p hp
    exact ⟨ne1 _ _ (by omega) (by omega) h0, ne1 _ _ (by omega) (by omega) h1, ne1 _ _ (by omega) (by omega) h2, ne1 _ _ (by omega) (by omega) h3⟩

theorem taken_step (a b : Int) (xs : List S52) (k : Nat) (x : S52) (hx : xs[k]? = some x) : (takenF a b (xs.take k) ++ xs.drop k)[k]? = some x ∧ (takenF a b (xs.take k) ++ xs.drop k).set k ⟨x.f0, x.f1, a, b⟩ = takenF a b (xs.take (k + 1)) ++ xs.drop (k + 1) := by
  obtain ⟨hk, hg⟩ := List.getElem?_eq_some_iff.1 hx
  have hl : (takenF a b (xs.take k)).length = k := by unfold takenF; rw [List.length_map, List.length_take]; omega
  have hd : xs.drop k = x :: xs.drop (k + 1) := by rw [List.drop_eq_getElem_cons hk, hg]
  have ht : takenF a b (xs.take (k + 1)) = takenF a b (xs.take k) ++ [⟨x.f0, x.f1, a, b⟩] := by
    unfold takenF
    rw [List.take_succ_eq_append_getElem hk, List.map_append, hg]
    rfl
  constructor
  · rw [List.getElem?_append_right (by omega), hl, hd, Nat.sub_self]
    rfl
  · rw [List.set_append_right _ _ (by omega), hl, hd, Nat.sub_self, ht, List.append_assoc]
    rfl

set_option maxHeartbeats 800000 in
set_option maxRecDepth 100000 in
theorem taken_calls (A : Option Addr) (c : Nat) (xs : List S52) (a b : Int) (w : World) (hC : Kd.C k52 w A xs.length xs) (hl : xs.length ≤ 1000000) :
    Calls Try.prog 66 #[.slice A xs.length c, .int .i64 a, .int .i64 b] w fun e w' => ∃ v, e = .returned v ∧ Fresh w.heap.size w' v (takenF a b xs) ∧ Below w.heap.size w w' := by
  have HC := Aside0.mk hC
  clear hC
  go_enter Try.func66, Try.ntmps66
  go_wp2_with fail
  refine (clone_calls A c xs w HC.out hl).mono ?_
  rintro e w1 ⟨v, rfl, ⟨A', c', rfl, hcc, hF⟩, hb⟩
  have HB1 := Aside0.mk hb
  clear hb
  rcases hF with rfl | ⟨g, rfl, hg, hV⟩
  · clear HC
    go_wp2
    refine wp_loop_rounds 1 ?_
    rw [rounds_succ]
    go_wp2
    go_ret
    exact ⟨_, rfl, ⟨A', c', rfl, hcc, .inl rfl⟩, HB1.out⟩
  · have HV := Aside0.mk hV
    have HG := Aside0.mk hg
    clear hV hg
    go_wp2
    go_loopw [13] (fun v13 W => ∃ k : Nat, k ≤ xs.length ∧ v13 = .int .i64 k ∧ Aside0 (VB W g (takenF a b (xs.take k) ++ xs.drop k)) ∧ Aside0 (Below w.heap.size w W)) (fun i _ => xs.length - (intOf i).toNat)
    case atStart => exact ⟨0, Nat.zero_le _, rfl, ⟨by simpa [takenF] using HV.out⟩, HB1⟩
    case round =>
      obtain ⟨k, hk, rfl, HV2, HB2⟩ := hrel
      by_cases hlt : k < xs.length
      · obtain ⟨x, hx, hd⟩ := drop_some hlt
        obtain ⟨hy, hnx⟩ := taken_step a b xs k x hx
        have hV3 := HV2.out.put2 hy a b
        rw [hnx] at hV3
        obtain ⟨cur, hbk, _, hcur⟩ := HV2.out
        obtain ⟨_, _, h2, h3⟩ := hcur k x hy
        have c2 := (blk_cell hbk (k * 4 + 2)).trans h2
        have c3 := (blk_cell hbk (k * 4 + 3)).trans h3
        have f2 := blk_frozen hbk (k * 4 + 2)
        have f3 := blk_frozen hbk (k * 4 + 3)
        have HV3 := Aside0.mk hV3
        clear hV3 hnx hy hx hd hcur hbk h2 h3
        go_wp2
        go_roundw
        case rel => exact ⟨k + 1, by omega, by go_num, HV3, ⟨(HB2.out.setCell HG.out _).setCell HG.out _⟩⟩
        case measure => simp [intOf]; omega
      · obtain rfl : k = xs.length := by omega
        go_wp2
        go_ret
        refine ⟨_, rfl, ⟨some ⟨g, 0, none⟩, c', by simp [takenF], by simpa [takenF] using hcc, .inr ⟨g, rfl, HG.out, ?_⟩⟩, HB2.out⟩
        have := HV2.out
        simpa using this
end Go.Proofs.Ytdkobokdeofiiaa.El
