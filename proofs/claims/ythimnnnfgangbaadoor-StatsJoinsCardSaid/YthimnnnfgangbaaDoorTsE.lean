/- Contract of (*Tally).Join: for every input. -/
import Derived.Test.YthimnnnfgangbaaDoorTsD
set_option linter.unusedVariables false
set_option linter.unusedSimpArgs false
namespace Go.Proofs.YthimnnnfgangbaaDoor.Ts
open Go.RowKit Go.Proofs.YthimnnnfgangbaaDoorW.PrintWords Go.Proofs.YthimnnnfgangbaaDoorW.PrintLast Go.Proofs.YthimnnnfgangbaaDoorW.PrintMore Go.Proofs.YthimnnnfgangbaaDoor.Qr
theorem join_nil (q : Option Addr) (w : World) : Calls Tryd.prog 33 #[.pointer none, .pointer q] w fun e w' => e = .returned (.tuple #[]) ∧ w = w' := by
  go_enter Tryd.func33, Tryd.ntmps33
  go_wp2
  refine bodyPost_ret (results_none rfl _ _ _) rfl ?_
  exact ⟨rfl, rfl⟩
theorem join_none (p : Addr) (w : World) : Calls Tryd.prog 33 #[.pointer (some p), .pointer none] w fun e w' => e = .returned (.tuple #[]) ∧ w = w' := by
  go_enter Tryd.func33, Tryd.ntmps33
  go_wp2_with fail
  refine (count_nil w).mono ?_
  rintro e w1 ⟨rfl, rfl⟩
  go_wp2
  refine bodyPost_ret (results_none rfl _ _ _) rfl ?_
  exact ⟨rfl, rfl⟩
def T.join (t o : T) : T := if o.c = 0 then t else ⟨t.c + o.c, plus t.s o.s, if t.c = 0 ∨ o.l < t.l then o.l else t.l, max t.m o.m, List.zipWith (· + ·) t.st o.st⟩
theorem zip_at (a b : List Nat) (k n : Nat) (ha : a.length = n) (hb : b.length = n) (hk : k < n) : (List.zipWith (· + ·) (a.take k) (b.take k) ++ a.drop k).getD k 0 = a.getD k 0 := by
  have hl : (List.zipWith (· + ·) (a.take k) (b.take k)).length = k := by simp; omega
  rw [List.getD_eq_getElem?_getD, List.getElem?_append_right (by omega), hl, Nat.sub_self, List.getElem?_drop, Nat.add_zero, ← List.getD_eq_getElem?_getD]
theorem zip_put (a b : List Nat) (k n : Nat) (ha : a.length = n) (hb : b.length = n) (hk : k < n) (x y : Nat) (hx : b.getD k 0 = x) (hy : a.getD k 0 = y) : (List.zipWith (· + ·) (a.take k) (b.take k) ++ a.drop k).set k (y + x) = List.zipWith (· + ·) (a.take (k + 1)) (b.take (k + 1)) ++ a.drop (k + 1) := by
  have hl : (List.zipWith (· + ·) (a.take k) (b.take k)).length = k := by simp; omega
  have h1 : a[k]? = some y := by rw [← hy, List.getD_eq_getElem?_getD, List.getElem?_eq_getElem (by omega)]; rfl
  have h2 : b[k]? = some x := by rw [← hx, List.getD_eq_getElem?_getD, List.getElem?_eq_getElem (by omega)]; rfl
  rw [List.set_append_right _ _ (by omega), hl, Nat.sub_self, List.drop_eq_getElem_cons (by omega : k < a.length), List.set_cons_zero, List.take_add_one, List.take_add_one, h1, h2]
  simp only [Option.toList]
  rw [List.zipWith_append (by simp; omega)]
  simp
/-- Both tallies, one of which is turned. -/
structure JS (w : World) (g h : Nat) (t o : T) (W : World) : Prop where
  t : TL W g t
  o : TL W h o
  k : KB g w W
theorem JS.drew {w : World} {g h : Nat} {t o : T} {W : World} (j : JS w g h t o W) (n : Nat) : JS w g h t o (W.drewN n) := ⟨j.t.below (pw_below_drewN (Below.refl _ _) _), j.o.below (pw_below_drewN (Below.refl _ _) _), j.k.drew n⟩
theorem JS.put {w : World} {g h : Nat} {t t2 o : T} {W : World} (hgh : h ≠ g) (j : JS w g h t o W) {i : Nat} {u : Value} (ht : TL (W.setCell ⟨g, i, none⟩ u) g t2) : JS w g h t2 o (W.setCell ⟨g, i, none⟩ u) := ⟨ht, j.o.kb (KB.set i u) hgh, j.k.trans (KB.set i u)⟩
theorem JS.drew1 {w : World} {g h : Nat} {t o : T} {W : World} (j : JS w g h t o W) : JS w g h t o W.drew := j.drew 1
set_option maxHeartbeats 3200000 in
set_option maxRecDepth 100000 in
theorem join_calls (g h : Nat) (t o : T) (n m : Nat) (w : World) (hgh : h ≠ g) (ht : TL w g t) (ho : TL w h o) (ft : Fine t n) (fo : Fine o m) (hn : n ≤ 1000) (hm : m ≤ 1000) :
    Calls Tryd.prog 33 #[.pointer (some ⟨g, 0, none⟩), .pointer (some ⟨h, 0, none⟩)] w fun e w' => e = .returned (.tuple #[]) ∧ TL w' g (t.join o) ∧ KB g w w' := by
  have HGH := Aside0.mk hgh
  have HT := Aside0.mk ht
  have HO := Aside0.mk ho
  have FT := Aside0.mk ft
  have FO := Aside0.mk fo
  have HN := Aside0.mk hn
  have HM := Aside0.mk hm
  by_cases hc : o.c = 0
  · have h1 : t.join o = t := if_pos hc
    have HC := Aside0.mk hc
    rw [h1]
    clear h1 hc hn hm ht ho ft fo hgh
    go_enter Tryd.func33, Tryd.ntmps33
    go_wp2_with fail
    refine (count_calls h o w HO.out).mono ?_
    rintro e w1 ⟨rfl, rfl⟩
    rw [HC.out]
    go_wp2
    refine bodyPost_ret (results_none rfl _ _ _) rfl ?_
    exact ⟨rfl, HT.out, KB.refl _ _⟩
  · have h1 : t.join o = ⟨t.c + o.c, plus t.s o.s, if t.c = 0 ∨ o.l < t.l then o.l else t.l, max t.m o.m, List.zipWith (· + ·) t.st o.st⟩ := if_neg hc
    have HJ' := Aside0.mk h1
    have b0 : ((o.c : Int) == 0) = false := by simp; omega
    clear h1 hc hn hm ht ho ft fo hgh
    go_enter Tryd.func33, Tryd.ntmps33
    go_wp2_with fail
    refine (count_calls h o w HO.out).mono ?_
    rintro e w1 ⟨rfl, rfl⟩
    go_upto_region 1 with (fail)
    clear b0
    obtain ⟨b, hb⟩ : ∃ b : Bool, decide (t.c = 0 ∨ o.l < t.l) = b := ⟨_, rfl⟩
    have HB := Aside0.mk hb
    clear hb
    have c0 := HT.out.c0
    have c2 := HT.out.c2
    have d2 := HO.out.c2
    have HJS : Aside0 (JS w g h t o w) := ⟨HT.out, HO.out, KB.refl _ _⟩
    go_cut [28] (fun v28 wx => v28 = .bool b ∧ Aside0 (JS w g h t o wx))
    case first =>
      by_cases h1 : t.c = 0
      · have b1 : ((t.c : Int) == 0) = true := by simp; omega
        have hb : b = true := by rw [← HB.out]; exact decide_eq_true (.inl h1)
        subst hb
        clear h1
        go_quiet (fail)
        go_wp2_with fail
        go_meet
        exact ⟨rfl, ⟨HJS.out.drew _⟩⟩
      · have b1 : ((t.c : Int) == 0) = false := by simp; omega
        by_cases h2 : o.l < t.l
        · have b2 : decide (o.l < t.l) = true := decide_eq_true h2
          have hb : b = true := by rw [← HB.out]; exact decide_eq_true (.inr h2)
          subst hb
          clear h1 h2
          go_quiet (fail)
          go_wp2_with fail
          go_meet
          exact ⟨rfl, ⟨HJS.out.drew _⟩⟩
        · have b2 : decide (o.l < t.l) = false := decide_eq_false h2
          have hb : b = false := by rw [← HB.out]; exact decide_eq_false (by rintro (h | h); exact h1 h; exact h2 h)
          subst hb
          clear h1 h2
          go_quiet (fail)
          go_wp2_with fail
          go_meet
          exact ⟨rfl, ⟨HJS.out.drew _⟩⟩
    case rest =>
    obtain ⟨rfl, HJ1⟩ := hcut
    clear HJS c0 c2 d2 HT HO
    go_upto_if 28 with (fail)
    have d2 := HJ1.out.o.c2
    have f2 := blk_frozen HJ1.out.t.blk 2
    have c2 := HJ1.out.t.c2
    go_cut [] (fun wx => Aside0 (JS w g h { t with l := if t.c = 0 ∨ o.l < t.l then o.l else t.l } o wx))
    case first =>
      cases b
      · have HH : Aside0 (JS w g h { t with l := if t.c = 0 ∨ o.l < t.l then o.l else t.l } o wc) := ⟨by rw [if_neg (of_decide_eq_false HB.out)]; exact HJ1.out⟩
        go_wp2_with fail
        go_meet
        exact HH
      · have HH : Aside0 (JS w g h { t with l := if t.c = 0 ∨ o.l < t.l then o.l else t.l } o (wc.setCell ⟨g, 2, none⟩ (.int .u64 o.l))) := ⟨by rw [if_pos (of_decide_eq_true HB.out)]; exact HJ1.out.put HGH.out (HJ1.out.t.s2 _)⟩
        go_wp2_with fail
        go_meet
        exact HH
    case rest =>
    obtain ⟨l2, hl2⟩ : ∃ l2, (if t.c = 0 ∨ o.l < t.l then o.l else t.l) = l2 := ⟨_, rfl⟩
    have HL2 := Aside0.mk hl2
    have HJ2 : Aside0 (JS w g h { t with l := l2 } o wc) := ⟨by rw [← hl2]; exact hcut.out⟩
    clear hcut hl2 HJ1 d2 f2 c2 HB
    have c3 := HJ2.out.t.c3
    have d3 := HJ2.out.o.c3
    have f3 := blk_frozen HJ2.out.t.blk 3
    simp only at c3
    go_wp2_with fail
    go_region
    rw [u64_max]
    go_wp2_with fail
    refine wp_world (fun W => Aside0 (JS w g h { t with l := l2, m := max t.m o.m } o W)) ⟨(HJ2.out.put HGH.out (HJ2.out.t.s3 _)).drew1⟩ ?_
    clear HJ2 c3 d3 f3
    rintro w3 HJ3
    have c0 := HJ3.out.t.c0
    have d0 := HJ3.out.o.c0
    have f0 := blk_frozen HJ3.out.t.blk 0
    simp only at c0
    have hcc : (t.c : Int) ≤ 1000 := by have := FT.out.c; have := HN.out; omega
    have hdd : (o.c : Int) ≤ 1000 := by have := FO.out.c; have := HM.out; omega
    go_region
    rw [show ((t.c : Int) + (o.c : Int)) = ((t.c + o.c : Nat) : Int) by omega]
    go_wp2_with fail
    refine wp_world (fun W => Aside0 (JS w g h { t with l := l2, m := max t.m o.m, c := t.c + o.c } o W)) ⟨(HJ3.out.put HGH.out (HJ3.out.t.s0 _)).drew1⟩ ?_
    clear HJ3 c0 d0 f0 hcc hdd
    rintro w4 HJ4
    have c1 := HJ4.out.t.c1
    have d1 := HJ4.out.o.c1
    have f1 := blk_frozen HJ4.out.t.blk 1
    simp only at c1
    have HPL : Aside0 (∀ W, Calls Tryd.prog 57 #[.int .u64 t.s, .int .u64 o.s] W fun e w' => e = .returned (.int .u64 (plus t.s o.s)) ∧ W = w') := ⟨plus_calls t.s o.s FT.out.s FO.out.s⟩
    go_cut [] (fun wx => Aside0 (JS w g h { t with l := l2, m := max t.m o.m, c := t.c + o.c, s := plus t.s o.s } o wx))
    case first =>
      have HX : Aside0 (JS w g h { t with l := l2, m := max t.m o.m, c := t.c + o.c, s := plus t.s o.s } o (w4.setCell ⟨g, 1, none⟩ (.int .u64 (plus t.s o.s))).drew) := ⟨(HJ4.out.put HGH.out (HJ4.out.t.s1 _)).drew1⟩
      go_region_with (first | (go_at_call 57; (with_reducible refine (HPL.out _).mono ?_); rintro e w' ⟨rfl, rfl⟩))
      all_goals (go_wp2_with fail; go_meet; exact HX)
    case rest =>
    obtain ⟨w5, hw5⟩ : ∃ w5, wc = w5 := ⟨_, rfl⟩
    rw [hw5] at hcut ⊢
    clear hw5
    have HJ5 := Aside0.mk hcut.out
    clear hcut HJ4 c1 d1 f1 HPL
    obtain ⟨cs, hcs⟩ : ∃ cs : List Value, o.st.map U = cs := ⟨_, rfl⟩
    have HCS := Aside0.mk hcs
    have HINFO : Aside0 ((Tryd.prog.info? 106).map (·.size) = some cs.length) := ⟨by rw [← hcs, List.length_map, FO.out.len]; kernel_rfl⟩
    clear hcs
    have HRG : Aside0 (w5.rangeAt h 4 cs) := ⟨by rw [← HCS.out]; exact range_st HJ5.out.o⟩
    go_wp2_with ((with_reducible refine gate_dst (N := 74) rfl ?_); refine wpList_load_mid rfl 106 (.tmp 73) rfl h 4 rfl cs _ HRG.out Tryd.underlying106 rfl HINFO.out ?_)
    clear HRG
    go_loopw [75] (fun v75 W => ∃ k : Nat, k ≤ 65 ∧ v75 = .int .i64 k ∧ Aside0 (JS w g h { t with l := l2, m := max t.m o.m, c := t.c + o.c, s := plus t.s o.s, st := List.zipWith (· + ·) (t.st.take k) (o.st.take k) ++ t.st.drop k } o W)) (fun v75 _ => 65 - (intOf v75).toNat)
    case atStart => exact ⟨0, by omega, rfl, ⟨by simpa using HJ5.out⟩⟩
    case round =>
      clear HJ5
      obtain ⟨k, hk, rfl, HJ⟩ := hrel
      by_cases hlt : k < 65
      · obtain ⟨x, hx⟩ : ∃ x, o.st.getD k 0 = x := ⟨_, rfl⟩
        obtain ⟨y, hy⟩ : ∃ y, t.st.getD k 0 = y := ⟨_, rfl⟩
        have j0 : ∀ W, (Instr.index 106 (.agg cs.toArray) (.int .i64 k)).run Tryd.prog W = .ok (.int .u64 x) W := fun W => by rw [← HCS.out, ← hx]; exact index106 o.st FO.out.len k hlt W
        have ck := HJ.out.t.ck hlt
        simp only at ck
        rw [zip_at t.st o.st k 65 FT.out.len FO.out.len hlt, hy] at ck
        have fk := blk_frozen HJ.out.t.blk (4 + k)
        have hx5 : (x : Int) ≤ 1000 := by have := FO.out.st k; have := HM.out; omega
        have hy5 : (y : Int) ≤ 1000 := by have := FT.out.st k; have := HN.out; omega
        have HZ := Aside0.mk (zip_put t.st o.st k 65 FT.out.len FO.out.len hlt x y hx hy)
        have HLT := Aside0.mk hlt
        clear hx hy
        go_wp2_with fail
        go_region
        rw [show ((y : Int) + (x : Int)) = ((y + x : Nat) : Int) by omega]
        have HJn : Aside0 (JS w g h { t with l := l2, m := max t.m o.m, c := t.c + o.c, s := plus t.s o.s, st := List.zipWith (· + ·) (t.st.take (k + 1)) (o.st.take (k + 1)) ++ t.st.drop (k + 1) } o (wr.setCell ⟨g, 4 + k, none⟩ (.int .u64 ((y + x : Nat) : Int))).drew) := ⟨by rw [← HZ.out]; exact (HJ.out.put HGH.out (HJ.out.t.sk k (y + x))).drew1⟩
        go_wp2
        go_roundw
        case rel => exact ⟨k + 1, HLT.out, by go_num, HJn⟩
        case measure => have := HLT.out; simp [intOf]; omega
      · obtain rfl : k = 65 := by omega
        have HJ6 : Aside0 (TL wr g (t.join o) ∧ KB g w wr) := ⟨by
          have := HJ.out.t
          rw [HJ'.out]
          rw [List.take_of_length_le (by rw [FT.out.len]; omega), List.take_of_length_le (by rw [FO.out.len]; omega), List.drop_of_length_le (by rw [FT.out.len]; omega), List.append_nil] at this
          rw [← HL2.out] at this
          exact ⟨this, HJ.out.k⟩⟩
        clear HJ
        go_wp2
        go_end0
        exact ⟨rfl, HJ6.out.1, HJ6.out.2⟩
end Go.Proofs.YthimnnnfgangbaaDoor.Ts
