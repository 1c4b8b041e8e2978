/- StatsCounts and StatsJoins, walked: for every input. -/
import Derived.Test.YthimnnnfgangbaaDoorTsI
import Derived.Test.YthimnnnfgangbaaDoorTsP
set_option linter.unusedVariables false
set_option linter.unusedSimpArgs false
namespace Go.Proofs.YthimnnnfgangbaaDoor.Ts
open Go.RowKit Go.Proofs.YthimnnnfgangbaaDoorW.PrintWords Go.Proofs.YthimnnnfgangbaaDoorW.PrintLast Go.Proofs.YthimnnnfgangbaaDoorW.PrintMore Go.Proofs.YthimnnnfgangbaaDoor.Qr
theorem like_nil (q : Int) (w : World) (ht : Tab w) : Calls Tryd.prog 35 #[.pointer none, .slice none 0 0, .int .i64 q] w fun e w' => e = .returned (.bool true) ∧ Below w.heap.size w w' :=
  like_calls [] none 0 none q w ht (.inl ⟨rfl, rfl⟩) (Kd.C_nil kU w) (by decide)
theorem addr_zero' (a : Addr) : a.add 0 = a := by
  unfold Addr.add
  split <;> simp_all
theorem info39 : (Tryd.prog.info? 39).map (·.size) = some 1 := by kernel_rfl
theorem elem67 : Tryd.prog.elem 67 = 39 := by simp [Program.elem, Tryd.underlying67]
theorem cut_hd (A : Option Addr) (n c k : Nat) (hk : k ≤ c) (W : World) : (Instr.slice 67 (.slice A n c) none (some (.int .i64 k)) none).run Tryd.prog W = .ok (.slice A k c) W := by
  obtain ⟨i, hi, hs⟩ := Option.map_eq_some_iff.1 info39
  rw [run_slice_h W 67 A n c (by rw [elem67]; exact Tryd.underlying67) .i64 k (by omega) (by omega), elem67]
  simp [sizeOf, typeInfo, hi, hs, sliced, Result.andThen, addr_zero']
theorem cut_tl (A : Option Addr) (n c k : Nat) (hk : k ≤ n) (W : World) : (Instr.slice 67 (.slice A n c) (some (.int .i64 k)) none none).run Tryd.prog W = .ok (.slice (if c = k then A else A.map (·.add (k * 1))) (n - k) (c - k)) W := by
  obtain ⟨i, hi, hs⟩ := Option.map_eq_some_iff.1 info39
  rw [run_slice_l W 67 A n c (by rw [elem67]; exact Tryd.underlying67) .i64 k (by omega) (by omega), elem67]
  simp [sizeOf, typeInfo, hi, hs, sliced, Result.andThen]
set_option maxHeartbeats 3200000 in
set_option maxRecDepth 100000 in
theorem counts_any (xs : List U64) (A : Option Addr) (c : Nat) (q : Int) (w : World) (ht : Tab w) (hC : Kd.C kU w A xs.length xs) :
    Calls Tryd.prog 8 #[.slice A xs.length c, .int .i64 q] w fun e w' => e = .returned (.bool true) ∧ Below w.heap.size w w' := by
  by_cases hl : 60 < xs.length
  · have h1 : (60 : Int) < (xs.length : Int) := by omega
    clear hl hC ht
    go_enter Tryd.func8, Tryd.ntmps8
    go_wp2_with fail
    refine (awake_calls w).mono ?_
    rintro e w1 ⟨rfl, hb⟩
    go_wp2
    go_ret
    exact ⟨rfl, hb⟩
  · have h1 : ¬ (60 : Int) < (xs.length : Int) := by omega
    have HT := Aside0.mk ht
    have HC := Aside0.mk hC
    have HL : Aside0 (xs.length ≤ 100) := ⟨by omega⟩
    clear hl hC ht
    go_enter Tryd.func8, Tryd.ntmps8
    go_wp2_with fail
    refine (add_nil 1 w).mono ?_
    rintro e w1 ⟨rfl, rfl⟩
    go_wp2_with fail
    refine (of_calls xs A c w HC.out HL.out).mono ?_
    rintro e w1 ⟨rfl, _, hb⟩
    have HB1 := Aside0.mk hb
    clear hb
    go_wp2_with fail
    refine (join_nil (some ⟨w.heap.size, 0, none⟩) w1).mono ?_
    rintro e w2 ⟨rfl, rfl⟩
    go_wp2_with fail
    refine (of_calls xs A c w1 (Kd.C_below HC.out HB1.out) HL.out).mono ?_
    rintro e w2 ⟨rfl, htl, hb⟩
    have HB2 := Aside0.mk (below_step HB1.out hb)
    have HTL := Aside0.mk (show TP w2 (some ⟨w1.heap.size, 0, none⟩) (tal (vals xs)) from .inr ⟨_, rfl, htl⟩)
    obtain ⟨g, hg⟩ : ∃ g, w1.heap.size = g := ⟨_, rfl⟩
    rw [hg] at HTL ⊢
    clear hb htl HB1 hg
    go_wp2_with fail
    refine (like_calls xs A c (some ⟨g, 0, none⟩) q w2 (tab_below HT.out HB2.out) HTL.out (Kd.C_below HC.out HB2.out) HL.out).mono ?_
    rintro e w3 ⟨rfl, hb⟩
    have HB3 := Aside0.mk (below_step HB2.out hb)
    clear hb HB2 HTL
    go_wp2_with fail
    refine (like_nil q w3 (tab_below HT.out HB3.out)).mono ?_
    rintro e w4 ⟨rfl, hb⟩
    have HB4 := Aside0.mk (below_step HB3.out hb)
    clear hb HB3
    go_wp2_with fail
    refine (awake_calls w4).mono ?_
    rintro e w5 ⟨rfl, hb⟩
    have HB5 := Aside0.mk (below_step HB4.out hb)
    clear hb HB4
    go_wp2
    go_ret
    exact ⟨rfl, HB5.out⟩
theorem keepT {w1 W W' : World} (h : True ∧ Aside0 (Below w1.heap.size w1 W)) (hb : Below W.heap.size W W') : True ∧ Aside0 (Below w1.heap.size w1 W') := ⟨trivial, ⟨below_step h.2.out hb⟩⟩
theorem vals_take_drop (xs : List U64) (k : Nat) : vals (xs.take k) ++ vals (xs.drop k) = vals xs := by
  unfold vals
  rw [← List.map_append, List.take_append_drop]
set_option maxHeartbeats 6400000 in
set_option maxRecDepth 100000 in
theorem joins_any (xs : List U64) (A : Option Addr) (c : Nat) (at_ : Int) (q : Int) (w : World) (ht : Tab w) (hC : Kd.C kU w A xs.length xs) (hc : xs.length ≤ c) (ha : 0 ≤ at_ ∧ at_ ≤ 255) :
    Calls Tryd.prog 9 #[.slice A xs.length c, .int .u8 at_, .int .i64 q] w fun e w' => e = .returned (.bool true) ∧ Below w.heap.size w w' := by
  by_cases hl : 60 < xs.length
  · have h1 : (60 : Int) < (xs.length : Int) := by omega
    clear hl hC ht hc ha
    go_enter Tryd.func9, Tryd.ntmps9
    go_wp2_with fail
    refine (awake_calls w).mono ?_
    rintro e w1 ⟨rfl, hb⟩
    go_wp2
    go_ret
    exact ⟨rfl, hb⟩
  · have h1 : ¬ (60 : Int) < (xs.length : Int) := by omega
    have HT := Aside0.mk ht
    have HC := Aside0.mk hC
    have HL : Aside0 (xs.length ≤ 60) := ⟨by omega⟩
    have a0 := ha.1
    have a1 := ha.2
    have n5 : (xs.length : Int) ≤ 60 := by omega
    obtain ⟨k, hk⟩ : ∃ k : Nat, at_ % ((xs.length : Int) + 1) = k := ⟨(at_ % ((xs.length : Int) + 1)).toNat, by
      have := Int.emod_nonneg at_ (show ((xs.length : Int) + 1) ≠ 0 by omega)
      omega⟩
    have HKL : Aside0 (k ≤ xs.length) := ⟨by
      have := Int.emod_lt_of_pos at_ (show 0 < ((xs.length : Int) + 1) by omega)
      omega⟩
    have HK := Aside0.mk hk
    have HCC := Aside0.mk hc
    clear hl hC ht hk ha hc
    go_enter Tryd.func9, Tryd.ntmps9
    go_upto_region 4 with (fail)
    rw [HK.out]
    clear HK a0 a1 h1
    obtain ⟨A2, hA2⟩ : ∃ A2, (if c = k then A else A.map (·.add (k * 1))) = A2 := ⟨_, rfl⟩
    have j0 := fun W => cut_hd A xs.length c k (Nat.le_trans HKL.out HCC.out) W
    have j1 := fun W => cut_tl A xs.length c k HKL.out W
    have HC1 : Aside0 (Kd.C kU w A (xs.take k).length (xs.take k)) := ⟨Kd.C_take HC.out HKL.out⟩
    have HC2 : Aside0 (Kd.C kU w A2 (xs.drop k).length (xs.drop k)) := ⟨by
      have := Kd.C_drop HC.out HKL.out HCC.out
      rw [show kU.sz = 1 from rfl, hA2] at this
      exact this⟩
    rw [hA2] at j1
    have hlt : (xs.take k).length = k := by rw [List.length_take]; have := HKL.out; omega
    have hld : (xs.drop k).length = xs.length - k := List.length_drop
    have OA : Aside0 (∀ W, (True ∧ Aside0 (Below w.heap.size w W)) → Calls Tryd.prog 34 #[.slice A k c] W fun e w' => e = .returned (.pointer (some ⟨W.heap.size, 0, none⟩)) ∧ Aside0 (TL w' W.heap.size (tal (vals (xs.take k)))) ∧ Below W.heap.size W w') := ⟨fun W h => by
      have h1 := of_calls (xs.take k) A c W (Kd.C_below HC1.out h.2.out) (by have := HL.out; have := HKL.out; omega)
      rw [hlt] at h1
      exact h1.mono fun e w' ⟨h1, h2, h3⟩ => ⟨h1, ⟨h2⟩, h3⟩⟩
    have OB : Aside0 (∀ W, (True ∧ Aside0 (Below w.heap.size w W)) → Calls Tryd.prog 34 #[.slice A2 (xs.length - k) (c - k)] W fun e w' => e = .returned (.pointer (some ⟨W.heap.size, 0, none⟩)) ∧ Aside0 (TL w' W.heap.size (tal (vals (xs.drop k)))) ∧ Below W.heap.size W w') := ⟨fun W h => by
      have h1 := of_calls (xs.drop k) A2 (c - k) W (Kd.C_below HC2.out h.2.out) (by have := HL.out; omega)
      rw [hld] at h1
      exact h1.mono fun e w' ⟨h1, h2, h3⟩ => ⟨h1, ⟨h2⟩, h3⟩⟩
    have HTT : Aside0 ((tal (vals (xs.take k))).join (tal (vals (xs.drop k))) = tal (vals xs)) := ⟨by rw [tal_append _ _ (vals_lt _) (vals_lt _), vals_take_drop]⟩
    have HTU : Aside0 ((tal (vals (xs.drop k))).join (tal (vals (xs.take k))) = tal (vals xs)) := ⟨by rw [tal_append' _ _ (vals_lt _) (vals_lt _), vals_take_drop]⟩
    have FA : Aside0 (Fine (tal (vals (xs.take k))) k) := ⟨by have := fine_tal (vals (xs.take k)) (vals_lt _); rw [vals_len, hlt] at this; exact this⟩
    have FB : Aside0 (Fine (tal (vals (xs.drop k))) (xs.length - k)) := ⟨by have := fine_tal (vals (xs.drop k)) (vals_lt _); rw [vals_len, hld] at this; exact this⟩
    have HLD := Aside0.mk hld
    obtain ⟨ta, hta⟩ : ∃ t, tal (vals (xs.take k)) = t := ⟨_, rfl⟩
    obtain ⟨tb, htb⟩ : ∃ t, tal (vals (xs.drop k)) = t := ⟨_, rfl⟩
    have HTB := Aside0.mk htb
    rw [hta] at OA HTT HTU FA
    rw [htb] at OB HTT HTU FB
    have k0 : (0 : Int) ≤ k := by omega
    clear hA2 hlt hld hta htb
    go_cut [8, 9] (fun v8 v9 wx => ∃ ga gb, v8 = .pointer (some ⟨ga, 0, none⟩) ∧ v9 = .pointer (some ⟨gb, 0, none⟩) ∧ Aside0 (ga ≠ gb ∧ w.heap.size ≤ ga ∧ w.heap.size ≤ gb) ∧ Aside0 (TL wx ga ta) ∧ Aside0 (TL wx gb tb) ∧ Aside0 (Below w.heap.size w wx))
    case first =>
      go_region_held3 (fun W => True ∧ Aside0 (Below w.heap.size w W))
        ((first | (with_reducible assumption) | exact ⟨trivial, ⟨below_drew (Below.refl _ _)⟩⟩ | exact ⟨trivial, ⟨Below.refl _ _⟩⟩))
        (first
          | (go_at_call 34; (with_reducible refine (OA.out _ (by with_reducible assumption)).mono ?_); rintro e wA ⟨rfl, htA, hbA⟩; have hS' := keepT (by with_reducible assumption) hbA)
          | (go_at_call 34; (with_reducible refine (OB.out _ (by with_reducible assumption)).mono ?_); rintro e wB ⟨rfl, htB, hbB⟩; have hS' := keepT (by with_reducible assumption) hbB))
      have HNE : Aside0 (w.heap.size ≠ wA.heap.size ∧ w.heap.size ≤ w.heap.size ∧ w.heap.size ≤ wA.heap.size) := ⟨⟨Nat.ne_of_lt (blk_lt htA.out.blk), Nat.le_refl _, Nat.le_of_lt (blk_lt htA.out.blk)⟩⟩
      have HTA2 : Aside0 (TL wB w.heap.size ta) := ⟨htA.out.below hbB⟩
      have HTB2 : Aside0 (TL wB wA.heap.size tb) := htB
      have HBB : Aside0 (Below w.heap.size w wB) := hS'.2
      clear htA hbA htB hbB hS'
      go_wp2_with fail
      go_meet
      exact ⟨_, _, rfl, rfl, HNE, HTA2, HTB2, HBB⟩
    case rest =>
      obtain ⟨ga, gb, rfl, rfl, HNE, HTA, HTB2, HB⟩ := hcut
      go_wp2_with fail
      refine (OB.out wc ⟨trivial, HB⟩).mono ?_
      rintro e w2 ⟨rfl, HTC, hb⟩
      have HNC : Aside0 (ga ≠ wc.heap.size ∧ gb ≠ wc.heap.size ∧ w.heap.size ≤ wc.heap.size) := ⟨⟨Nat.ne_of_lt (blk_lt HTA.out.blk), Nat.ne_of_lt (blk_lt HTB2.out.blk), HB.out.size⟩⟩
      obtain ⟨gc, hgc⟩ : ∃ gc, wc.heap.size = gc := ⟨_, rfl⟩
      rw [hgc] at HTC HNC ⊢
      have HTA1 := Aside0.mk (HTA.out.below hb)
      have HTB1 := Aside0.mk (HTB2.out.below hb)
      have HB2 := Aside0.mk (below_step HB.out hb)
      clear hb hgc HTA HTB2 HB
      go_wp2_with fail
      refine (join_calls ga gb ta tb k (xs.length - k) w2 (Ne.symm HNE.out.1) HTA1.out HTB1.out FA.out FB.out (by have := HL.out; have := HKL.out; omega) (by have := HL.out; omega)).mono ?_
      rintro e w3 ⟨rfl, ht3, hk3⟩
      rw [HTT.out] at ht3
      have HTA3 := Aside0.mk ht3
      have HTB3 := Aside0.mk (HTB1.out.kb hk3 (Ne.symm HNE.out.1))
      have HTC3 := Aside0.mk (HTC.out.kb hk3 (Ne.symm HNC.out.1))
      have HB3 := Aside0.mk (HB2.out.trans (hk3.below HNE.out.2.1 HB2.out.size))
      clear ht3 hk3 HTA1 HTB1 HTC HB2
      go_wp2_with fail
      refine (OA.out w3 ⟨trivial, HB3⟩).mono ?_
      rintro e w4 ⟨rfl, HTD, hb⟩
      have HND : Aside0 (gc ≠ w3.heap.size) := ⟨Nat.ne_of_lt (blk_lt HTC3.out.blk)⟩
      obtain ⟨gd, hgd⟩ : ∃ gd, w3.heap.size = gd := ⟨_, rfl⟩
      rw [hgd] at HTD HND ⊢
      have HTA4 := Aside0.mk (HTA3.out.below hb)
      have HTB4 := Aside0.mk (HTB3.out.below hb)
      have HTC4 := Aside0.mk (HTC3.out.below hb)
      have HB4 := Aside0.mk (below_step HB3.out hb)
      clear hb hgd HTA3 HTB3 HTC3 HB3
      go_wp2_with fail
      refine (join_calls gc gd tb ta (xs.length - k) k w4 (Ne.symm HND.out) HTC4.out HTD.out FB.out FA.out (by have := HL.out; omega) (by have := HL.out; have := HKL.out; omega)).mono ?_
      rintro e w5 ⟨rfl, ht5, hk5⟩
      rw [HTU.out] at ht5
      have HTC5 := Aside0.mk ht5
      have HTA5 := Aside0.mk (HTA4.out.kb hk5 HNC.out.1)
      have HTB5 := Aside0.mk (HTB4.out.kb hk5 HNC.out.2.1)
      have HB5 := Aside0.mk (HB4.out.trans (hk5.below HNC.out.2.2 HB4.out.size))
      clear ht5 hk5 HTA4 HTB4 HTC4 HB4 HTD
      go_wp2_with fail
      refine (join_none ⟨gc, 0, none⟩ w5).mono ?_
      rintro e w6 ⟨rfl, rfl⟩
      go_wp2_with fail
      refine (like_calls xs A c (some ⟨ga, 0, none⟩) q w5 (tab_below HT.out HB5.out) (.inr ⟨ga, rfl, HTA5.out⟩) (Kd.C_below HC.out HB5.out) (by have := HL.out; omega)).mono ?_
      rintro e w6 ⟨rfl, hb⟩
      have HTB6 := Aside0.mk (HTB5.out.below hb)
      have HTC6 := Aside0.mk (HTC5.out.below hb)
      have HB6 := Aside0.mk (below_step HB5.out hb)
      clear hb HTA5 HTB5 HTC5 HB5
      go_wp2_with fail
      refine (like_calls xs A c (some ⟨gc, 0, none⟩) q w6 (tab_below HT.out HB6.out) (.inr ⟨gc, rfl, HTC6.out⟩) (Kd.C_below HC.out HB6.out) (by have := HL.out; omega)).mono ?_
      rintro e w7 ⟨rfl, hb⟩
      have HTB7 := Aside0.mk (HTB6.out.below hb)
      have HB7 := Aside0.mk (below_step HB6.out hb)
      clear hb HTB6 HTC6 HB6
      have HLK : Aside0 (Calls Tryd.prog 35 #[.pointer (some ⟨gb, 0, none⟩), .slice A2 (xs.length - k) (c - k), .int .i64 q] w7 fun e w' => e = .returned (.bool true) ∧ Below w7.heap.size w7 w') := ⟨by
        have h := like_calls (xs.drop k) A2 (c - k) (some ⟨gb, 0, none⟩) q w7 (tab_below HT.out HB7.out) (.inr ⟨gb, rfl, by rw [HTB.out]; exact HTB7.out⟩) (Kd.C_below HC2.out HB7.out) (by rw [HLD.out]; have := HL.out; omega)
        rw [HLD.out] at h
        exact h⟩
      go_wp2_with fail
      refine HLK.out.mono ?_
      rintro e w8 ⟨rfl, hb⟩
      have HB8 := Aside0.mk (below_step HB7.out hb)
      clear hb HTB7 HB7 HLK
      go_wp2_with fail
      refine (awake_calls w8).mono ?_
      rintro e w9 ⟨rfl, hb⟩
      have HB9 := Aside0.mk (below_step HB8.out hb)
      clear hb HB8
      go_wp2
      go_ret
      exact ⟨rfl, HB9.out⟩
end Go.Proofs.YthimnnnfgangbaaDoor.Ts
