/- Contract of the code's Parse, for every text of bounded length. -/
import Derived.Test.YtagpkphehkfjgaaDoorPxF
set_option linter.unusedVariables false
set_option linter.unusedSimpArgs false
namespace Go.Proofs.YtagpkphehkfjgaaDoor.Px
open Go.RowKit Go.Proofs.YtagpkphehkfjgaaDoorW.PrintWords Go.Proofs.YtagpkphehkfjgaaDoorW.PrintLast Go.Proofs.YtagpkphehkfjgaaDoorW.PrintMore
theorem cut_uniq {a b r s : List UInt8} (ha : (47 : UInt8) ∉ a) (hb : (47 : UInt8) ∉ b) (h : a ++ 47 :: r = b ++ 47 :: s) : a = b ∧ r = s := by
  have h1 := cut_some (r := r) ha
  rw [h, cut_some hb] at h1
  injection h1 with e1 e2
  injection e2 with e2 _
  exact ⟨e1.symm, e2.symm⟩
theorem pd_none {l : List UInt8} (h : (47 : UInt8) ∉ l) : PD l 0 0 2 := Or.inr ⟨rfl, rfl, rfl, fun b m _ _ e => h (by rw [e]; unfold ptext; simp)⟩
/-- What the parts of a text say. -/
theorem pd_addr {a r : List UInt8} (ha : (47 : UInt8) ∉ a) (h : ∀ y, y < 4294967296 → a ≠ dotted y) : PD (a ++ 47 :: r) 0 0 2 := Or.inr ⟨rfl, rfl, rfl, fun b m hb _ e => h b hb (cut_uniq ha (slash_dotted b) e).1⟩
theorem pd_num {a r : List UInt8} (ha : (47 : UInt8) ∉ a) (h : ∀ n, ¬ IsNum r 32 n) : PD (a ++ 47 :: r) 0 0 2 := Or.inr ⟨rfl, rfl, rfl, fun b m hb hm e => h m ⟨(cut_uniq ha (slash_dotted b) e).2, by have := hm.2.1; omega⟩⟩
theorem pd_chk {a r : List UInt8} {x n : Nat} (ha : (47 : UInt8) ∉ a) (hx : a = dotted x) (hn : r = dd n) (h : ¬ May x n) : PD (a ++ 47 :: r) 0 0 2 := Or.inr ⟨rfl, rfl, rfl, fun b m hb hm e => by
  obtain ⟨e1, e2⟩ := cut_uniq ha (slash_dotted b) e
  rw [hx] at e1
  rw [hn] at e2
  rw [dotted_inj e1, dd_inj e2] at h
  exact h hm⟩
theorem pd_ok {a r : List UInt8} {x n : Nat} (hlt : x < 4294967296) (hx : a = dotted x) (hn : r = dd n) (h : May x n) : PD (a ++ 47 :: r) x n 0 := Or.inl ⟨rfl, hlt, h, by rw [hx, hn]; rfl⟩
/-- The parts of any text. -/
theorem parts (l : List UInt8) : ((47 : UInt8) ∉ l ∧ Lib.cut l [47] = (l, [], false)) ∨ ∃ a r, (47 : UInt8) ∉ a ∧ l = a ++ 47 :: r ∧ Lib.cut l [47] = (a, r, true) := by
  rcases idx_cases 47 l with ⟨_, h⟩ | ⟨a, r, e, hn, _⟩
  · exact Or.inl ⟨h, cut_none h⟩
  · exact Or.inr ⟨a, r, hn, e, by rw [e]; exact cut_some hn⟩
/-- What is kept of the world while a prefix is made: its variable and the result's. -/
theorem ad_lt {s : List UInt8} {x e : Nat} (h : AD s x e) : x < 4294967296 := by rcases h with ⟨_, h, _⟩ | ⟨_, rfl, _⟩ <;> omega
theorem K2.cell {w W : World} {gp gr b : Nat} {n : Int} (h : K2 w gp gr b n W) : W.cell? ⟨gp, 0, none⟩ = some (.int .u32 b) ∧ W.cell? ⟨gp, 1, none⟩ = some (.int .i64 n) ∧ W.cell? ⟨gr, 0, none⟩ = some (.int .u32 (0 : Nat)) ∧ W.cell? ⟨gr, 1, none⟩ = some (.int .i64 0) ∧ W.frozen? ⟨gr, 0, none⟩ = false ∧ W.frozen? ⟨gr, 1, none⟩ = false :=
  ⟨pc0 h.1, pc1 h.1, pc0 h.2.1, pc1 h.2.1, blk_frozen h.2.1 0, blk_frozen h.2.1 1⟩
theorem K2.below {w W W' : World} {gp gr b : Nat} {n : Int} (h : K2 w gp gr b n W) (hb : Below W.heap.size W W') : K2 w gp gr b n W' :=
  ⟨blk_below h.1 hb, blk_below h.2.1 hb, h.2.2.1, h.2.2.2.1, h.2.2.2.2.1, below_step h.2.2.2.2.2 hb⟩
/-- The end: the result's variable written, and read. -/
theorem K2.end {w W : World} {gp gr b : Nat} {n : Int} (h : K2 w gp gr b n W) (c : Nat) (m : Int) : ((W.setCell ⟨gr, 0, none⟩ (.int .u32 c)).setCell ⟨gr, 1, none⟩ (.int .i64 m)).heap[gr]? = some (.cells #[.int .u32 c, .int .i64 m] 24 (0, 0)) ∧ Below w.heap.size w ((W.setCell ⟨gr, 0, none⟩ (.int .u32 c)).setCell ⟨gr, 1, none⟩ (.int .i64 m)) :=
  ⟨blk_put (blk_put h.2.1 0 _ rfl) 1 _ rfl, (h.2.2.2.2.2.setCell (p := ⟨gr, 0, none⟩) h.2.2.2.1 _).setCell (p := ⟨gr, 1, none⟩) h.2.2.2.1 _⟩
set_option maxHeartbeats 1600000 in
set_option maxRecDepth 100000 in
theorem parse_calls (l : List UInt8) (w : World) (hl : l.length ≤ 100000) (hg : Gl w) :
    Calls Tryd.prog 17 #[Sv l] w fun e w' => (∃ x n er, e = .returned (.tuple #[pv x (n : Nat), .int .i64 (er : Nat)]) ∧ PD l x n er) ∧ Below w.heap.size w w' := by
  have HG := Aside0.mk hg
  have HL := Aside0.mk hl
  have HR : Aside0 (∃ a r ok, Lib.cut l [47] = (a, r, ok) ∧ a.length ≤ 100000 ∧ r.length ≤ 100000) := ⟨by
    rcases parts l with ⟨_, h⟩ | ⟨a, r, _, e, h⟩
    · exact ⟨_, _, _, h, hl, by simp⟩
    · have := congrArg List.length e
      simp at this
      exact ⟨_, _, _, h, by omega, by omega⟩⟩
  obtain ⟨a, r, ok, hc, ha, hr⟩ := HR.out
  have HC := Aside0.mk hc
  have HA := Aside0.mk ha
  have HRR := Aside0.mk hr
  clear HR hc ha hr hl hg
  go_enter Tryd.func17, Tryd.ntmps17
  go_upto_region 1 with (fail)
  obtain ⟨gr, hgr⟩ : ∃ gr, w.heap.size = gr := ⟨_, rfl⟩
  rw [hgr]
  refine wp_world (fun W => W.heap[gr]? = some (.cells #[.int .u32 (0 : Nat), .int .i64 0] 24 (0, 0)) ∧ w.heap.size ≤ gr ∧ gr < W.heap.size ∧ Below w.heap.size w W) (by
    subst hgr
    exact ⟨blk_new w _, Nat.le_refl _, by simp, below_alloc (Below.refl _ _) _⟩) ?_
  clear hgr
  rintro w1 ⟨h1, h2, h3, h4⟩
  have HBR := Aside0.mk h1
  have HGE := Aside0.mk h2
  have HB := Aside0.mk h4
  have HG1 := Aside0.mk (HG.out.below h4)
  clear h1 h2 h3 h4 HG
  go_wp2_with fail
  refine (scut_calls l 47 w1 HL.out HG1.out).mono ?_
  rw [HC.out]
  rintro e w2 ⟨rfl, hb⟩
  have HG2 := Aside0.mk (HG1.out.below hb)
  have HBR2 := Aside0.mk (blk_below HBR.out hb)
  have HB2 := Aside0.mk (below_step HB.out hb)
  clear hb HBR HB HG1
  go_wp2_with fail
  refine (address_calls a w2 HA.out HG2.out).mono ?_
  rintro e w3 ⟨⟨x, er, rfl, had⟩, hb⟩
  have HG3 := Aside0.mk (HG2.out.below hb)
  have HBR3 := Aside0.mk (blk_below HBR2.out hb)
  have HB3 := Aside0.mk (below_step HB2.out hb)
  have HAD := Aside0.mk had
  clear hb HBR2 HB2 HG2 had
  go_wp2_with fail
  refine (number_calls r 32 w3 HRR.out (by omega) HG3.out).mono ?_
  rintro e w4 ⟨⟨v, b, rfl, hnd⟩, hb⟩
  have HG4 := Aside0.mk (HG3.out.below hb)
  have HBR4 := Aside0.mk (blk_below HBR3.out hb)
  have HB4 := Aside0.mk (below_step HB3.out hb)
  have HND := Aside0.mk hnd
  clear hb HBR3 HB3 HG3 hnd
  go_upto_region 5 with (fail)
  obtain ⟨gp, hgp⟩ : ∃ gp, w4.heap.size = gp := ⟨_, rfl⟩
  rw [hgp]
  refine wp_world (fun W => K2 w gp gr x v W ∧ Gl W) (by
    have h1 := blk_lt HBR4.out
    have h2 := HB4.out.size
    have h3 := HGE.out
    subst hgp
    exact ⟨⟨blk_new w4 _, blk_alloc HBR4.out _, by omega, HGE.out, h2, below_alloc HB4.out _⟩, HG4.out.below (below_alloc (Below.refl _ _) _)⟩) ?_
  clear hgp HBR4 HB4 HG4
  rintro w5 ⟨hk, hg5⟩
  have HK := Aside0.mk hk
  have HG5 := Aside0.mk hg5
  clear hk hg5
  rcases parts l with ⟨hno, hcut⟩ | ⟨a2, r2, hno, hl2, hcut⟩
  · rw [HC.out] at hcut
    injection hcut with e1 e2
    injection e2 with e2 e3
    subst e1
    subst e2
    subst e3
    have HE := Aside0.mk (pd_none hno)
    clear hno
    clear HND HAD HC
    obtain ⟨k0, k1, r0, r1, f0, f1⟩ := K2.cell HK.out
    go_wp2
    refine bodyPost_ret (results_ct rfl _ _ gr 24 #[.int .u32 (0 : Nat), .int .i64 0] (0, 0) _ rfl (K2.end HK.out 0 0).1 Tryd.underlying24 rfl (by kernel_rfl)) rfl ?_
    exact ⟨⟨0, 0, 2, rfl, HE.out⟩, (K2.end HK.out 0 0).2⟩
  · rw [HC.out] at hcut
    injection hcut with e1 e2
    injection e2 with e2 e3
    subst e1
    subst e2
    subst e3
    rcases HAD.out with ⟨rfl, hx, had⟩ | ⟨rfl, rfl, had⟩
    · rcases HND.out with ⟨rfl, n, hn, rfl⟩ | ⟨rfl, hnn⟩
      · have HX := Aside0.mk hx
        by_cases hm : May x n
        · have HE := Aside0.mk (pd_ok hx had hn.1 hm)
          rw [← hl2] at HE
          have H0 : Aside0 (chk x n = 0) := ⟨by unfold chk; rw [if_pos hm]⟩
          clear HND HAD HC had hn hm hno hl2 hx
          obtain ⟨k0, k1, r0, r1, f0, f1⟩ := K2.cell HK.out
          go_wp2_with fail
          refine (check_calls x n _ HX.out).mono ?_
          rw [H0.out]
          rintro e w6 ⟨rfl, hb⟩
          have HK6 := Aside0.mk (HK.out.below hb)
          clear hb HK k0 k1 r0 r1 f0 f1
          obtain ⟨k0, k1, r0, r1, f0, f1⟩ := K2.cell HK6.out
          go_wp2
          refine bodyPost_ret (results_ct rfl _ _ gr 24 #[.int .u32 (x : Nat), .int .i64 n] (0, 0) _ rfl (K2.end HK6.out x n).1 Tryd.underlying24 rfl (by kernel_rfl)) rfl ?_
          exact ⟨⟨x, n, 0, rfl, HE.out⟩, (K2.end HK6.out x n).2⟩
        · have HE := Aside0.mk (pd_chk hno had hn.1 hm)
          rw [← hl2] at HE
          have H0 : Aside0 (chk x n = 1) := ⟨by unfold chk; rw [if_neg hm]⟩
          clear HND HAD HC had hn hm hno hl2 hx
          obtain ⟨k0, k1, r0, r1, f0, f1⟩ := K2.cell HK.out
          go_wp2_with fail
          refine (check_calls x n _ HX.out).mono ?_
          rw [H0.out]
          rintro e w6 ⟨rfl, hb⟩
          have HK6 := Aside0.mk (HK.out.below hb)
          clear hb HK k0 k1 r0 r1 f0 f1
          obtain ⟨k0, k1, r0, r1, f0, f1⟩ := K2.cell HK6.out
          go_wp2
          refine bodyPost_ret (results_ct rfl _ _ gr 24 #[.int .u32 (0 : Nat), .int .i64 0] (0, 0) _ rfl (K2.end HK6.out 0 0).1 Tryd.underlying24 rfl (by kernel_rfl)) rfl ?_
          exact ⟨⟨0, 0, 2, rfl, HE.out⟩, (K2.end HK6.out 0 0).2⟩
      · have HE := Aside0.mk (pd_num hno hnn)
        rw [← hl2] at HE
        clear had hnn hno hl2 hx
        clear HND HAD HC
        obtain ⟨k0, k1, r0, r1, f0, f1⟩ := K2.cell HK.out
        go_wp2
        refine bodyPost_ret (results_ct rfl _ _ gr 24 #[.int .u32 (0 : Nat), .int .i64 0] (0, 0) _ rfl (K2.end HK.out 0 0).1 Tryd.underlying24 rfl (by kernel_rfl)) rfl ?_
        exact ⟨⟨0, 0, 2, rfl, HE.out⟩, (K2.end HK.out 0 0).2⟩
    · have HE := Aside0.mk (pd_addr (r := r) hno had)
      rw [← hl2] at HE
      clear had hno hl2
      clear HND HAD HC
      obtain ⟨k0, k1, r0, r1, f0, f1⟩ := K2.cell HK.out
      go_wp2
      refine bodyPost_ret (results_ct rfl _ _ gr 24 #[.int .u32 (0 : Nat), .int .i64 0] (0, 0) _ rfl (K2.end HK.out 0 0).1 Tryd.underlying24 rfl (by kernel_rfl)) rfl ?_
      exact ⟨⟨0, 0, 2, rfl, HE.out⟩, (K2.end HK.out 0 0).2⟩
end Go.Proofs.YtagpkphehkfjgaaDoor.Px
