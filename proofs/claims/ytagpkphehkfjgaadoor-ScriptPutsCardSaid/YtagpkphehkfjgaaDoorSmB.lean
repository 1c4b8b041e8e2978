/- Contracts of the reference's number, digit and tear. Contract of the reference's tear. Contract of the reference's guess, for each kind without tears. Contract of the reference's guess. Contracts of the reference's guess (joined) and in; what is read of tears and acts. Contract of the reference's Same on bytes. Contract of the reference's Hex. Contract of the reference's word. Contract of the reference's nums. -/
import Derived.Test.YtagpkphehkfjgaaDoorSmA
import Derived.Deep.RegionHeld3
set_option linter.unusedVariables false
set_option linter.unusedSimpArgs false
namespace Go.Proofs.YtagpkphehkfjgaaDoor.Sc
open Go.RowKit Go.Proofs.YtagpkphehkfjgaaDoorW.PrintWords Go.Proofs.YtagpkphehkfjgaaDoorW.PrintLast Go.Proofs.YtagpkphehkfjgaaDoorW.PrintMore Go.Proofs.YtagpkphehkfjgaaDoor.Px
theorem pow11 : (10 : Nat) ^ 11 = 100000000000 := rfl
theorem rnum_lt12 (l : List UInt8) {k : Nat} (h : k ≤ 11) : ((rnum k l : Nat) : Int) < 100000000000 := by
  have h1 := rnum_lt l k
  have h2 : 10 ^ k ≤ 10 ^ 11 := Nat.pow_le_pow_right (by omega) h
  rw [pow11] at h2
  omega
theorem num_step (r x : Nat) (hr : (r : Int) < 100000000000) (h1 : 48 ≤ x) (h2 : x ≤ 57) : wrap64 (wrap64 (10 * (r : Int)) + ((x : Int) - 48)) = (((10 * r + (x - 48) : Nat)) : Int) := by
  unfold wrap64
  omega
set_option maxHeartbeats 1600000 in
set_option maxRecDepth 100000 in
theorem gnumber_calls (gw c : Nat) (ws : List (List UInt8)) (i : Nat) (w : World) (hw : WR w gw 0 ws) (hi : i ≤ 100) :
    Calls Tryd.prog 84 #[.slice (some ⟨gw, 0, none⟩) ws.length c, .int .i64 (i : Int)] w fun e w' => e = .returned (.int .i64 ((gnum ws i : Nat) : Int)) ∧ w' = w := by
  have HLN : Aside0 (ws.length ≤ 100000) := ⟨hw.n⟩
  by_cases hl : i < ws.length
  · obtain ⟨l, hl2⟩ : ∃ l, ws[i]? = some l := ⟨_, List.getElem?_eq_getElem hl⟩
    have c0 : w.cell? ⟨gw, i, none⟩ = some (Sv l) := by have := hw.c i l hl2; rwa [Nat.zero_add] at this
    have HLL : Aside0 (l.length ≤ 100000) := ⟨hw.l l (List.mem_of_getElem? hl2)⟩
    have HGN : Aside0 (gnum ws i = rnum 11 l) := ⟨by unfold gnum; rw [hl2]⟩
    have e0 : decide ((ws.length : Int) ≤ (i : Int)) = false := decide_eq_false (by omega)
    have e1 : (i : Int) < (ws.length : Int) := by omega
    rw [HGN.out]
    clear hl hl2 hw
    go_enter Tryd.func84, Tryd.ntmps84
    go_wp2
    go_loop [5, 6] (fun v5 v6 => ∃ k : Nat, k ≤ l.length ∧ k ≤ 11 ∧ v5 = .int .i64 (rnum k l : Nat) ∧ v6 = .int .i64 k) (fun _ v6 => 11 - (intOf v6).toNat)
    case atStart => exact ⟨0, by omega, by omega, rfl, rfl⟩
    case round =>
      obtain ⟨k, hk, hk4, rfl, rfl⟩ := hrel
      by_cases h1 : k < l.length
      · have d1 : decide ((k : Int) < (l.length : Int)) = true := decide_eq_true (by omega)
        by_cases h2 : k < 11
        · have d2 : decide ((k : Int) < 11) = true := decide_eq_true (by omega)
          obtain ⟨b, hb⟩ : ∃ b, l[k]? = some b := ⟨_, List.getElem?_eq_getElem h1⟩
          have hki : (k : Int) < (l.length : Int) := by omega
          have hbv : ∀ h : k < (⟨l.toArray⟩ : ByteArray).size, (⟨l.toArray⟩ : ByteArray)[k]'h = b := fun h => Option.some.inj ((List.getElem?_eq_getElem h1).symm.trans hb)
          have HS := Aside0.mk (rnum_succ k hb)
          have HR : Aside0 (((rnum k l : Nat) : Int) < 100000000000) := ⟨rnum_lt12 l hk4⟩
          obtain ⟨r, hr⟩ : ∃ r, rnum k l = r := ⟨_, rfl⟩
          rw [hr] at HS HR
          rw [hr]
          obtain ⟨x, hx⟩ : ∃ x, b.toNat = x := ⟨_, rfl⟩
          have HX : Aside0 (nstep r b = if 48 ≤ x ∧ x ≤ 57 then 10 * r + (x - 48) else r) := ⟨by rw [← hx]; rfl⟩
          clear hb
          by_cases c1 : 48 ≤ x
          · have g1 : (48 : Int) ≤ (x : Int) := by omega
            by_cases c2 : x ≤ 57
            · have g2 : (x : Int) ≤ 57 := by omega
              have HV : Aside0 (wrap64 (wrap64 (10 * (r : Int)) + ((x : Int) - 48)) = ((rnum (k + 1) l : Nat) : Int)) := ⟨by
                rw [HS.out, HX.out, if_pos ⟨c1, c2⟩]
                exact num_step r x HR.out c1 c2⟩
              go_wp2
              go_roundw
              case rel => exact ⟨k + 1, by omega, by omega, by rw [HV.out], by go_num⟩
              case measure => simp [intOf]; omega
            · have g2 : ¬ (x : Int) ≤ 57 := by omega
              have HV : Aside0 (r = rnum (k + 1) l) := ⟨by rw [HS.out, HX.out, if_neg (by omega)]⟩
              go_wp2
              go_roundw
              case rel => exact ⟨k + 1, by omega, by omega, by rw [← HV.out], by go_num⟩
              case measure => simp [intOf]; omega
          · have g1 : ¬ (48 : Int) ≤ (x : Int) := by omega
            have HV : Aside0 (r = rnum (k + 1) l) := ⟨by rw [HS.out, HX.out, if_neg (by omega)]⟩
            go_wp2
            go_roundw
            case rel => exact ⟨k + 1, by omega, by omega, by rw [← HV.out], by go_num⟩
            case measure => simp [intOf]; omega
        · obtain rfl : k = 11 := by omega
          go_wp2
          go_ret
          exact ⟨rfl, rfl⟩
      · obtain rfl : k = l.length := by omega
        have HE : Aside0 (rnum l.length l = rnum 11 l) := ⟨by unfold rnum; rw [List.take_of_length_le (Nat.le_refl _), List.take_of_length_le hk4]⟩
        go_wp2
        go_ret
        exact ⟨by rw [← HE.out]; rfl, rfl⟩
  · have e1 : decide (ws.length ≤ i) = true := decide_eq_true (by omega)
    have HGN : Aside0 (gnum ws i = 0) := ⟨by unfold gnum; rw [List.getElem?_eq_none (by omega)]⟩
    have e0 : decide ((ws.length : Int) ≤ (i : Int)) = true := decide_eq_true (by omega)
    rw [HGN.out]
    clear hl hw
    go_enter Tryd.func84, Tryd.ntmps84
    go_wp2
    go_ret
    exact ⟨rfl, rfl⟩
set_option maxRecDepth 100000 in
theorem dg_fin2 : ∀ c : Fin 256, ((dg (UInt8.ofNat c.1)).toNat : Int) = if 97 ≤ c.1 then ((c.1 : Int) - 87) % 256 else ((c.1 : Int) - 48) % 256 := by decide
theorem dg_int (c : UInt8) : ((dg c).toNat : Int) = if 97 ≤ c.toNat then ((c.toNat : Int) - 87) % 256 else ((c.toNat : Int) - 48) % 256 := by
  have := dg_fin2 ⟨c.toNat, c.toNat_lt⟩
  simpa using this
theorem digit_calls (c : UInt8) (w : World) : Calls Tryd.prog 106 #[.int .u8 (c.toNat : Int)] w fun e w' => e = .returned (.int .u8 ((dg c).toNat : Int)) ∧ w' = w := by
  have HD := Aside0.mk (dg_int c)
  have HC : Aside0 (c.toNat < 256) := ⟨c.toNat_lt⟩
  obtain ⟨x, hx⟩ : ∃ x, c.toNat = x := ⟨_, rfl⟩
  rw [hx] at HD HC
  rw [hx]
  obtain ⟨d, hd⟩ : ∃ d, (dg c).toNat = d := ⟨_, rfl⟩
  rw [hd] at HD
  rw [hd]
  clear hx hd
  by_cases h : 97 ≤ x
  · have e0 : decide ((97 : Int) ≤ (x : Int)) = true := decide_eq_true (by omega)
    have HE : Aside0 (IntKind.u8.wrap ((x : Int) - 87) = (d : Int)) := ⟨by rw [HD.out, if_pos h]; rfl⟩
    clear h
    go_enter Tryd.func106, Tryd.ntmps106
    go_wp2
    go_ret
    exact ⟨by rw [← HE.out]; rfl, rfl⟩
  · have e0 : decide ((97 : Int) ≤ (x : Int)) = false := decide_eq_false (by omega)
    have HE : Aside0 (IntKind.u8.wrap ((x : Int) - 48) = (d : Int)) := ⟨by rw [HD.out, if_neg h]; rfl⟩
    clear h
    go_enter Tryd.func106, Tryd.ntmps106
    go_wp2
    go_ret
    exact ⟨by rw [← HE.out]; rfl, rfl⟩
end Go.Proofs.YtagpkphehkfjgaaDoor.Sc

namespace Go.Proofs.YtagpkphehkfjgaaDoor.Sc
open Go.RowKit Go.Proofs.YtagpkphehkfjgaaDoorW.PrintWords Go.Proofs.YtagpkphehkfjgaaDoorW.PrintLast Go.Proofs.YtagpkphehkfjgaaDoorW.PrintMore Go.Proofs.YtagpkphehkfjgaaDoor.Px
theorem unhex_len : ∀ m : List UInt8, (unhex m).length = m.length / 2
  | [] => rfl
  | [x] => by simp [unhex]
  | x :: y :: r => by
    have ih := unhex_len r
    unfold unhex
    simp only [List.length_cons]
    omega
theorem unhex_get : ∀ (m : List UInt8) (j : Nat) (x y : UInt8), m[2 * j]? = some x → m[2 * j + 1]? = some y → (unhex m)[j]? = some (dg x * 16 + dg y)
  | [], j, x, y, h, _ => by simp at h
  | [_], j, x, y, _, h => by simp at h
  | a :: b :: r, 0, x, y, h1, h2 => by
    simp at h1 h2
    subst h1 h2
    unfold unhex
    rfl
  | a :: b :: r, j + 1, x, y, h1, h2 => by
    have ih := unhex_get r j x y (by rw [show 2 * (j + 1) = 2 * j + 1 + 1 by omega] at h1; simpa using h1) (by rw [show 2 * (j + 1) + 1 = 2 * j + 1 + 1 + 1 by omega] at h2; simpa using h2)
    unfold unhex
    simpa using ih
theorem dg_add (x y : UInt8) : (((dg x).toNat : Int) * 16 % 256 + ((dg y).toNat : Int)) % 256 = ((dg x * 16 + dg y).toNat : Int) := by
  rw [UInt8.toNat_add, UInt8.toNat_mul]
  simp
theorem info5x : ∃ i, Tryd.prog.info? 5 = some i ∧ i.zero = some (.int .u8 0) ∧ i.size = 1 ∧ i.bytes = 1 := by
  obtain ⟨i, h1, h2⟩ := Option.map_eq_some_iff.1 info5
  simp only [Prod.mk.injEq] at h2
  exact ⟨i, h1, h2⟩
theorem kb_sz : kb.sz = 1 := rfl
/-- append(bytes, byte), a step of a region that draws. -/
theorem step_app5 {ops : Array Oper} {o : Oper} {a : Go.Act} {K : Go.Act → World → Prop} {Q : Exit → Go.Act → World → Prop} {X : Prop} {W : World} (B : Nat) (ok : Nat → Prop) (v : Value) (xs : List UInt8) (p : UInt8) (bp : Nat) (hgd : o.guard = none) (s x : Operand)
    (ho : o.op = .call { callee := .builtin .append, args := #[s, x], argTypes := #[75, 75] }) (hs : a.eval s = v) (hx : a.eval x = .slice (some ⟨bp, 0, none⟩) 1 1)
    (hR : RB W B ok v xs) (hfresh : ∀ k, W.heap.size ≤ k → ok k) (hnew : W.heap[bp]? = some (.cells #[.int .u8 (p.toNat : Int)] 5 (0, 0))) (hBs : B ≤ W.heap.size) (hl : xs.length ≤ 1000000)
    (h : ∀ g cap w', RB w' B ok (.slice (some ⟨g, 0, none⟩) (xs.length + 1) cap) (xs ++ [p]) → W.grownBy w' v.ownBlock → (v.ownBlock = some g ∨ g = W.heap.size) → K (a.put o.dst (.slice (some ⟨g, 0, none⟩) (xs.length + 1) cap)) w') :
    if Region.wanted o (yielded ops a.tmps) = true then Oper.wp Tryd.prog o a W K Q else X := by
  obtain ⟨i, hi, hz, hsz, hby⟩ := info5x
  obtain ⟨h0, inner, hown, hr⟩ := hR
  refine step_append_lies _ hgd s x 75 ho B 5 i _ 1 1 Tryd.underlying75 hi hz hsz hby rfl (by decide) v xs.length inner hs (kb_sz ▸ hown) ⟨bp, 0, none⟩ 1 1 [.int .u8 (p.toNat : Int)] hx rfl (World.news_of_block hnew) (by simp [Value.oneCell']) (by decide) (by simp only [maxLen]; omega) (by omega) hBs _ rfl ?_
  intro g cap w' hown' hg hat hlt
  have hR' := Kd.R_appended (d := kb) (e := 5) (base := B) (ok := ok) (okp := fun _ => False) (v1 := .slice (some ⟨g, 0, none⟩) (xs.length + 1) cap) (cs := [.int .u8 (p.toNat : Int)]) h0 hr (kb_M _ _ _ p) (fun _ hk => hk.elim) hfresh (kb_sz ▸ hown') hg (by
    rcases hat with hat | hat
    · exact .inl hat.symm
    · exact .inr ⟨g, rfl, by omega⟩)
  exact h g cap w' hR' hg hat
theorem rb_own {w : World} {base : Nat} {ok : Nat → Prop} {v : Value} {l : List UInt8} (h : RB w base ok v l) (k : Nat) (hk : v.ownBlock = some k) : base ≤ k ∧ k < w.heap.size := by
  obtain ⟨inner, ho⟩ := Kd.R_own h
  exact ⟨own_base ho k hk, own_lt ho k hk⟩
theorem TS.below {w W W' : World} {gr gt : Nat} {bl : List UInt8} {v : Value} (h : TS w gr gt bl v W) (hb : Below W.heap.size W W') : TS w gr gt bl v W' :=
  ⟨blk_below h.r hb, blk_below h.t hb, Kd.R_below h.o hb, h.n, h.gr, h.gt, below_step h.b hb⟩
theorem TS.grown {w wr W W2 : World} {gr gt : Nat} {bl bl2 : List UInt8} {v v2 : Value} (h : TS w gr gt bl v wr) (hg : W.grownBy W2 v.ownBlock) (hb : Below wr.heap.size wr W) (hR : RB W2 w.heap.size (fun k => k ≠ gt ∧ k ≠ gr) v2 bl2) : TS w gr gt bl2 v2 (W2.setCell ⟨gt, 1, none⟩ v2) ∧ B77 W2 gt 2 v := by
  have h4 := h.below hb
  exact ⟨TS.step h4 hR (below_grown h4.b h4.b.size hg (fun k hk => (rb_own h4.o k hk).1)) hg, blk_grown h4.t hg (fun e => (h4.o.1 gt e.symm).1 rfl)⟩
def GTPost (l : List UInt8) (w : World) (e : Ending) (w' : World) : Prop := ∃ v, e = .returned (.agg #[.int .i64 (tearG l).k, v]) ∧ RB w' w.heap.size (fun _ => True) v (tearG l).b ∧ Below w.heap.size w w'
theorem gt_mk {l : List UInt8} {w w' : World} {e : Ending} {t : Tear} (v : Value) (ht : tearG l = t) (he : e = .returned (.agg #[.int .i64 t.k, v])) (hr : RB w' w.heap.size (fun _ => True) v t.b) (hb : Below w.heap.size w w') : GTPost l w e w' := by
  subst ht
  exact ⟨v, he, hr, hb⟩
set_option maxHeartbeats 1600000 in
set_option maxRecDepth 100000 in
theorem gtear_calls (l : List UInt8) (w : World) (hl : l.length ≤ 100000) : Calls Tryd.prog 85 #[Sv l] w (GTPost l w) := by
  have HL := Aside0.mk hl
  clear hl
  by_cases h1 : l = [108, 111, 115, 116]
  · have hq1 : (l == [108, 111, 115, 116]) = true := beq_iff_eq.2 h1
    have HT : Aside0 (tearG l = ⟨0, []⟩) := ⟨by unfold tearG; rw [if_pos h1]⟩
    clear h1
    go_enter Tryd.func85, Tryd.ntmps85
    go_upto_region 1 with (fail)
    obtain ⟨gr, hgr⟩ : ∃ gr, w.heap.size = gr := ⟨_, rfl⟩
    rw [hgr]
    refine wp_world (fun W => B77 W gr 0 (.slice none 0 0) ∧ w.heap.size ≤ gr ∧ Below w.heap.size w W) (by
      subst hgr
      exact ⟨blk_new w _, Nat.le_refl _, below_alloc (Below.refl _ _) _⟩) ?_
    clear hgr
    rintro w1 ⟨h1, h2, h3⟩
    have HBR := Aside0.mk h1
    have HGE := Aside0.mk h2
    have HB := Aside0.mk h3
    clear h1 h2 h3
    have r0 := HBR.out.c0
    have r1 := HBR.out.c1
    have f0 := blk_frozen HBR.out 0
    have f1 := blk_frozen HBR.out 1
    go_wp2
    refine bodyPost_ret (results_cell_row rfl _ _ gr 77 #[.int .i64 0, .slice none 0 0] (0, 0) _ rfl (blk_put (blk_put HBR.out 0 _ rfl) 1 _ rfl) Tryd.underlying77 rfl (by kernel_rfl)) rfl ?_
    exact gt_mk _ HT.out rfl (rb_nil _ _ _) ((HB.out.setCell (p := ⟨gr, 0, none⟩) HGE.out _).setCell (p := ⟨gr, 1, none⟩) HGE.out _)
  · have hq1 : (l == [108, 111, 115, 116]) = false := beq_eq_false_iff_ne.2 h1
    by_cases h2 : l = [107, 101, 112, 116]
    · have hq2 : (l == [107, 101, 112, 116]) = true := beq_iff_eq.2 h2
      have HT : Aside0 (tearG l = ⟨1, []⟩) := ⟨by unfold tearG; rw [if_neg h1, if_pos h2]⟩
      clear h1 h2
      go_enter Tryd.func85, Tryd.ntmps85
      go_upto_region 1 with (fail)
      obtain ⟨gr, hgr⟩ : ∃ gr, w.heap.size = gr := ⟨_, rfl⟩
      rw [hgr]
      refine wp_world (fun W => B77 W gr 0 (.slice none 0 0) ∧ w.heap.size ≤ gr ∧ Below w.heap.size w W) (by
        subst hgr
        exact ⟨blk_new w _, Nat.le_refl _, below_alloc (Below.refl _ _) _⟩) ?_
      clear hgr
      rintro w1 ⟨h1, h2, h3⟩
      have HBR := Aside0.mk h1
      have HGE := Aside0.mk h2
      have HB := Aside0.mk h3
      clear h1 h2 h3
      have r0 := HBR.out.c0
      have r1 := HBR.out.c1
      have f0 := blk_frozen HBR.out 0
      have f1 := blk_frozen HBR.out 1
      go_wp2
      refine bodyPost_ret (results_cell_row rfl _ _ gr 77 #[.int .i64 1, .slice none 0 0] (0, 0) _ rfl (blk_put (blk_put HBR.out 0 _ rfl) 1 _ rfl) Tryd.underlying77 rfl (by kernel_rfl)) rfl ?_
      exact gt_mk _ HT.out rfl (rb_nil _ _ _) ((HB.out.setCell (p := ⟨gr, 0, none⟩) HGE.out _).setCell (p := ⟨gr, 1, none⟩) HGE.out _)
    · have hq2 : (l == [107, 101, 112, 116]) = false := beq_eq_false_iff_ne.2 h2
      obtain ⟨m, hm⟩ : ∃ m, l.drop 1 = m := ⟨_, rfl⟩
      have HM := Aside0.mk hm
      have HML : Aside0 (m.length = l.length - 1) := ⟨by rw [← hm, List.length_drop]⟩
      have HT : Aside0 (tearG l = ⟨2, unhex m⟩) := ⟨by unfold tearG; rw [if_neg h1, if_neg h2, hm]⟩
      clear h1 h2 hm
      go_enter Tryd.func85, Tryd.ntmps85
      go_upto_region 1 with (fail)
      obtain ⟨gr, hgr⟩ : ∃ gr, w.heap.size = gr := ⟨_, rfl⟩
      rw [hgr]
      refine wp_world (fun W => B77 W gr 0 (.slice none 0 0) ∧ w.heap.size ≤ gr ∧ Below w.heap.size w W) (by
        subst hgr
        exact ⟨blk_new w _, Nat.le_refl _, below_alloc (Below.refl _ _) _⟩) ?_
      clear hgr
      rintro w1 ⟨h1, h2, h3⟩
      have HBR := Aside0.mk h1
      have HGE := Aside0.mk h2
      have HB := Aside0.mk h3
      clear h1 h2 h3
      go_upto_region 6 with (fail)
      obtain ⟨gt, hgt⟩ : ∃ gt, w1.heap.size = gt := ⟨_, rfl⟩
      rw [hgt]
      refine wp_world (TS w gr gt [] (.slice none 0 0)) (by
        have h1 := blk_lt HBR.out
        have h2 := HB.out.size
        have h3 := HGE.out
        subst hgt
        exact ⟨blk_alloc HBR.out _, blk_new w1 _, rb_nil _ _ _, by omega, HGE.out, by omega, below_alloc HB.out _⟩) ?_
      clear hgt HBR HB HGE hq1 hq2
      intro w3 hts
      have HTS := Aside0.mk hts
      clear hts
      go_wp2
      go_loopw [4] (fun v4 W => ∃ (j : Nat) (v : Value), j ≤ (unhex m).length ∧ v4 = .int .i64 ((1 + 2 * j : Nat) : Int) ∧ Aside0 (TS w gr gt ((unhex m).take j) v W)) (fun v4 _ => l.length + 5 - (intOf v4).toNat)
      case atStart => exact ⟨0, _, by omega, rfl, by simpa using HTS⟩
      case round =>
        clear HTS
        obtain ⟨j, v, hj, rfl, HTS⟩ := hrel
        have hul := unhex_len m
        have hml := HML.out
        have hll := HL.out
        obtain ⟨i, hi⟩ : ∃ i, 1 + 2 * j = i := ⟨_, rfl⟩
        have HI := Aside0.mk hi
        rw [hi]
        obtain ⟨A, cv, ev⟩ := Kd.R_slice HTS.out.o
        subst ev
        by_cases hlt : i + 1 < l.length
        · have d0 : decide ((i : Int) + 1 < (l.length : Int)) = true := decide_eq_true (by omega)
          have hjm : j < (unhex m).length := by omega
          have hk1 : (i : Int) < (l.length : Int) := by omega
          have hk2 : (i : Int) + 1 < (l.length : Int) := by omega
          have hk3 : (i : Int) ≤ 100000 := by omega
          have hk4 : (0 : Int) ≤ (i : Int) + 1 := by omega
          have hi1 : i < l.length := by omega
          obtain ⟨x, hx⟩ : ∃ x, l[i]? = some x := ⟨_, List.getElem?_eq_getElem hi1⟩
          obtain ⟨y, hy⟩ : ∃ y, l[i + 1]? = some y := ⟨_, List.getElem?_eq_getElem hlt⟩
          have hbx : ∀ hh : i < (⟨l.toArray⟩ : ByteArray).size, (⟨l.toArray⟩ : ByteArray)[i]'hh = x := fun hh => Option.some.inj ((List.getElem?_eq_getElem hi1).symm.trans hx)
          have hby : ∀ hh : i + 1 < (⟨l.toArray⟩ : ByteArray).size, (⟨l.toArray⟩ : ByteArray)[i + 1]'hh = y := fun hh => Option.some.inj ((List.getElem?_eq_getElem hlt).symm.trans hy)
          have HXS : Aside0 ((unhex m).take (j + 1) = (unhex m).take j ++ [dg x * 16 + dg y]) := ⟨by
            rw [List.take_add_one, unhex_get m j x y (by rw [← HM.out, List.getElem?_drop, show 1 + 2 * j = i from hi]; exact hx) (by rw [← HM.out, List.getElem?_drop, show 1 + (2 * j + 1) = i + 1 by omega]; exact hy)]
            rfl⟩
          have HCV : Aside0 (IntKind.u8.wrap (IntKind.u8.wrap (((dg x).toNat : Int) * 16) + ((dg y).toNat : Int)) = ((dg x * 16 + dg y).toNat : Int)) := ⟨by rw [IntKind.wrap_u8, IntKind.wrap_u8]; exact dg_add x y⟩
          have HBL : Aside0 (((unhex m).take j).length ≤ 100000) := ⟨by rw [List.length_take]; omega⟩
          have HJ : Aside0 (j < (unhex m).length) := ⟨hjm⟩
          obtain ⟨bl, hbl⟩ : ∃ bl, (unhex m).take j = bl := ⟨_, rfl⟩
          rw [hbl] at HTS HXS HBL
          clear hx hy hul hml hll hi hjm hbl hj hlt hi1
          have t1 := HTS.out.t.c1
          have l0 := blk_lt HTS.out.t
          have hwr : IntKind.i64.wrap ((i : Int) + 1) = (i : Int) + 1 := IntWalk.i64_in _ ⟨by omega, by omega⟩
          go_upto_region 9 with (fail)
          go_region_law (first
            | (refine step_app5 w.heap.size (fun k => k ≠ gt ∧ k ≠ gr) (.slice A bl.length cv) bl (dg x * 16 + dg y) wr.heap.size rfl (.tmp 20) (.tmp 32) rfl (by simp [Go.Act.eval, Go.Act.put]) (by simp [Go.Act.eval, Go.Act.put]) (by (with_reducible repeat (first | apply Kd.R_alloc | apply Kd.R_drewN | apply Kd.R_drew)); exact HTS.out.o) (by have h1 := blk_lt HTS.out.t; have h2 := blk_lt HTS.out.r; intro k hk; simp at hk; exact ⟨by omega, by omega⟩) (by rw [← HCV.out]; first | exact blk_new _ _ | exact blk_drewN (blk_new _ _) _ | exact blk_drew (blk_new _ _)) (by have := HTS.out.b.size; simp; omega) (by have := HBL.out; omega) ?_; intro g2 cap w5 hR hgr hat; have HXB := Aside0.mk (HTS.out.grown hgr (by repeat (first | (with_reducible first | exact Below.refl _ _ | apply below_alloc | apply pw_below_drewN | apply below_drew1) | apply below_drew)) hR); have hbk : B77 w5 gt 2 (.slice A bl.length cv) := HXB.out.2; have c9 := hbk.c1; have f9 := blk_frozen hbk 1; clear hR hgr hat hbk)
            | (go_simp; go_at_call 106; (with_reducible refine (digit_calls x _).mono ?_); rintro e w6 ⟨rfl, rfl⟩; go_wp2_with fail)
            | (go_simp; go_at_call 106; (with_reducible refine (digit_calls y _).mono ?_); rintro e w6 ⟨rfl, rfl⟩; go_wp2_with fail))
          all_goals
            have HX9 := Aside0.mk HXB.out.1
            have hj2 : (i : Int) + 2 ≤ 200000 := by omega
            clear t1 l0 c9 f9 HXB HTS
            go_wp2
            go_roundw
            case rel => exact ⟨j + 1, _, by have := HJ.out; omega, by have := HI.out; congr 1; omega, by rw [HXS.out]; exact HX9⟩
            case measure => simp [intOf]; omega
        · have d0 : decide ((i : Int) + 1 < (l.length : Int)) = false := decide_eq_false (by omega)
          obtain rfl : j = (unhex m).length := by omega
          have hkk : (i : Int) ≤ 200000 := by omega
          have r0 := HTS.out.r.c0
          have r1 := HTS.out.r.c1
          have f0 := blk_frozen HTS.out.r 0
          have f1 := blk_frozen HTS.out.r 1
          have t0 := HTS.out.t.c0
          have t1 := HTS.out.t.c1
          have HTE : Aside0 (tearG l = ⟨2, (unhex m).take (unhex m).length⟩) := ⟨by rw [HT.out, List.take_of_length_le (Nat.le_refl _)]⟩
          obtain ⟨bl, hbl⟩ : ∃ bl, (unhex m).take (unhex m).length = bl := ⟨_, rfl⟩
          rw [hbl] at HTS HTE t1
          clear hul hml hll hi hlt hbl
          go_wp2
          refine bodyPost_ret (results_cell_row rfl _ _ gr 77 #[.int .i64 2, .slice A bl.length cv] (0, 0) _ rfl (blk_put (blk_put HTS.out.r 0 _ rfl) 1 _ rfl) Tryd.underlying77 rfl (by kernel_rfl)) rfl ?_
          exact gt_mk _ HTE.out rfl (Kd.R_mono (Kd.R_far (Kd.R_far HTS.out.o (p := ⟨gr, 0, none⟩) (fun k hk => hk.2) _) (p := ⟨gr, 1, none⟩) (fun k hk => hk.2) _) (fun _ _ => trivial)) ((HTS.out.b.setCell (p := ⟨gr, 0, none⟩) HTS.out.gr _).setCell (p := ⟨gr, 1, none⟩) HTS.out.gr _)
end Go.Proofs.YtagpkphehkfjgaaDoor.Sc

namespace Go.Proofs.YtagpkphehkfjgaaDoor.Sc
open Go.RowKit Go.Proofs.YtagpkphehkfjgaaDoorW.PrintWords Go.Proofs.YtagpkphehkfjgaaDoorW.PrintLast Go.Proofs.YtagpkphehkfjgaaDoorW.PrintMore Go.Proofs.YtagpkphehkfjgaaDoor.Px
theorem gnumber_z (gw c : Nat) (ws : List (List UInt8)) (i : Nat) (z : Int) (w : World) (hw : WR w gw 0 ws) (hi : i ≤ 100) (hz : z = (i : Int)) :
    Calls Tryd.prog 84 #[.slice (some ⟨gw, 0, none⟩) ws.length c, .int .i64 z] w fun e w' => e = .returned (.int .i64 ((gnum ws i : Nat) : Int)) ∧ w' = w := by
  subst hz
  exact gnumber_calls gw c ws i w hw hi
def GuPost (ws : List (List UInt8)) (k : Int) (w : World) (e : Ending) (w' : World) : Prop := ∃ v, e = .returned (actV (guessL ws k) v) ∧ RT w' w.heap.size (fun _ => True) v (guessL ws k).t ∧ Below w.heap.size w w'
theorem gu_mk {ws : List (List UInt8)} {k : Int} {w w' : World} {e : Ending} {a : Act} (v : Value) (ha : guessL ws k = a) (he : e = .returned (actV a v)) (hr : RT w' w.heap.size (fun _ => True) v a.t) (hb : Below w.heap.size w w') : GuPost ws k w e w' := by
  subst ha
  exact ⟨v, he, hr, hb⟩
set_option maxHeartbeats 1600000 in
set_option maxRecDepth 100000 in
theorem guess_1 (gw c : Nat) (ws : List (List UInt8)) (w : World) (hw : WR w gw 0 ws) : Calls Tryd.prog 66 #[.slice (some ⟨gw, 0, none⟩) ws.length c, .int .i64 1] w (GuPost ws 1 w) := by
  have HW := Aside0.mk hw
  clear hw
  have HG : Aside0 (guessL ws 1 = ⟨1, gnum ws 1, 0, 0, 0, 0, []⟩) := ⟨by unfold guessL; simp [zAct]⟩
  go_enter Tryd.func66, Tryd.ntmps66
  go_upto_region 1 with (fail)
  obtain ⟨gr, hgr⟩ : ∃ gr, w.heap.size = gr := ⟨_, rfl⟩
  rw [hgr]
  refine wp_world (fun W => Aside0 (B60 W gr zAct (.slice none 0 0)) ∧ Aside0 (w.heap.size ≤ gr) ∧ Aside0 (Below w.heap.size w W)) (by
    subst hgr
    exact ⟨⟨blk_new w _⟩, ⟨Nat.le_refl _⟩, ⟨below_alloc (Below.refl _ _) _⟩⟩) ?_
  clear hgr
  rintro w1 ⟨HBR, HGE, HB⟩
  have HW1 := Aside0.mk (HW.out.below HB.out)
  go_upto_region 2 with (first | (go_at_call 84; (with_reducible refine (gnumber_z gw c ws 1 1 _ HW1.out (by omega) rfl).mono ?_); rintro e w2 ⟨rfl, hw2⟩; have hw2 := hw2.symm; subst hw2))
  obtain ⟨ga, hga⟩ : ∃ ga, w1.heap.size = ga := ⟨_, rfl⟩
  refine wp_world (fun W => Aside0 (B60 W ga { zAct with k := 1, a := gnum ws 1 } (.slice none 0 0)) ∧ Aside0 (B60 W gr zAct (.slice none 0 0)) ∧ Aside0 (w.heap.size ≤ ga) ∧ Aside0 (gr ≠ ga) ∧ Aside0 (WR W gw 0 ws) ∧ Aside0 (Below w.heap.size w W)) (by
    have h1 := blk_lt HBR.out
    have h2 := HB.out.size
    subst hga
    exact ⟨⟨blk_new w1 _⟩, ⟨blk_alloc HBR.out _⟩, ⟨h2⟩, ⟨by omega⟩, ⟨HW1.out.below (below_alloc (Below.refl _ _) _)⟩, ⟨below_alloc HB.out _⟩⟩) ?_
  rw [hga]
  clear hga HBR HB HW1
  rintro w3 ⟨HBA, HBR, HGA, HNE, HW3, HB3⟩
  obtain ⟨r0, r1, r2, r3, r4, r5, r6⟩ := HBR.out.all
  obtain ⟨f0, f1, f2, f3, f4, f5, f6⟩ := HBR.out.frz
  obtain ⟨s0, s1, s2, s3, s4, s5, s6⟩ := HBA.out.all
  obtain ⟨g0, g1, g2, g3, g4, g5, g6⟩ := HBA.out.frz
  simp only [zAct] at s0 s1 s2 s3 s4 s5 s6
  have hne : gr ≠ ga := HNE.out
  go_wp2_with (first | (go_at_call 84; (with_reducible refine (gnumber_z gw c ws 2 2 _ HW3.out (by omega) rfl).mono ?_); rintro e w2 ⟨rfl, hw2⟩; have hw2 := hw2.symm; subst hw2) | (go_at_call 84; (with_reducible refine (gnumber_z gw c ws 3 3 _ HW3.out (by omega) rfl).mono ?_); rintro e w2 ⟨rfl, hw2⟩; have hw2 := hw2.symm; subst hw2) | (go_at_call 84; (with_reducible refine (gnumber_z gw c ws 4 4 _ HW3.out (by omega) rfl).mono ?_); rintro e w2 ⟨rfl, hw2⟩; have hw2 := hw2.symm; subst hw2))
  refine bodyPost_ret (results_cell_row rfl _ _ gr 60 #[.int .i64 1, .int .i64 ((gnum ws 1 : Nat) : Int), .int .i64 0, .int .i64 0, .int .i64 0, .int .i64 0, .slice none 0 0] (0, 0) _ rfl (put7_blk (HBR.out) (⟨1, gnum ws 1, 0, 0, 0, 0, []⟩ : Act) _) Tryd.underlying60 rfl (by kernel_rfl)) rfl ?_
  exact gu_mk _ HG.out rfl (Kd.R_nil _ _ _ _ _) (put7_below (HB3.out) HGE.out (⟨1, gnum ws 1, 0, 0, 0, 0, []⟩ : Act) _)
set_option maxHeartbeats 1600000 in
set_option maxRecDepth 100000 in
theorem guess_2 (gw c : Nat) (ws : List (List UInt8)) (w : World) (hw : WR w gw 0 ws) : Calls Tryd.prog 66 #[.slice (some ⟨gw, 0, none⟩) ws.length c, .int .i64 2] w (GuPost ws 2 w) := by
  have HW := Aside0.mk hw
  clear hw
  have HG : Aside0 (guessL ws 2 = ⟨2, gnum ws 1, gnum ws 2, 0, gnum ws 3, gnum ws 4, []⟩) := ⟨by unfold guessL; simp [zAct]⟩
  go_enter Tryd.func66, Tryd.ntmps66
  go_upto_region 1 with (fail)
  obtain ⟨gr, hgr⟩ : ∃ gr, w.heap.size = gr := ⟨_, rfl⟩
  rw [hgr]
  refine wp_world (fun W => Aside0 (B60 W gr zAct (.slice none 0 0)) ∧ Aside0 (w.heap.size ≤ gr) ∧ Aside0 (Below w.heap.size w W)) (by
    subst hgr
    exact ⟨⟨blk_new w _⟩, ⟨Nat.le_refl _⟩, ⟨below_alloc (Below.refl _ _) _⟩⟩) ?_
  clear hgr
  rintro w1 ⟨HBR, HGE, HB⟩
  have HW1 := Aside0.mk (HW.out.below HB.out)
  go_upto_region 2 with (first | (go_at_call 84; (with_reducible refine (gnumber_z gw c ws 1 1 _ HW1.out (by omega) rfl).mono ?_); rintro e w2 ⟨rfl, hw2⟩; have hw2 := hw2.symm; subst hw2))
  obtain ⟨ga, hga⟩ : ∃ ga, w1.heap.size = ga := ⟨_, rfl⟩
  refine wp_world (fun W => Aside0 (B60 W ga { zAct with k := 2, a := gnum ws 1 } (.slice none 0 0)) ∧ Aside0 (B60 W gr zAct (.slice none 0 0)) ∧ Aside0 (w.heap.size ≤ ga) ∧ Aside0 (gr ≠ ga) ∧ Aside0 (WR W gw 0 ws) ∧ Aside0 (Below w.heap.size w W)) (by
    have h1 := blk_lt HBR.out
    have h2 := HB.out.size
    subst hga
    exact ⟨⟨blk_new w1 _⟩, ⟨blk_alloc HBR.out _⟩, ⟨h2⟩, ⟨by omega⟩, ⟨HW1.out.below (below_alloc (Below.refl _ _) _)⟩, ⟨below_alloc HB.out _⟩⟩) ?_
  rw [hga]
  clear hga HBR HB HW1
  rintro w3 ⟨HBA, HBR, HGA, HNE, HW3, HB3⟩
  obtain ⟨r0, r1, r2, r3, r4, r5, r6⟩ := HBR.out.all
  obtain ⟨f0, f1, f2, f3, f4, f5, f6⟩ := HBR.out.frz
  obtain ⟨s0, s1, s2, s3, s4, s5, s6⟩ := HBA.out.all
  obtain ⟨g0, g1, g2, g3, g4, g5, g6⟩ := HBA.out.frz
  simp only [zAct] at s0 s1 s2 s3 s4 s5 s6
  have hne : gr ≠ ga := HNE.out
  go_wp2_with (first | (go_at_call 84; (with_reducible refine (gnumber_z gw c ws 2 2 _ HW3.out (by omega) rfl).mono ?_); rintro e w2 ⟨rfl, hw2⟩; have hw2 := hw2.symm; subst hw2) | (go_at_call 84; (with_reducible refine (gnumber_z gw c ws 3 3 _ HW3.out (by omega) rfl).mono ?_); rintro e w2 ⟨rfl, hw2⟩; have hw2 := hw2.symm; subst hw2) | (go_at_call 84; (with_reducible refine (gnumber_z gw c ws 4 4 _ HW3.out (by omega) rfl).mono ?_); rintro e w2 ⟨rfl, hw2⟩; have hw2 := hw2.symm; subst hw2))
  refine bodyPost_ret (results_cell_row rfl _ _ gr 60 #[.int .i64 2, .int .i64 ((gnum ws 1 : Nat) : Int), .int .i64 ((gnum ws 2 : Nat) : Int), .int .i64 0, .int .i64 ((gnum ws 3 : Nat) : Int), .int .i64 ((gnum ws 4 : Nat) : Int), .slice none 0 0] (0, 0) _ rfl (put7_blk (blk_far (p := ⟨ga, 5, none⟩) (blk_far (p := ⟨ga, 4, none⟩) (blk_far (p := ⟨ga, 2, none⟩) (HBR.out) hne _) hne _) hne _) (⟨2, gnum ws 1, gnum ws 2, 0, gnum ws 3, gnum ws 4, []⟩ : Act) _) Tryd.underlying60 rfl (by kernel_rfl)) rfl ?_
  exact gu_mk _ HG.out rfl (Kd.R_nil _ _ _ _ _) (put7_below (below_set (below_set (below_set (HB3.out) HGA.out 2 _) HGA.out 4 _) HGA.out 5 _) HGE.out (⟨2, gnum ws 1, gnum ws 2, 0, gnum ws 3, gnum ws 4, []⟩ : Act) _)
set_option maxHeartbeats 1600000 in
set_option maxRecDepth 100000 in
theorem guess_3 (gw c : Nat) (ws : List (List UInt8)) (w : World) (hw : WR w gw 0 ws) : Calls Tryd.prog 66 #[.slice (some ⟨gw, 0, none⟩) ws.length c, .int .i64 3] w (GuPost ws 3 w) := by
  have HW := Aside0.mk hw
  clear hw
  have HG : Aside0 (guessL ws 3 = ⟨3, gnum ws 1, gnum ws 2, 0, 0, 0, []⟩) := ⟨by unfold guessL; simp [zAct]⟩
  go_enter Tryd.func66, Tryd.ntmps66
  go_upto_region 1 with (fail)
  obtain ⟨gr, hgr⟩ : ∃ gr, w.heap.size = gr := ⟨_, rfl⟩
  rw [hgr]
  refine wp_world (fun W => Aside0 (B60 W gr zAct (.slice none 0 0)) ∧ Aside0 (w.heap.size ≤ gr) ∧ Aside0 (Below w.heap.size w W)) (by
    subst hgr
    exact ⟨⟨blk_new w _⟩, ⟨Nat.le_refl _⟩, ⟨below_alloc (Below.refl _ _) _⟩⟩) ?_
  clear hgr
  rintro w1 ⟨HBR, HGE, HB⟩
  have HW1 := Aside0.mk (HW.out.below HB.out)
  go_upto_region 2 with (first | (go_at_call 84; (with_reducible refine (gnumber_z gw c ws 1 1 _ HW1.out (by omega) rfl).mono ?_); rintro e w2 ⟨rfl, hw2⟩; have hw2 := hw2.symm; subst hw2))
  obtain ⟨ga, hga⟩ : ∃ ga, w1.heap.size = ga := ⟨_, rfl⟩
  refine wp_world (fun W => Aside0 (B60 W ga { zAct with k := 3, a := gnum ws 1 } (.slice none 0 0)) ∧ Aside0 (B60 W gr zAct (.slice none 0 0)) ∧ Aside0 (w.heap.size ≤ ga) ∧ Aside0 (gr ≠ ga) ∧ Aside0 (WR W gw 0 ws) ∧ Aside0 (Below w.heap.size w W)) (by
    have h1 := blk_lt HBR.out
    have h2 := HB.out.size
    subst hga
    exact ⟨⟨blk_new w1 _⟩, ⟨blk_alloc HBR.out _⟩, ⟨h2⟩, ⟨by omega⟩, ⟨HW1.out.below (below_alloc (Below.refl _ _) _)⟩, ⟨below_alloc HB.out _⟩⟩) ?_
  rw [hga]
  clear hga HBR HB HW1
  rintro w3 ⟨HBA, HBR, HGA, HNE, HW3, HB3⟩
  obtain ⟨r0, r1, r2, r3, r4, r5, r6⟩ := HBR.out.all
  obtain ⟨f0, f1, f2, f3, f4, f5, f6⟩ := HBR.out.frz
  obtain ⟨s0, s1, s2, s3, s4, s5, s6⟩ := HBA.out.all
  obtain ⟨g0, g1, g2, g3, g4, g5, g6⟩ := HBA.out.frz
  simp only [zAct] at s0 s1 s2 s3 s4 s5 s6
  have hne : gr ≠ ga := HNE.out
  go_wp2_with (first | (go_at_call 84; (with_reducible refine (gnumber_z gw c ws 2 2 _ HW3.out (by omega) rfl).mono ?_); rintro e w2 ⟨rfl, hw2⟩; have hw2 := hw2.symm; subst hw2) | (go_at_call 84; (with_reducible refine (gnumber_z gw c ws 3 3 _ HW3.out (by omega) rfl).mono ?_); rintro e w2 ⟨rfl, hw2⟩; have hw2 := hw2.symm; subst hw2) | (go_at_call 84; (with_reducible refine (gnumber_z gw c ws 4 4 _ HW3.out (by omega) rfl).mono ?_); rintro e w2 ⟨rfl, hw2⟩; have hw2 := hw2.symm; subst hw2))
  refine bodyPost_ret (results_cell_row rfl _ _ gr 60 #[.int .i64 3, .int .i64 ((gnum ws 1 : Nat) : Int), .int .i64 ((gnum ws 2 : Nat) : Int), .int .i64 0, .int .i64 0, .int .i64 0, .slice none 0 0] (0, 0) _ rfl (put7_blk (blk_far (p := ⟨ga, 2, none⟩) (HBR.out) hne _) (⟨3, gnum ws 1, gnum ws 2, 0, 0, 0, []⟩ : Act) _) Tryd.underlying60 rfl (by kernel_rfl)) rfl ?_
  exact gu_mk _ HG.out rfl (Kd.R_nil _ _ _ _ _) (put7_below (below_set (HB3.out) HGA.out 2 _) HGE.out (⟨3, gnum ws 1, gnum ws 2, 0, 0, 0, []⟩ : Act) _)
set_option maxHeartbeats 1600000 in
set_option maxRecDepth 100000 in
theorem guess_4 (gw c : Nat) (ws : List (List UInt8)) (w : World) (hw : WR w gw 0 ws) : Calls Tryd.prog 66 #[.slice (some ⟨gw, 0, none⟩) ws.length c, .int .i64 4] w (GuPost ws 4 w) := by
  have HW := Aside0.mk hw
  clear hw
  have HG : Aside0 (guessL ws 4 = ⟨4, gnum ws 1, 0, 0, 0, 0, []⟩) := ⟨by unfold guessL; simp [zAct]⟩
  go_enter Tryd.func66, Tryd.ntmps66
  go_upto_region 1 with (fail)
  obtain ⟨gr, hgr⟩ : ∃ gr, w.heap.size = gr := ⟨_, rfl⟩
  rw [hgr]
  refine wp_world (fun W => Aside0 (B60 W gr zAct (.slice none 0 0)) ∧ Aside0 (w.heap.size ≤ gr) ∧ Aside0 (Below w.heap.size w W)) (by
    subst hgr
    exact ⟨⟨blk_new w _⟩, ⟨Nat.le_refl _⟩, ⟨below_alloc (Below.refl _ _) _⟩⟩) ?_
  clear hgr
  rintro w1 ⟨HBR, HGE, HB⟩
  have HW1 := Aside0.mk (HW.out.below HB.out)
  go_upto_region 2 with (first | (go_at_call 84; (with_reducible refine (gnumber_z gw c ws 1 1 _ HW1.out (by omega) rfl).mono ?_); rintro e w2 ⟨rfl, hw2⟩; have hw2 := hw2.symm; subst hw2))
  obtain ⟨ga, hga⟩ : ∃ ga, w1.heap.size = ga := ⟨_, rfl⟩
  refine wp_world (fun W => Aside0 (B60 W ga { zAct with k := 4, a := gnum ws 1 } (.slice none 0 0)) ∧ Aside0 (B60 W gr zAct (.slice none 0 0)) ∧ Aside0 (w.heap.size ≤ ga) ∧ Aside0 (gr ≠ ga) ∧ Aside0 (WR W gw 0 ws) ∧ Aside0 (Below w.heap.size w W)) (by
    have h1 := blk_lt HBR.out
    have h2 := HB.out.size
    subst hga
    exact ⟨⟨blk_new w1 _⟩, ⟨blk_alloc HBR.out _⟩, ⟨h2⟩, ⟨by omega⟩, ⟨HW1.out.below (below_alloc (Below.refl _ _) _)⟩, ⟨below_alloc HB.out _⟩⟩) ?_
  rw [hga]
  clear hga HBR HB HW1
  rintro w3 ⟨HBA, HBR, HGA, HNE, HW3, HB3⟩
  obtain ⟨r0, r1, r2, r3, r4, r5, r6⟩ := HBR.out.all
  obtain ⟨f0, f1, f2, f3, f4, f5, f6⟩ := HBR.out.frz
  obtain ⟨s0, s1, s2, s3, s4, s5, s6⟩ := HBA.out.all
  obtain ⟨g0, g1, g2, g3, g4, g5, g6⟩ := HBA.out.frz
  simp only [zAct] at s0 s1 s2 s3 s4 s5 s6
  have hne : gr ≠ ga := HNE.out
  go_wp2_with (first | (go_at_call 84; (with_reducible refine (gnumber_z gw c ws 2 2 _ HW3.out (by omega) rfl).mono ?_); rintro e w2 ⟨rfl, hw2⟩; have hw2 := hw2.symm; subst hw2) | (go_at_call 84; (with_reducible refine (gnumber_z gw c ws 3 3 _ HW3.out (by omega) rfl).mono ?_); rintro e w2 ⟨rfl, hw2⟩; have hw2 := hw2.symm; subst hw2) | (go_at_call 84; (with_reducible refine (gnumber_z gw c ws 4 4 _ HW3.out (by omega) rfl).mono ?_); rintro e w2 ⟨rfl, hw2⟩; have hw2 := hw2.symm; subst hw2))
  refine bodyPost_ret (results_cell_row rfl _ _ gr 60 #[.int .i64 4, .int .i64 ((gnum ws 1 : Nat) : Int), .int .i64 0, .int .i64 0, .int .i64 0, .int .i64 0, .slice none 0 0] (0, 0) _ rfl (put7_blk (HBR.out) (⟨4, gnum ws 1, 0, 0, 0, 0, []⟩ : Act) _) Tryd.underlying60 rfl (by kernel_rfl)) rfl ?_
  exact gu_mk _ HG.out rfl (Kd.R_nil _ _ _ _ _) (put7_below (HB3.out) HGE.out (⟨4, gnum ws 1, 0, 0, 0, 0, []⟩ : Act) _)
set_option maxHeartbeats 1600000 in
set_option maxRecDepth 100000 in
theorem guess_5 (gw c : Nat) (ws : List (List UInt8)) (w : World) (hw : WR w gw 0 ws) : Calls Tryd.prog 66 #[.slice (some ⟨gw, 0, none⟩) ws.length c, .int .i64 5] w (GuPost ws 5 w) := by
  have HW := Aside0.mk hw
  clear hw
  have HG : Aside0 (guessL ws 5 = ⟨5, gnum ws 1, gnum ws 2, gnum ws 3, 0, 0, []⟩) := ⟨by unfold guessL; simp [zAct]⟩
  go_enter Tryd.func66, Tryd.ntmps66
  go_upto_region 1 with (fail)
  obtain ⟨gr, hgr⟩ : ∃ gr, w.heap.size = gr := ⟨_, rfl⟩
  rw [hgr]
  refine wp_world (fun W => Aside0 (B60 W gr zAct (.slice none 0 0)) ∧ Aside0 (w.heap.size ≤ gr) ∧ Aside0 (Below w.heap.size w W)) (by
    subst hgr
    exact ⟨⟨blk_new w _⟩, ⟨Nat.le_refl _⟩, ⟨below_alloc (Below.refl _ _) _⟩⟩) ?_
  clear hgr
  rintro w1 ⟨HBR, HGE, HB⟩
  have HW1 := Aside0.mk (HW.out.below HB.out)
  go_upto_region 2 with (first | (go_at_call 84; (with_reducible refine (gnumber_z gw c ws 1 1 _ HW1.out (by omega) rfl).mono ?_); rintro e w2 ⟨rfl, hw2⟩; have hw2 := hw2.symm; subst hw2))
  obtain ⟨ga, hga⟩ : ∃ ga, w1.heap.size = ga := ⟨_, rfl⟩
  refine wp_world (fun W => Aside0 (B60 W ga { zAct with k := 5, a := gnum ws 1 } (.slice none 0 0)) ∧ Aside0 (B60 W gr zAct (.slice none 0 0)) ∧ Aside0 (w.heap.size ≤ ga) ∧ Aside0 (gr ≠ ga) ∧ Aside0 (WR W gw 0 ws) ∧ Aside0 (Below w.heap.size w W)) (by
    have h1 := blk_lt HBR.out
    have h2 := HB.out.size
    subst hga
    exact ⟨⟨blk_new w1 _⟩, ⟨blk_alloc HBR.out _⟩, ⟨h2⟩, ⟨by omega⟩, ⟨HW1.out.below (below_alloc (Below.refl _ _) _)⟩, ⟨below_alloc HB.out _⟩⟩) ?_
  rw [hga]
  clear hga HBR HB HW1
  rintro w3 ⟨HBA, HBR, HGA, HNE, HW3, HB3⟩
  obtain ⟨r0, r1, r2, r3, r4, r5, r6⟩ := HBR.out.all
  obtain ⟨f0, f1, f2, f3, f4, f5, f6⟩ := HBR.out.frz
  obtain ⟨s0, s1, s2, s3, s4, s5, s6⟩ := HBA.out.all
  obtain ⟨g0, g1, g2, g3, g4, g5, g6⟩ := HBA.out.frz
  simp only [zAct] at s0 s1 s2 s3 s4 s5 s6
  have hne : gr ≠ ga := HNE.out
  go_wp2_with (first | (go_at_call 84; (with_reducible refine (gnumber_z gw c ws 2 2 _ HW3.out (by omega) rfl).mono ?_); rintro e w2 ⟨rfl, hw2⟩; have hw2 := hw2.symm; subst hw2) | (go_at_call 84; (with_reducible refine (gnumber_z gw c ws 3 3 _ HW3.out (by omega) rfl).mono ?_); rintro e w2 ⟨rfl, hw2⟩; have hw2 := hw2.symm; subst hw2) | (go_at_call 84; (with_reducible refine (gnumber_z gw c ws 4 4 _ HW3.out (by omega) rfl).mono ?_); rintro e w2 ⟨rfl, hw2⟩; have hw2 := hw2.symm; subst hw2))
  refine bodyPost_ret (results_cell_row rfl _ _ gr 60 #[.int .i64 5, .int .i64 ((gnum ws 1 : Nat) : Int), .int .i64 ((gnum ws 2 : Nat) : Int), .int .i64 ((gnum ws 3 : Nat) : Int), .int .i64 0, .int .i64 0, .slice none 0 0] (0, 0) _ rfl (put7_blk (blk_far (p := ⟨ga, 3, none⟩) (blk_far (p := ⟨ga, 2, none⟩) (HBR.out) hne _) hne _) (⟨5, gnum ws 1, gnum ws 2, gnum ws 3, 0, 0, []⟩ : Act) _) Tryd.underlying60 rfl (by kernel_rfl)) rfl ?_
  exact gu_mk _ HG.out rfl (Kd.R_nil _ _ _ _ _) (put7_below (below_set (below_set (HB3.out) HGA.out 2 _) HGA.out 3 _) HGE.out (⟨5, gnum ws 1, gnum ws 2, gnum ws 3, 0, 0, []⟩ : Act) _)
set_option maxHeartbeats 1600000 in
set_option maxRecDepth 100000 in
theorem guess_6 (gw c : Nat) (ws : List (List UInt8)) (w : World) (hw : WR w gw 0 ws) : Calls Tryd.prog 66 #[.slice (some ⟨gw, 0, none⟩) ws.length c, .int .i64 6] w (GuPost ws 6 w) := by
  have HW := Aside0.mk hw
  clear hw
  have HG : Aside0 (guessL ws 6 = ⟨6, gnum ws 1, gnum ws 2, gnum ws 3, 0, 0, []⟩) := ⟨by unfold guessL; simp [zAct]⟩
  go_enter Tryd.func66, Tryd.ntmps66
  go_upto_region 1 with (fail)
  obtain ⟨gr, hgr⟩ : ∃ gr, w.heap.size = gr := ⟨_, rfl⟩
  rw [hgr]
  refine wp_world (fun W => Aside0 (B60 W gr zAct (.slice none 0 0)) ∧ Aside0 (w.heap.size ≤ gr) ∧ Aside0 (Below w.heap.size w W)) (by
    subst hgr
    exact ⟨⟨blk_new w _⟩, ⟨Nat.le_refl _⟩, ⟨below_alloc (Below.refl _ _) _⟩⟩) ?_
  clear hgr
  rintro w1 ⟨HBR, HGE, HB⟩
  have HW1 := Aside0.mk (HW.out.below HB.out)
  go_upto_region 2 with (first | (go_at_call 84; (with_reducible refine (gnumber_z gw c ws 1 1 _ HW1.out (by omega) rfl).mono ?_); rintro e w2 ⟨rfl, hw2⟩; have hw2 := hw2.symm; subst hw2))
  obtain ⟨ga, hga⟩ : ∃ ga, w1.heap.size = ga := ⟨_, rfl⟩
  refine wp_world (fun W => Aside0 (B60 W ga { zAct with k := 6, a := gnum ws 1 } (.slice none 0 0)) ∧ Aside0 (B60 W gr zAct (.slice none 0 0)) ∧ Aside0 (w.heap.size ≤ ga) ∧ Aside0 (gr ≠ ga) ∧ Aside0 (WR W gw 0 ws) ∧ Aside0 (Below w.heap.size w W)) (by
    have h1 := blk_lt HBR.out
    have h2 := HB.out.size
    subst hga
    exact ⟨⟨blk_new w1 _⟩, ⟨blk_alloc HBR.out _⟩, ⟨h2⟩, ⟨by omega⟩, ⟨HW1.out.below (below_alloc (Below.refl _ _) _)⟩, ⟨below_alloc HB.out _⟩⟩) ?_
  rw [hga]
  clear hga HBR HB HW1
  rintro w3 ⟨HBA, HBR, HGA, HNE, HW3, HB3⟩
  obtain ⟨r0, r1, r2, r3, r4, r5, r6⟩ := HBR.out.all
  obtain ⟨f0, f1, f2, f3, f4, f5, f6⟩ := HBR.out.frz
  obtain ⟨s0, s1, s2, s3, s4, s5, s6⟩ := HBA.out.all
  obtain ⟨g0, g1, g2, g3, g4, g5, g6⟩ := HBA.out.frz
  simp only [zAct] at s0 s1 s2 s3 s4 s5 s6
  have hne : gr ≠ ga := HNE.out
  go_wp2_with (first | (go_at_call 84; (with_reducible refine (gnumber_z gw c ws 2 2 _ HW3.out (by omega) rfl).mono ?_); rintro e w2 ⟨rfl, hw2⟩; have hw2 := hw2.symm; subst hw2) | (go_at_call 84; (with_reducible refine (gnumber_z gw c ws 3 3 _ HW3.out (by omega) rfl).mono ?_); rintro e w2 ⟨rfl, hw2⟩; have hw2 := hw2.symm; subst hw2) | (go_at_call 84; (with_reducible refine (gnumber_z gw c ws 4 4 _ HW3.out (by omega) rfl).mono ?_); rintro e w2 ⟨rfl, hw2⟩; have hw2 := hw2.symm; subst hw2))
  refine bodyPost_ret (results_cell_row rfl _ _ gr 60 #[.int .i64 6, .int .i64 ((gnum ws 1 : Nat) : Int), .int .i64 ((gnum ws 2 : Nat) : Int), .int .i64 ((gnum ws 3 : Nat) : Int), .int .i64 0, .int .i64 0, .slice none 0 0] (0, 0) _ rfl (put7_blk (blk_far (p := ⟨ga, 3, none⟩) (blk_far (p := ⟨ga, 2, none⟩) (HBR.out) hne _) hne _) (⟨6, gnum ws 1, gnum ws 2, gnum ws 3, 0, 0, []⟩ : Act) _) Tryd.underlying60 rfl (by kernel_rfl)) rfl ?_
  exact gu_mk _ HG.out rfl (Kd.R_nil _ _ _ _ _) (put7_below (below_set (below_set (HB3.out) HGA.out 2 _) HGA.out 3 _) HGE.out (⟨6, gnum ws 1, gnum ws 2, gnum ws 3, 0, 0, []⟩ : Act) _)
set_option maxHeartbeats 1600000 in
set_option maxRecDepth 100000 in
theorem guess_7 (gw c : Nat) (ws : List (List UInt8)) (w : World) (hw : WR w gw 0 ws) : Calls Tryd.prog 66 #[.slice (some ⟨gw, 0, none⟩) ws.length c, .int .i64 7] w (GuPost ws 7 w) := by
  have HW := Aside0.mk hw
  clear hw
  have HG : Aside0 (guessL ws 7 = ⟨7, gnum ws 1, gnum ws 2, gnum ws 3, 0, 0, []⟩) := ⟨by unfold guessL; simp [zAct]⟩
  go_enter Tryd.func66, Tryd.ntmps66
  go_upto_region 1 with (fail)
  obtain ⟨gr, hgr⟩ : ∃ gr, w.heap.size = gr := ⟨_, rfl⟩
  rw [hgr]
  refine wp_world (fun W => Aside0 (B60 W gr zAct (.slice none 0 0)) ∧ Aside0 (w.heap.size ≤ gr) ∧ Aside0 (Below w.heap.size w W)) (by
    subst hgr
    exact ⟨⟨blk_new w _⟩, ⟨Nat.le_refl _⟩, ⟨below_alloc (Below.refl _ _) _⟩⟩) ?_
  clear hgr
  rintro w1 ⟨HBR, HGE, HB⟩
  have HW1 := Aside0.mk (HW.out.below HB.out)
  go_upto_region 2 with (first | (go_at_call 84; (with_reducible refine (gnumber_z gw c ws 1 1 _ HW1.out (by omega) rfl).mono ?_); rintro e w2 ⟨rfl, hw2⟩; have hw2 := hw2.symm; subst hw2))
  obtain ⟨ga, hga⟩ : ∃ ga, w1.heap.size = ga := ⟨_, rfl⟩
  refine wp_world (fun W => Aside0 (B60 W ga { zAct with k := 7, a := gnum ws 1 } (.slice none 0 0)) ∧ Aside0 (B60 W gr zAct (.slice none 0 0)) ∧ Aside0 (w.heap.size ≤ ga) ∧ Aside0 (gr ≠ ga) ∧ Aside0 (WR W gw 0 ws) ∧ Aside0 (Below w.heap.size w W)) (by
    have h1 := blk_lt HBR.out
    have h2 := HB.out.size
    subst hga
    exact ⟨⟨blk_new w1 _⟩, ⟨blk_alloc HBR.out _⟩, ⟨h2⟩, ⟨by omega⟩, ⟨HW1.out.below (below_alloc (Below.refl _ _) _)⟩, ⟨below_alloc HB.out _⟩⟩) ?_
  rw [hga]
  clear hga HBR HB HW1
  rintro w3 ⟨HBA, HBR, HGA, HNE, HW3, HB3⟩
  obtain ⟨r0, r1, r2, r3, r4, r5, r6⟩ := HBR.out.all
  obtain ⟨f0, f1, f2, f3, f4, f5, f6⟩ := HBR.out.frz
  obtain ⟨s0, s1, s2, s3, s4, s5, s6⟩ := HBA.out.all
  obtain ⟨g0, g1, g2, g3, g4, g5, g6⟩ := HBA.out.frz
  simp only [zAct] at s0 s1 s2 s3 s4 s5 s6
  have hne : gr ≠ ga := HNE.out
  go_wp2_with (first | (go_at_call 84; (with_reducible refine (gnumber_z gw c ws 2 2 _ HW3.out (by omega) rfl).mono ?_); rintro e w2 ⟨rfl, hw2⟩; have hw2 := hw2.symm; subst hw2) | (go_at_call 84; (with_reducible refine (gnumber_z gw c ws 3 3 _ HW3.out (by omega) rfl).mono ?_); rintro e w2 ⟨rfl, hw2⟩; have hw2 := hw2.symm; subst hw2) | (go_at_call 84; (with_reducible refine (gnumber_z gw c ws 4 4 _ HW3.out (by omega) rfl).mono ?_); rintro e w2 ⟨rfl, hw2⟩; have hw2 := hw2.symm; subst hw2))
  refine bodyPost_ret (results_cell_row rfl _ _ gr 60 #[.int .i64 7, .int .i64 ((gnum ws 1 : Nat) : Int), .int .i64 ((gnum ws 2 : Nat) : Int), .int .i64 ((gnum ws 3 : Nat) : Int), .int .i64 0, .int .i64 0, .slice none 0 0] (0, 0) _ rfl (put7_blk (blk_far (p := ⟨ga, 3, none⟩) (blk_far (p := ⟨ga, 2, none⟩) (HBR.out) hne _) hne _) (⟨7, gnum ws 1, gnum ws 2, gnum ws 3, 0, 0, []⟩ : Act) _) Tryd.underlying60 rfl (by kernel_rfl)) rfl ?_
  exact gu_mk _ HG.out rfl (Kd.R_nil _ _ _ _ _) (put7_below (below_set (below_set (HB3.out) HGA.out 2 _) HGA.out 3 _) HGE.out (⟨7, gnum ws 1, gnum ws 2, gnum ws 3, 0, 0, []⟩ : Act) _)
set_option maxHeartbeats 1600000 in
set_option maxRecDepth 100000 in
theorem guess_8 (gw c : Nat) (ws : List (List UInt8)) (w : World) (hw : WR w gw 0 ws) : Calls Tryd.prog 66 #[.slice (some ⟨gw, 0, none⟩) ws.length c, .int .i64 8] w (GuPost ws 8 w) := by
  have HW := Aside0.mk hw
  clear hw
  have HG : Aside0 (guessL ws 8 = ⟨8, gnum ws 1, 0, gnum ws 2, 0, 0, []⟩) := ⟨by unfold guessL; simp [zAct]⟩
  go_enter Tryd.func66, Tryd.ntmps66
  go_upto_region 1 with (fail)
  obtain ⟨gr, hgr⟩ : ∃ gr, w.heap.size = gr := ⟨_, rfl⟩
  rw [hgr]
  refine wp_world (fun W => Aside0 (B60 W gr zAct (.slice none 0 0)) ∧ Aside0 (w.heap.size ≤ gr) ∧ Aside0 (Below w.heap.size w W)) (by
    subst hgr
    exact ⟨⟨blk_new w _⟩, ⟨Nat.le_refl _⟩, ⟨below_alloc (Below.refl _ _) _⟩⟩) ?_
  clear hgr
  rintro w1 ⟨HBR, HGE, HB⟩
  have HW1 := Aside0.mk (HW.out.below HB.out)
  go_upto_region 2 with (first | (go_at_call 84; (with_reducible refine (gnumber_z gw c ws 1 1 _ HW1.out (by omega) rfl).mono ?_); rintro e w2 ⟨rfl, hw2⟩; have hw2 := hw2.symm; subst hw2))
  obtain ⟨ga, hga⟩ : ∃ ga, w1.heap.size = ga := ⟨_, rfl⟩
  refine wp_world (fun W => Aside0 (B60 W ga { zAct with k := 8, a := gnum ws 1 } (.slice none 0 0)) ∧ Aside0 (B60 W gr zAct (.slice none 0 0)) ∧ Aside0 (w.heap.size ≤ ga) ∧ Aside0 (gr ≠ ga) ∧ Aside0 (WR W gw 0 ws) ∧ Aside0 (Below w.heap.size w W)) (by
    have h1 := blk_lt HBR.out
    have h2 := HB.out.size
    subst hga
    exact ⟨⟨blk_new w1 _⟩, ⟨blk_alloc HBR.out _⟩, ⟨h2⟩, ⟨by omega⟩, ⟨HW1.out.below (below_alloc (Below.refl _ _) _)⟩, ⟨below_alloc HB.out _⟩⟩) ?_
  rw [hga]
  clear hga HBR HB HW1
  rintro w3 ⟨HBA, HBR, HGA, HNE, HW3, HB3⟩
  obtain ⟨r0, r1, r2, r3, r4, r5, r6⟩ := HBR.out.all
  obtain ⟨f0, f1, f2, f3, f4, f5, f6⟩ := HBR.out.frz
  obtain ⟨s0, s1, s2, s3, s4, s5, s6⟩ := HBA.out.all
  obtain ⟨g0, g1, g2, g3, g4, g5, g6⟩ := HBA.out.frz
  simp only [zAct] at s0 s1 s2 s3 s4 s5 s6
  have hne : gr ≠ ga := HNE.out
  go_wp2_with (first | (go_at_call 84; (with_reducible refine (gnumber_z gw c ws 2 2 _ HW3.out (by omega) rfl).mono ?_); rintro e w2 ⟨rfl, hw2⟩; have hw2 := hw2.symm; subst hw2) | (go_at_call 84; (with_reducible refine (gnumber_z gw c ws 3 3 _ HW3.out (by omega) rfl).mono ?_); rintro e w2 ⟨rfl, hw2⟩; have hw2 := hw2.symm; subst hw2) | (go_at_call 84; (with_reducible refine (gnumber_z gw c ws 4 4 _ HW3.out (by omega) rfl).mono ?_); rintro e w2 ⟨rfl, hw2⟩; have hw2 := hw2.symm; subst hw2))
  refine bodyPost_ret (results_cell_row rfl _ _ gr 60 #[.int .i64 8, .int .i64 ((gnum ws 1 : Nat) : Int), .int .i64 0, .int .i64 ((gnum ws 2 : Nat) : Int), .int .i64 0, .int .i64 0, .slice none 0 0] (0, 0) _ rfl (put7_blk (blk_far (p := ⟨ga, 3, none⟩) (HBR.out) hne _) (⟨8, gnum ws 1, 0, gnum ws 2, 0, 0, []⟩ : Act) _) Tryd.underlying60 rfl (by kernel_rfl)) rfl ?_
  exact gu_mk _ HG.out rfl (Kd.R_nil _ _ _ _ _) (put7_below (below_set (HB3.out) HGA.out 3 _) HGE.out (⟨8, gnum ws 1, 0, gnum ws 2, 0, 0, []⟩ : Act) _)
set_option maxHeartbeats 1600000 in
set_option maxRecDepth 100000 in
theorem guess_10 (gw c : Nat) (ws : List (List UInt8)) (w : World) (hw : WR w gw 0 ws) : Calls Tryd.prog 66 #[.slice (some ⟨gw, 0, none⟩) ws.length c, .int .i64 10] w (GuPost ws 10 w) := by
  have HW := Aside0.mk hw
  clear hw
  have HG : Aside0 (guessL ws 10 = ⟨10, gnum ws 1, 0, 0, 0, 0, []⟩) := ⟨by unfold guessL; simp [zAct]⟩
  go_enter Tryd.func66, Tryd.ntmps66
  go_upto_region 1 with (fail)
  obtain ⟨gr, hgr⟩ : ∃ gr, w.heap.size = gr := ⟨_, rfl⟩
  rw [hgr]
  refine wp_world (fun W => Aside0 (B60 W gr zAct (.slice none 0 0)) ∧ Aside0 (w.heap.size ≤ gr) ∧ Aside0 (Below w.heap.size w W)) (by
    subst hgr
    exact ⟨⟨blk_new w _⟩, ⟨Nat.le_refl _⟩, ⟨below_alloc (Below.refl _ _) _⟩⟩) ?_
  clear hgr
  rintro w1 ⟨HBR, HGE, HB⟩
  have HW1 := Aside0.mk (HW.out.below HB.out)
  go_upto_region 2 with (first | (go_at_call 84; (with_reducible refine (gnumber_z gw c ws 1 1 _ HW1.out (by omega) rfl).mono ?_); rintro e w2 ⟨rfl, hw2⟩; have hw2 := hw2.symm; subst hw2))
  obtain ⟨ga, hga⟩ : ∃ ga, w1.heap.size = ga := ⟨_, rfl⟩
  refine wp_world (fun W => Aside0 (B60 W ga { zAct with k := 10, a := gnum ws 1 } (.slice none 0 0)) ∧ Aside0 (B60 W gr zAct (.slice none 0 0)) ∧ Aside0 (w.heap.size ≤ ga) ∧ Aside0 (gr ≠ ga) ∧ Aside0 (WR W gw 0 ws) ∧ Aside0 (Below w.heap.size w W)) (by
    have h1 := blk_lt HBR.out
    have h2 := HB.out.size
    subst hga
    exact ⟨⟨blk_new w1 _⟩, ⟨blk_alloc HBR.out _⟩, ⟨h2⟩, ⟨by omega⟩, ⟨HW1.out.below (below_alloc (Below.refl _ _) _)⟩, ⟨below_alloc HB.out _⟩⟩) ?_
  rw [hga]
  clear hga HBR HB HW1
  rintro w3 ⟨HBA, HBR, HGA, HNE, HW3, HB3⟩
  obtain ⟨r0, r1, r2, r3, r4, r5, r6⟩ := HBR.out.all
  obtain ⟨f0, f1, f2, f3, f4, f5, f6⟩ := HBR.out.frz
  obtain ⟨s0, s1, s2, s3, s4, s5, s6⟩ := HBA.out.all
  obtain ⟨g0, g1, g2, g3, g4, g5, g6⟩ := HBA.out.frz
  simp only [zAct] at s0 s1 s2 s3 s4 s5 s6
  have hne : gr ≠ ga := HNE.out
  go_wp2_with (first | (go_at_call 84; (with_reducible refine (gnumber_z gw c ws 2 2 _ HW3.out (by omega) rfl).mono ?_); rintro e w2 ⟨rfl, hw2⟩; have hw2 := hw2.symm; subst hw2) | (go_at_call 84; (with_reducible refine (gnumber_z gw c ws 3 3 _ HW3.out (by omega) rfl).mono ?_); rintro e w2 ⟨rfl, hw2⟩; have hw2 := hw2.symm; subst hw2) | (go_at_call 84; (with_reducible refine (gnumber_z gw c ws 4 4 _ HW3.out (by omega) rfl).mono ?_); rintro e w2 ⟨rfl, hw2⟩; have hw2 := hw2.symm; subst hw2))
  refine bodyPost_ret (results_cell_row rfl _ _ gr 60 #[.int .i64 10, .int .i64 ((gnum ws 1 : Nat) : Int), .int .i64 0, .int .i64 0, .int .i64 0, .int .i64 0, .slice none 0 0] (0, 0) _ rfl (put7_blk (HBR.out) (⟨10, gnum ws 1, 0, 0, 0, 0, []⟩ : Act) _) Tryd.underlying60 rfl (by kernel_rfl)) rfl ?_
  exact gu_mk _ HG.out rfl (Kd.R_nil _ _ _ _ _) (put7_below (HB3.out) HGE.out (⟨10, gnum ws 1, 0, 0, 0, 0, []⟩ : Act) _)
set_option maxHeartbeats 1600000 in
set_option maxRecDepth 100000 in
theorem guess_11 (gw c : Nat) (ws : List (List UInt8)) (w : World) (hw : WR w gw 0 ws) : Calls Tryd.prog 66 #[.slice (some ⟨gw, 0, none⟩) ws.length c, .int .i64 11] w (GuPost ws 11 w) := by
  have HW := Aside0.mk hw
  clear hw
  have HG : Aside0 (guessL ws 11 = ⟨11, gnum ws 1, 0, 0, 0, 0, []⟩) := ⟨by unfold guessL; simp [zAct]⟩
  go_enter Tryd.func66, Tryd.ntmps66
  go_upto_region 1 with (fail)
  obtain ⟨gr, hgr⟩ : ∃ gr, w.heap.size = gr := ⟨_, rfl⟩
  rw [hgr]
  refine wp_world (fun W => Aside0 (B60 W gr zAct (.slice none 0 0)) ∧ Aside0 (w.heap.size ≤ gr) ∧ Aside0 (Below w.heap.size w W)) (by
    subst hgr
    exact ⟨⟨blk_new w _⟩, ⟨Nat.le_refl _⟩, ⟨below_alloc (Below.refl _ _) _⟩⟩) ?_
  clear hgr
  rintro w1 ⟨HBR, HGE, HB⟩
  have HW1 := Aside0.mk (HW.out.below HB.out)
  go_upto_region 2 with (first | (go_at_call 84; (with_reducible refine (gnumber_z gw c ws 1 1 _ HW1.out (by omega) rfl).mono ?_); rintro e w2 ⟨rfl, hw2⟩; have hw2 := hw2.symm; subst hw2))
  obtain ⟨ga, hga⟩ : ∃ ga, w1.heap.size = ga := ⟨_, rfl⟩
  refine wp_world (fun W => Aside0 (B60 W ga { zAct with k := 11, a := gnum ws 1 } (.slice none 0 0)) ∧ Aside0 (B60 W gr zAct (.slice none 0 0)) ∧ Aside0 (w.heap.size ≤ ga) ∧ Aside0 (gr ≠ ga) ∧ Aside0 (WR W gw 0 ws) ∧ Aside0 (Below w.heap.size w W)) (by
    have h1 := blk_lt HBR.out
    have h2 := HB.out.size
    subst hga
    exact ⟨⟨blk_new w1 _⟩, ⟨blk_alloc HBR.out _⟩, ⟨h2⟩, ⟨by omega⟩, ⟨HW1.out.below (below_alloc (Below.refl _ _) _)⟩, ⟨below_alloc HB.out _⟩⟩) ?_
  rw [hga]
  clear hga HBR HB HW1
  rintro w3 ⟨HBA, HBR, HGA, HNE, HW3, HB3⟩
  obtain ⟨r0, r1, r2, r3, r4, r5, r6⟩ := HBR.out.all
  obtain ⟨f0, f1, f2, f3, f4, f5, f6⟩ := HBR.out.frz
  obtain ⟨s0, s1, s2, s3, s4, s5, s6⟩ := HBA.out.all
  obtain ⟨g0, g1, g2, g3, g4, g5, g6⟩ := HBA.out.frz
  simp only [zAct] at s0 s1 s2 s3 s4 s5 s6
  have hne : gr ≠ ga := HNE.out
  go_wp2_with (first | (go_at_call 84; (with_reducible refine (gnumber_z gw c ws 2 2 _ HW3.out (by omega) rfl).mono ?_); rintro e w2 ⟨rfl, hw2⟩; have hw2 := hw2.symm; subst hw2) | (go_at_call 84; (with_reducible refine (gnumber_z gw c ws 3 3 _ HW3.out (by omega) rfl).mono ?_); rintro e w2 ⟨rfl, hw2⟩; have hw2 := hw2.symm; subst hw2) | (go_at_call 84; (with_reducible refine (gnumber_z gw c ws 4 4 _ HW3.out (by omega) rfl).mono ?_); rintro e w2 ⟨rfl, hw2⟩; have hw2 := hw2.symm; subst hw2))
  refine bodyPost_ret (results_cell_row rfl _ _ gr 60 #[.int .i64 11, .int .i64 ((gnum ws 1 : Nat) : Int), .int .i64 0, .int .i64 0, .int .i64 0, .int .i64 0, .slice none 0 0] (0, 0) _ rfl (put7_blk (HBR.out) (⟨11, gnum ws 1, 0, 0, 0, 0, []⟩ : Act) _) Tryd.underlying60 rfl (by kernel_rfl)) rfl ?_
  exact gu_mk _ HG.out rfl (Kd.R_nil _ _ _ _ _) (put7_below (HB3.out) HGE.out (⟨11, gnum ws 1, 0, 0, 0, 0, []⟩ : Act) _)
set_option maxHeartbeats 1600000 in
set_option maxRecDepth 100000 in
theorem guess_12 (gw c : Nat) (ws : List (List UInt8)) (w : World) (hw : WR w gw 0 ws) : Calls Tryd.prog 66 #[.slice (some ⟨gw, 0, none⟩) ws.length c, .int .i64 12] w (GuPost ws 12 w) := by
  have HW := Aside0.mk hw
  clear hw
  have HG : Aside0 (guessL ws 12 = ⟨12, gnum ws 1, 0, 0, 0, 0, []⟩) := ⟨by unfold guessL; simp [zAct]⟩
  go_enter Tryd.func66, Tryd.ntmps66
  go_upto_region 1 with (fail)
  obtain ⟨gr, hgr⟩ : ∃ gr, w.heap.size = gr := ⟨_, rfl⟩
  rw [hgr]
  refine wp_world (fun W => Aside0 (B60 W gr zAct (.slice none 0 0)) ∧ Aside0 (w.heap.size ≤ gr) ∧ Aside0 (Below w.heap.size w W)) (by
    subst hgr
    exact ⟨⟨blk_new w _⟩, ⟨Nat.le_refl _⟩, ⟨below_alloc (Below.refl _ _) _⟩⟩) ?_
  clear hgr
  rintro w1 ⟨HBR, HGE, HB⟩
  have HW1 := Aside0.mk (HW.out.below HB.out)
  go_upto_region 2 with (first | (go_at_call 84; (with_reducible refine (gnumber_z gw c ws 1 1 _ HW1.out (by omega) rfl).mono ?_); rintro e w2 ⟨rfl, hw2⟩; have hw2 := hw2.symm; subst hw2))
  obtain ⟨ga, hga⟩ : ∃ ga, w1.heap.size = ga := ⟨_, rfl⟩
  refine wp_world (fun W => Aside0 (B60 W ga { zAct with k := 12, a := gnum ws 1 } (.slice none 0 0)) ∧ Aside0 (B60 W gr zAct (.slice none 0 0)) ∧ Aside0 (w.heap.size ≤ ga) ∧ Aside0 (gr ≠ ga) ∧ Aside0 (WR W gw 0 ws) ∧ Aside0 (Below w.heap.size w W)) (by
    have h1 := blk_lt HBR.out
    have h2 := HB.out.size
    subst hga
    exact ⟨⟨blk_new w1 _⟩, ⟨blk_alloc HBR.out _⟩, ⟨h2⟩, ⟨by omega⟩, ⟨HW1.out.below (below_alloc (Below.refl _ _) _)⟩, ⟨below_alloc HB.out _⟩⟩) ?_
  rw [hga]
  clear hga HBR HB HW1
  rintro w3 ⟨HBA, HBR, HGA, HNE, HW3, HB3⟩
  obtain ⟨r0, r1, r2, r3, r4, r5, r6⟩ := HBR.out.all
  obtain ⟨f0, f1, f2, f3, f4, f5, f6⟩ := HBR.out.frz
  obtain ⟨s0, s1, s2, s3, s4, s5, s6⟩ := HBA.out.all
  obtain ⟨g0, g1, g2, g3, g4, g5, g6⟩ := HBA.out.frz
  simp only [zAct] at s0 s1 s2 s3 s4 s5 s6
  have hne : gr ≠ ga := HNE.out
  go_wp2_with (first | (go_at_call 84; (with_reducible refine (gnumber_z gw c ws 2 2 _ HW3.out (by omega) rfl).mono ?_); rintro e w2 ⟨rfl, hw2⟩; have hw2 := hw2.symm; subst hw2) | (go_at_call 84; (with_reducible refine (gnumber_z gw c ws 3 3 _ HW3.out (by omega) rfl).mono ?_); rintro e w2 ⟨rfl, hw2⟩; have hw2 := hw2.symm; subst hw2) | (go_at_call 84; (with_reducible refine (gnumber_z gw c ws 4 4 _ HW3.out (by omega) rfl).mono ?_); rintro e w2 ⟨rfl, hw2⟩; have hw2 := hw2.symm; subst hw2))
  refine bodyPost_ret (results_cell_row rfl _ _ gr 60 #[.int .i64 12, .int .i64 ((gnum ws 1 : Nat) : Int), .int .i64 0, .int .i64 0, .int .i64 0, .int .i64 0, .slice none 0 0] (0, 0) _ rfl (put7_blk (HBR.out) (⟨12, gnum ws 1, 0, 0, 0, 0, []⟩ : Act) _) Tryd.underlying60 rfl (by kernel_rfl)) rfl ?_
  exact gu_mk _ HG.out rfl (Kd.R_nil _ _ _ _ _) (put7_below (HB3.out) HGE.out (⟨12, gnum ws 1, 0, 0, 0, 0, []⟩ : Act) _)
end Go.Proofs.YtagpkphehkfjgaaDoor.Sc

namespace Go.Proofs.YtagpkphehkfjgaaDoor.Sc
open Go.RowKit Go.Proofs.YtagpkphehkfjgaaDoorW.PrintWords Go.Proofs.YtagpkphehkfjgaaDoorW.PrintLast Go.Proofs.YtagpkphehkfjgaaDoorW.PrintMore Go.Proofs.YtagpkphehkfjgaaDoor.Px
theorem AS.grown {w wr W W2 : World} {g : Nat} {a : Act} {v v2 : Value} {ts2 : List Tear} (h : AS w g a v wr) (hg : W.grownBy W2 v.ownBlock) (hb : Below wr.heap.size wr W) (hR : RT W2 w.heap.size (fun k => k ≠ g) v2 ts2) : AS w g { a with t := ts2 } v2 (W2.setCell ⟨g, 6, none⟩ v2) ∧ B60 W2 g a v := by
  have h4 := h.below hb
  have h5 : B60 W2 g a v := blk_grown h4.c hg (fun e => (h4.o.1 g e.symm) rfl)
  exact ⟨AS.app h5 hR h4.ge (below_grown h4.b h4.b.size hg (fun k hk => (rt_own h4.o k hk).1)), h5⟩
/-- The tears that are guessed, j of them. -/
def gts (ws : List (List UInt8)) (j : Nat) : List Tear := ((ws.drop 2).take j).map tearG
theorem gts_succ {ws : List (List UInt8)} {j : Nat} {x : List UInt8} (h : ws[2 + j]? = some x) : gts ws (j + 1) = gts ws j ++ [tearG x] := by
  unfold gts
  rw [List.take_add_one, List.getElem?_drop, h, List.map_append]
  rfl
theorem gts_len (ws : List (List UInt8)) (j : Nat) : (gts ws j).length ≤ j := by unfold gts; simp; omega
theorem gts_end {ws : List (List UInt8)} {j : Nat} (h : ws.length ≤ 2 + j) (hj : j ≤ 9) : gts ws j = gts ws 9 := by
  unfold gts
  rw [List.take_of_length_le (by simp; omega), List.take_of_length_le (by simp; omega)]
set_option maxHeartbeats 1600000 in
set_option maxRecDepth 100000 in
theorem guess_9 (gw c : Nat) (ws : List (List UInt8)) (w : World) (hw : WR w gw 0 ws) : Calls Tryd.prog 66 #[.slice (some ⟨gw, 0, none⟩) ws.length c, .int .i64 9] w (GuPost ws 9 w) := by
  have HW := Aside0.mk hw
  have HLN : Aside0 (ws.length ≤ 100000) := ⟨hw.n⟩
  clear hw
  have HG : Aside0 (guessL ws 9 = ⟨9, gnum ws 1, 0, 0, 0, 0, gts ws 9⟩) := ⟨by unfold guessL; rw [if_neg (by decide), if_neg (by decide), if_neg (by decide), if_neg (by decide), if_pos rfl]; rfl⟩
  go_enter Tryd.func66, Tryd.ntmps66
  go_upto_region 1 with (fail)
  obtain ⟨gr, hgr⟩ : ∃ gr, w.heap.size = gr := ⟨_, rfl⟩
  rw [hgr]
  refine wp_world (fun W => Aside0 (B60 W gr zAct (.slice none 0 0)) ∧ Aside0 (w.heap.size ≤ gr) ∧ Aside0 (Below w.heap.size w W)) (by
    subst hgr
    exact ⟨⟨blk_new w _⟩, ⟨Nat.le_refl _⟩, ⟨below_alloc (Below.refl _ _) _⟩⟩) ?_
  clear hgr
  rintro w1 ⟨HBR, HGE, HB⟩
  have HW1 := Aside0.mk (HW.out.below HB.out)
  go_upto_region 2 with (first | (go_at_call 84; (with_reducible refine (gnumber_z gw c ws 1 1 _ HW1.out (by omega) rfl).mono ?_); rintro e w2 ⟨rfl, hw2⟩; have hw2 := hw2.symm; subst hw2))
  obtain ⟨ga, hga⟩ : ∃ ga, w1.heap.size = ga := ⟨_, rfl⟩
  refine wp_world (AS w1 ga ⟨9, gnum ws 1, 0, 0, 0, 0, gts ws 0⟩ (.slice none 0 0)) (by
    subst hga
    exact ⟨blk_new w1 _, Kd.R_nil _ _ _ _ _, Nat.le_refl _, below_alloc (Below.refl _ _) _⟩) ?_
  rw [hga]
  clear hga
  intro w3 has
  have HAS := Aside0.mk has
  clear has
  go_wp2
  go_loopw [6] (fun v6 W => ∃ (j : Nat) (v : Value), j ≤ 9 ∧ v6 = .int .i64 ((2 + j : Nat) : Int) ∧ Aside0 (AS w1 ga ⟨9, gnum ws 1, 0, 0, 0, 0, gts ws j⟩ v W)) (fun v6 _ => 12 - (intOf v6).toNat)
  case atStart => exact ⟨0, _, by omega, rfl, HAS⟩
  case round =>
    clear HAS
    obtain ⟨j, v, hj, rfl, HAS⟩ := hrel
    obtain ⟨A, cv, ev⟩ := Kd.R_slice HAS.out.o
    subst ev
    have HJ := Aside0.mk hj
    obtain ⟨i, hi⟩ : ∃ i, 2 + j = i := ⟨_, rfl⟩
    have HI := Aside0.mk hi
    rw [hi]
    have hil : i ≤ 11 := by omega
    have hln := HLN.out
    clear hi hj
    by_cases h1 : i < ws.length
    · have d1 : decide ((i : Int) < (ws.length : Int)) = true := decide_eq_true (by omega)
      by_cases h2 : i < 11
      · have d2 : decide ((i : Int) < 11) = true := decide_eq_true (by omega)
        obtain ⟨x, hx⟩ : ∃ x, ws[i]? = some x := ⟨_, List.getElem?_eq_getElem h1⟩
        have c0 : wr.cell? ⟨gw, i, none⟩ = some (Sv x) := by have := HW1.out.cell HAS.out.b hx; rwa [Nat.zero_add] at this
        have HXL : Aside0 (x.length ≤ 100000) := ⟨HW.out.l x (List.mem_of_getElem? hx)⟩
        have HTS : Aside0 (gts ws (j + 1) = gts ws j ++ [tearG x]) := ⟨gts_succ (by rw [HI.out]; exact hx)⟩
        have HTL : Aside0 ((gts ws j).length ≤ 100) := ⟨by have := gts_len ws j; have := HJ.out; omega⟩
        obtain ⟨ts, hts⟩ : ∃ ts, gts ws j = ts := ⟨_, rfl⟩
        rw [hts] at HTS HTL HAS
        have e1 : (i : Int) < (ws.length : Int) := by omega
        have c6 := HAS.out.c.c6
        have l0 := blk_lt HAS.out.c
        have hi0 : (i : Int) ≤ 11 := by omega
        clear hx hts h1 h2
        go_upto_region 17 with (fail)
        go_region_law (first
          | (refine step_app77 w1.heap.size (fun k => k ≠ ga) (.slice A ts.length cv) ts (tearG x) (.slice At (tearG x).b.length ct) (fun k => k ≠ ga ∧ some k ≠ (Value.slice A ts.length cv).ownBlock) w6.heap.size rfl (.tmp 56) (.tmp 62) rfl (by simp [Go.Act.eval, Go.Act.put]) (by simp [Go.Act.eval, Go.Act.put]) (by (with_reducible repeat (first | apply Kd.R_alloc | apply Kd.R_drewN | apply Kd.R_drew)); exact HS6.out.o) (by (with_reducible repeat (first | apply Kd.R_alloc | apply Kd.R_drewN | apply Kd.R_drew)); exact HRB6.out) (fun _ hk => hk) (by have h1 := blk_lt HS6.out.c; intro k hk; simp at hk; omega) (by first | exact blk_new _ _ | exact blk_drewN (blk_new _ _) _ | exact blk_drew (blk_new _ _)) (by have := HS6.out.b.size; simp; omega) (by have := HTL.out; omega) ?_; intro g2 cap w5 hR hgr hat; have HXB := Aside0.mk (HS6.out.grown hgr (by repeat (first | (with_reducible first | exact Below.refl _ _ | apply below_alloc | apply pw_below_drewN | apply below_drew1) | apply below_drew)) hR); have c9 := HXB.out.2.c6; have f9 := blk_frozen HXB.out.2 6; clear hR hgr hat)
          | (go_simp; go_at_call 85; (with_reducible refine (gtear_calls x _ HXL.out).mono ?_); rintro e w6 ⟨tv, rfl, hrb, hb⟩; obtain ⟨At, ct, ev⟩ := Kd.R_slice hrb; subst ev; have HRB6 := Aside0.mk (rb_apart (HAS.out.below (below_drew (Below.refl _ _))) hrb); have HS6 := Aside0.mk ((HAS.out.below (below_drew (Below.refl _ _))).below hb); have c6' := HS6.out.c.c6; have l6 := blk_lt HS6.out.c; clear hrb hb; go_wp2_with fail))
        all_goals
          have HX9 := Aside0.mk HXB.out.1
          clear c0 c6 l0 c9 f9 HXB HAS HS6 HRB6 c6' l6
          go_wp2
          go_roundw
          case rel => exact ⟨j + 1, _, by have := HI.out; have := HJ.out; simp at d2; omega, by have := HI.out; congr 1; omega, by rw [HTS.out]; exact HX9⟩
          case measure => simp [intOf]; omega
      · have d2 : decide ((i : Int) < 11) = false := decide_eq_false (by omega)
        have HGE9 : Aside0 (guessL ws 9 = ⟨9, gnum ws 1, 0, 0, 0, 0, gts ws j⟩) := ⟨by rw [HG.out, show j = 9 by have := HI.out; have := HJ.out; omega]⟩
        have HBR5 : Aside0 (B60 wr gr zAct (.slice none 0 0)) := ⟨blk_below HBR.out HAS.out.b⟩
        obtain ⟨r0, r1, r2, r3, r4, r5, r6⟩ := B60.all HBR5.out
        obtain ⟨f0, f1, f2, f3, f4, f5, f6⟩ := B60.frz HBR5.out
        obtain ⟨s0, s1, s2, s3, s4, s5, s6⟩ := HAS.out.c.all
        obtain ⟨ts, hts⟩ : ∃ ts, gts ws j = ts := ⟨_, rfl⟩
        rw [hts] at HAS HGE9 s6
        simp only [] at s0 s1 s2 s3 s4 s5 s6
        clear hts
        have HA9 := Aside0.mk (put7_blk HBR5.out (⟨9, gnum ws 1, 0, 0, 0, 0, ts⟩ : Act) (.slice A ts.length cv))
        have HRT9 := Aside0.mk (rt_end HBR.out HB.out HAS.out)
        have HBW9 := Aside0.mk (put7_below (below_step HB.out HAS.out.b) HGE.out (⟨9, gnum ws 1, 0, 0, 0, 0, ts⟩ : Act) (.slice A ts.length cv))
        go_wp2
        refine bodyPost_ret (results_cell_row rfl _ _ gr 60 #[.int .i64 9, .int .i64 ((gnum ws 1 : Nat) : Int), .int .i64 0, .int .i64 0, .int .i64 0, .int .i64 0, .slice A ts.length cv] (0, 0) _ rfl HA9.out Tryd.underlying60 rfl (by kernel_rfl)) rfl ?_
        exact gu_mk _ HGE9.out rfl HRT9.out HBW9.out
    · have d1 : decide ((i : Int) < (ws.length : Int)) = false := decide_eq_false (by omega)
      have HGE9 : Aside0 (guessL ws 9 = ⟨9, gnum ws 1, 0, 0, 0, 0, gts ws j⟩) := ⟨by rw [HG.out, gts_end (by have := HI.out; omega) HJ.out]⟩
      have HBR5 : Aside0 (B60 wr gr zAct (.slice none 0 0)) := ⟨blk_below HBR.out HAS.out.b⟩
      obtain ⟨r0, r1, r2, r3, r4, r5, r6⟩ := B60.all HBR5.out
      obtain ⟨f0, f1, f2, f3, f4, f5, f6⟩ := B60.frz HBR5.out
      obtain ⟨s0, s1, s2, s3, s4, s5, s6⟩ := HAS.out.c.all
      obtain ⟨ts, hts⟩ : ∃ ts, gts ws j = ts := ⟨_, rfl⟩
      rw [hts] at HAS HGE9 s6
      simp only [] at s0 s1 s2 s3 s4 s5 s6
      clear hts
      have HA9 := Aside0.mk (put7_blk HBR5.out (⟨9, gnum ws 1, 0, 0, 0, 0, ts⟩ : Act) (.slice A ts.length cv))
      have HRT9 := Aside0.mk (rt_end HBR.out HB.out HAS.out)
      have HBW9 := Aside0.mk (put7_below (below_step HB.out HAS.out.b) HGE.out (⟨9, gnum ws 1, 0, 0, 0, 0, ts⟩ : Act) (.slice A ts.length cv))
      go_wp2
      refine bodyPost_ret (results_cell_row rfl _ _ gr 60 #[.int .i64 9, .int .i64 ((gnum ws 1 : Nat) : Int), .int .i64 0, .int .i64 0, .int .i64 0, .int .i64 0, .slice A ts.length cv] (0, 0) _ rfl HA9.out Tryd.underlying60 rfl (by kernel_rfl)) rfl ?_
      exact gu_mk _ HGE9.out rfl HRT9.out HBW9.out
end Go.Proofs.YtagpkphehkfjgaaDoor.Sc

namespace Go.Proofs.YtagpkphehkfjgaaDoor.Sc
open Go.RowKit Go.Proofs.YtagpkphehkfjgaaDoorW.PrintWords Go.Proofs.YtagpkphehkfjgaaDoorW.PrintLast Go.Proofs.YtagpkphehkfjgaaDoorW.PrintMore Go.Proofs.YtagpkphehkfjgaaDoor.Px
theorem guess_calls (k : Int) (hk : 1 ≤ k ∧ k ≤ 12) (gw c : Nat) (ws : List (List UInt8)) (w : World) (hw : WR w gw 0 ws) : Calls Tryd.prog 66 #[.slice (some ⟨gw, 0, none⟩) ws.length c, .int .i64 k] w (GuPost ws k w) := by
  rcases kinds hk with rfl | rfl | rfl | rfl | rfl | rfl | rfl | rfl | rfl | rfl | rfl | rfl
  · exact guess_1 gw c ws w hw
  · exact guess_2 gw c ws w hw
  · exact guess_3 gw c ws w hw
  · exact guess_4 gw c ws w hw
  · exact guess_5 gw c ws w hw
  · exact guess_6 gw c ws w hw
  · exact guess_7 gw c ws w hw
  · exact guess_8 gw c ws w hw
  · exact guess_9 gw c ws w hw
  · exact guess_10 gw c ws w hw
  · exact guess_11 gw c ws w hw
  · exact guess_12 gw c ws w hw
instance (n : Int) : Decidable (In n) := by unfold In; infer_instance
theorem in_calls (n : Int) (w : World) : Calls Tryd.prog 54 #[.int .i64 n] w fun e w' => e = .returned (.bool (decide (In n))) ∧ w' = w := by
  by_cases h0 : 0 ≤ n
  · have d0 : decide ((0 : Int) ≤ n) = true := decide_eq_true h0
    by_cases h1 : n ≤ 1073741824
    · have d1 : decide (n ≤ (1073741824 : Int)) = true := decide_eq_true h1
      have HD : Aside0 (decide (In n) = true) := ⟨decide_eq_true ⟨h0, h1⟩⟩
      rw [HD.out]
      clear h0 h1
      go_enter Tryd.func54, Tryd.ntmps54
      go_wp2
      go_ret
      exact ⟨rfl, rfl⟩
    · have d1 : decide (n ≤ (1073741824 : Int)) = false := decide_eq_false h1
      have HD : Aside0 (decide (In n) = false) := ⟨decide_eq_false (fun h => h1 h.2)⟩
      rw [HD.out]
      clear h0 h1
      go_enter Tryd.func54, Tryd.ntmps54
      go_wp2
      go_ret
      exact ⟨rfl, rfl⟩
  · have d0 : decide ((0 : Int) ≤ n) = false := decide_eq_false h0
    have HD : Aside0 (decide (In n) = false) := ⟨decide_eq_false (fun h => h0 h.1)⟩
    rw [HD.out]
    clear h0
    go_enter Tryd.func54, Tryd.ntmps54
    go_wp2
    go_ret
    exact ⟨rfl, rfl⟩
/-- What is read of a row of tears. -/
def TK (w : World) (v : Value) (ts : List Tear) : Prop := ∃ A c, v = .slice A ts.length c ∧ ts.length ≤ c ∧ Kd.C kTear w A ts.length ts
def BK (w : World) (v : Value) (bl : List UInt8) : Prop := ∃ A c, v = .slice A bl.length c ∧ bl.length ≤ c ∧ Kd.C kb w A bl.length bl
theorem TK.of_R {w : World} {base : Nat} {ok : Nat → Prop} {v : Value} {ts : List Tear} (h : RT w base ok v ts) : TK w v ts := Kd.R_reads h
theorem TK.below {w W : World} {v : Value} {ts : List Tear} (h : TK w v ts) (hb : Below w.heap.size w W) : TK W v ts := by
  obtain ⟨A, c, h1, h2, h3⟩ := h
  exact ⟨A, c, h1, h2, Kd.C_below h3 hb⟩
theorem BK.below {w W : World} {v : Value} {bl : List UInt8} (h : BK w v bl) (hb : Below w.heap.size w W) : BK W v bl := by
  obtain ⟨A, c, h1, h2, h3⟩ := h
  exact ⟨A, c, h1, h2, Kd.C_below h3 hb⟩
/-- One tear's cells. -/
theorem TK.at {w : World} {v : Value} {ts : List Tear} (h : TK w v ts) {k : Nat} (hk : k < ts.length) :
    ∃ ad c t bv, v = .slice (some ad) ts.length c ∧ ts.length ≤ c ∧ ts[k]? = some t ∧ w.cell? (ad.add (k * 2)) = some (.int .i64 t.k) ∧ w.cell? (ad.add (k * 2 + 1)) = some bv ∧ BK w bv t.b := by
  obtain ⟨A, c, h1, h2, h3⟩ := h
  obtain ⟨ad, t, cs, rfl, ht, ⟨c0, c1, rfl, e0, A2, n2, e1, e2, e3⟩, hc⟩ := el_at zTear h3 hk
  obtain rfl : c0 = [.int .i64 t.k] := e0
  obtain rfl : c1 = [.slice A2 t.b.length n2] := e1
  refine ⟨ad, c, t, _, h1, h2, ht, ?_, ?_, A2, n2, rfl, e2, e3⟩
  · have := hc 0 _ rfl
    rwa [kTear_sz, Nat.add_zero] at this
  · have := hc 1 _ rfl
    rwa [kTear_sz] at this
theorem BK.at {w : World} {v : Value} {bl : List UInt8} (h : BK w v bl) {k : Nat} (hk : k < bl.length) :
    ∃ ad c x, v = .slice (some ad) bl.length c ∧ bl.length ≤ c ∧ bl[k]? = some x ∧ w.cell? (ad.add k) = some (.int .u8 (x.toNat : Int)) := by
  obtain ⟨A, c, h1, h2, h3⟩ := h
  obtain ⟨ad, x, cs, rfl, hx, hK, hc⟩ := el_at (0 : UInt8) h3 hk
  obtain rfl : cs = [.int .u8 (x.toNat : Int)] := hK
  have := hc 0 _ rfl
  rw [kb_sz, Nat.mul_one, Nat.add_zero] at this
  exact ⟨ad, c, x, h1, h2, hx, this⟩
end Go.Proofs.YtagpkphehkfjgaaDoor.Sc

namespace Go.Proofs.YtagpkphehkfjgaaDoor.Sc
open Go.RowKit Go.Proofs.YtagpkphehkfjgaaDoorW.PrintWords Go.Proofs.YtagpkphehkfjgaaDoorW.PrintLast Go.Proofs.YtagpkphehkfjgaaDoorW.PrintMore Go.Proofs.YtagpkphehkfjgaaDoor.Px
theorem take_next {l m : List UInt8} {k : Nat} {x : UInt8} (h : l.take k = m.take k) (h1 : l[k]? = some x) (h2 : m[k]? = some x) : l.take (k + 1) = m.take (k + 1) := by
  rw [List.take_add_one, List.take_add_one, h, h1, h2]
set_option maxHeartbeats 1600000 in
set_option maxRecDepth 100000 in
theorem same01_calls (v u : Value) (l m : List UInt8) (w : World) (h1 : BK w v l) (h2 : BK w u m) (hl : l.length ≤ 1000000) (hm : m.length ≤ 1000000) : Calls Tryd.prog 67 #[v, u] w fun e w' => e = .returned (.bool (decide (l = m))) ∧ Below w.heap.size w w' := by
  have HV := Aside0.mk h1
  have HU := Aside0.mk h2
  have HL := Aside0.mk hl
  obtain ⟨A, c, rfl, _⟩ := h1
  obtain ⟨B, d, rfl, _⟩ := h2
  by_cases hlen : l.length = m.length
  · have q0 : ((l.length : Int) == (m.length : Int)) = true := by rw [beq_iff_eq]; omega
    have q1 : ((l.length : Int) != (m.length : Int)) = false := by rw [bne_eq_false_iff_eq]; omega
    have HLEN := Aside0.mk hlen
    clear hl hm hlen
    go_enter Tryd.func67, Tryd.ntmps67
    go_wp2
    go_loopw [5] (fun v5 W => ∃ k : Nat, k ≤ l.length ∧ v5 = .int .i64 k ∧ Aside0 (l.take k = m.take k) ∧ Aside0 (BK W (.slice A l.length c) l) ∧ Aside0 (BK W (.slice B m.length d) m) ∧ Aside0 (Below w.heap.size w W)) (fun v5 _ => l.length - (intOf v5).toNat)
    case atStart => exact ⟨0, Nat.zero_le _, rfl, ⟨by simp⟩, HV, HU, ⟨Below.refl _ _⟩⟩
    case round =>
      clear HV HU
      obtain ⟨k, hk, rfl, HT, HV, HU, HB⟩ := hrel
      have hl := HL.out
      have hml := HLEN.out
      by_cases hlt : k < l.length
      · have d0 : decide ((k : Int) < (l.length : Int)) = true := decide_eq_true (by omega)
        obtain ⟨ad, c2, x, e1, _, hx, cx⟩ := HV.out.at hlt
        obtain ⟨bd, d2, y, e2, _, hy, cy⟩ := HU.out.at (k := k) (by omega)
        injection e1 with e1 _ _
        injection e2 with e2 _ _
        subst e1 e2
        have hk1 : (k : Int) < (l.length : Int) := by omega
        have hk2 : (k : Int) < (m.length : Int) := by omega
        have hk3 : (k : Int) ≤ 1000000 := by omega
        have HVX := Aside0.mk hx
        have HVY := Aside0.mk hy
        have HV2 := Aside0.mk (HV.out.below (below_drew (Below.refl _ _)))
        have HU2 := Aside0.mk (HU.out.below (below_drew (Below.refl _ _)))
        have HB2 := Aside0.mk (below_step HB.out (below_drew (Below.refl _ _)))
        clear hx hy
        by_cases hxy : x = y
        · have q2 : ((x.toNat : Int) == (y.toNat : Int)) = true := u8t hxy
          have q3 : ((x.toNat : Int) != (y.toNat : Int)) = false := by rw [bne_eq_false_iff_eq, hxy]
          have HT2 : Aside0 (l.take (k + 1) = m.take (k + 1)) := ⟨take_next HT.out HVX.out (by rw [hxy]; exact HVY.out)⟩
          clear hxy
          go_upto_region 6 with (fail)
          go_region
          all_goals
            go_wp2
            exact ⟨⟨k + 1, by omega, by go_num, HT2, HV2, HU2, HB2⟩, by simp [intOf]; omega⟩
        · have q2 : ((x.toNat : Int) == (y.toNat : Int)) = false := u8f hxy
          have q3 : ((x.toNat : Int) != (y.toNat : Int)) = true := by rw [bne_iff_ne]; intro e; exact hxy (UInt8.toNat_inj.1 (by omega))
          have HD : Aside0 (decide (l = m) = false) := ⟨decide_eq_false (fun e => hxy (by
            have h := HVX.out
            rw [e, HVY.out] at h
            injection h with h
            exact h.symm))⟩
          clear hxy
          go_upto_region 6 with (fail)
          go_region
          all_goals
            go_wp2
            go_ret
            exact ⟨by rw [HD.out]; rfl, HB2.out⟩
      · obtain rfl : k = l.length := by omega
        have d0 : decide ((l.length : Int) < (l.length : Int)) = false := decide_eq_false (by omega)
        have HD : Aside0 (decide (l = m) = true) := ⟨decide_eq_true (by
          have h := HT.out
          rwa [List.take_of_length_le (Nat.le_refl _), List.take_of_length_le (by omega)] at h)⟩
        go_wp2
        go_ret
        exact ⟨by rw [HD.out]; rfl, HB.out⟩
  · have q0 : ((l.length : Int) == (m.length : Int)) = false := by rw [beq_eq_false_iff_ne]; omega
    have q1 : ((l.length : Int) != (m.length : Int)) = true := by rw [bne_iff_ne]; omega
    have HD : Aside0 (decide (l = m) = false) := ⟨decide_eq_false (fun e => hlen (by rw [e]))⟩
    rw [HD.out]
    clear hl hm hlen
    go_enter Tryd.func67, Tryd.ntmps67
    go_wp2
    go_ret
    exact ⟨rfl, Below.refl _ _⟩
end Go.Proofs.YtagpkphehkfjgaaDoor.Sc

namespace Go.Proofs.YtagpkphehkfjgaaDoor.Sc
open Go.RowKit Go.Proofs.YtagpkphehkfjgaaDoorW.PrintWords Go.Proofs.YtagpkphehkfjgaaDoorW.PrintLast Go.Proofs.YtagpkphehkfjgaaDoorW.PrintMore Go.Proofs.YtagpkphehkfjgaaDoor.Px
theorem hexs_take {bl : List UInt8} {k : Nat} {x : UInt8} (h : bl[k]? = some x) : 61 :: hexs (bl.take (k + 1)) = ((61 :: hexs (bl.take k)) ++ [hexD (x.toNat / 16)]) ++ [hexD (x.toNat % 16)] := by
  rw [List.take_add_one, h, hexs_app]
  simp [hexs]
/-- One digit, cut out. -/
theorem slice_hex {d : Nat} (h : d < 16) (W : World) : (Instr.slice 9 (.string ⟨#[48, 49, 50, 51, 52, 53, 54, 55, 56, 57, 97, 98, 99, 100, 101, 102]⟩) (some (.int .u8 (d : Int))) (some (.int .u8 ((d : Int) + 1))) none).run Tryd.prog W = .ok (.string ⟨#[hexD d]⟩) W :=
  match d, h with
  | 0, _ => by kernel_rfl
  | 1, _ => by kernel_rfl
  | 2, _ => by kernel_rfl
  | 3, _ => by kernel_rfl
  | 4, _ => by kernel_rfl
  | 5, _ => by kernel_rfl
  | 6, _ => by kernel_rfl
  | 7, _ => by kernel_rfl
  | 8, _ => by kernel_rfl
  | 9, _ => by kernel_rfl
  | 10, _ => by kernel_rfl
  | 11, _ => by kernel_rfl
  | 12, _ => by kernel_rfl
  | 13, _ => by kernel_rfl
  | 14, _ => by kernel_rfl
  | 15, _ => by kernel_rfl
  | n + 16, h => by omega
set_option maxHeartbeats 1600000 in
set_option maxRecDepth 100000 in
theorem hex_calls (v : Value) (l : List UInt8) (w : World) (h1 : BK w v l) (hl : l.length ≤ 100000) : Calls Tryd.prog 58 #[v] w fun e w' => e = .returned (Sv (61 :: hexs l)) ∧ Below w.heap.size w w' := by
  have HV := Aside0.mk h1
  have HL := Aside0.mk hl
  obtain ⟨A, c, rfl, _⟩ := h1
  clear hl
  go_enter Tryd.func58, Tryd.ntmps58
  go_wp2
  go_loopw [4, 5] (fun v4 v5 W => ∃ k : Nat, k ≤ l.length ∧ v4 = Sv (61 :: hexs (l.take k)) ∧ v5 = .int .i64 k ∧ Aside0 (BK W (.slice A l.length c) l) ∧ Aside0 (Below w.heap.size w W)) (fun _ v5 _ => l.length - (intOf v5).toNat)
  case atStart => exact ⟨0, Nat.zero_le _, rfl, rfl, HV, ⟨Below.refl _ _⟩⟩
  case round =>
    clear HV
    obtain ⟨k, hk, rfl, rfl, HV, HB⟩ := hrel
    have hl := HL.out
    by_cases hlt : k < l.length
    · have d0 : decide ((k : Int) < (l.length : Int)) = true := decide_eq_true (by omega)
      obtain ⟨ad, c2, x, e1, _, hx, cx⟩ := HV.out.at hlt
      injection e1 with e1 _ _
      subst e1
      have hk1 : (k : Int) < (l.length : Int) := by omega
      have hk3 : (k : Int) ≤ 1000000 := by omega
      have HX := Aside0.mk (hexs_take hx)
      have HV2 := Aside0.mk (HV.out.below (below_drew (Below.refl _ _)))
      have HB2 := Aside0.mk (below_step HB.out (below_drew (Below.refl _ _)))
      obtain ⟨p, hp⟩ : ∃ p, 61 :: hexs (l.take k) = p := ⟨_, rfl⟩
      have HPL : Aside0 (p.length ≤ 1000000) := ⟨by rw [← hp, List.length_cons, hexs_len, List.length_take]; omega⟩
      rw [hp] at HX
      rw [hp]
      obtain ⟨b, hb⟩ : ∃ b, x.toNat = b := ⟨_, rfl⟩
      have hb2 : b < 256 := by have := x.toNat_lt; omega
      rw [hb] at cx HX
      obtain ⟨q, hq⟩ : ∃ q, b / 16 = q := ⟨_, rfl⟩
      obtain ⟨r, hr⟩ : ∃ r, b % 16 = r := ⟨_, rfl⟩
      rw [hq, hr] at HX
      have e1 : IntKind.u8.wrap ((b : Int) / 16) = (q : Int) := by rw [IntKind.wrap_u8]; omega
      have e2 : IntKind.u8.wrap ((q : Int) + 1) = (q : Int) + 1 := by rw [IntKind.wrap_u8]; omega
      have e3 : (b : Int) % 16 = (r : Int) := by omega
      have e4 : Int.tmod (b : Int) 16 = (r : Int) := by rw [Int.tmod_eq_emod_of_nonneg (by omega)]; omega
      have e5 : IntKind.u8.wrap ((r : Int) + 1) = (r : Int) + 1 := by rw [IntKind.wrap_u8]; omega
      have e6 : IntKind.u8.wrap (r : Int) = (r : Int) := by rw [IntKind.wrap_u8]; omega
      have hs1 := fun W => slice_hex (d := q) (by omega) W
      have hs2 := fun W => slice_hex (d := r) (by omega) W
      have hl1 : ¬ 9223372036854775807 < p.length + 1 := by have := HPL.out; omega
      have hl2 : ¬ 9223372036854775807 < p.length + 1 + 1 := by have := HPL.out; omega
      clear hx hp hb
      go_upto_region 6 with (fail)
      go_quiet (fail)
      have HV3 := Aside0.mk (HV.out.below (pw_below_drewN (Below.refl _ _) nq))
      have HB3 := Aside0.mk (pw_below_drewN HB.out nq)
      have HS : Aside0 ((⟨p.toArray⟩ : ByteArray) ++ (⟨#[hexD q]⟩ : ByteArray) ++ (⟨#[hexD r]⟩ : ByteArray) = ⟨(61 :: hexs (l.take (k + 1))).toArray⟩) := ⟨by
        rw [HX.out, ← cat_bytes, ← cat_bytes]⟩
      clear HV2 HB2 cx
      go_wp2
      go_roundw
      case rel => exact ⟨k + 1, by omega, by rw [HS.out], by go_num, HV3, HB3⟩
      case measure => simp [intOf]; omega
    · obtain rfl : k = l.length := by omega
      have d0 : decide ((l.length : Int) < (l.length : Int)) = false := decide_eq_false (by omega)
      have HE : Aside0 (l.take l.length = l) := ⟨List.take_of_length_le (Nat.le_refl _)⟩
      go_wp2
      go_ret
      exact ⟨by rw [HE.out]; rfl, HB.out⟩
end Go.Proofs.YtagpkphehkfjgaaDoor.Sc

namespace Go.Proofs.YtagpkphehkfjgaaDoor.Sc
open Go.RowKit Go.Proofs.YtagpkphehkfjgaaDoorW.PrintWords Go.Proofs.YtagpkphehkfjgaaDoorW.PrintLast Go.Proofs.YtagpkphehkfjgaaDoorW.PrintMore Go.Proofs.YtagpkphehkfjgaaDoor.Px
theorem word_1 (w : World) : Calls Tryd.prog 56 #[.int .i64 1] w fun e w' => e = .returned (Sv (form 1).1) ∧ Below w.heap.size w w' := by
  go_enter Tryd.func56, Tryd.ntmps56
  go_wp2
  go_ret
  exact ⟨rfl, below_alloc (Below.refl _ _) _⟩
theorem word_2 (w : World) : Calls Tryd.prog 56 #[.int .i64 2] w fun e w' => e = .returned (Sv (form 2).1) ∧ Below w.heap.size w w' := by
  go_enter Tryd.func56, Tryd.ntmps56
  go_wp2
  go_ret
  exact ⟨rfl, below_alloc (Below.refl _ _) _⟩
theorem word_3 (w : World) : Calls Tryd.prog 56 #[.int .i64 3] w fun e w' => e = .returned (Sv (form 3).1) ∧ Below w.heap.size w w' := by
  go_enter Tryd.func56, Tryd.ntmps56
  go_wp2
  go_ret
  exact ⟨rfl, below_alloc (Below.refl _ _) _⟩
theorem word_4 (w : World) : Calls Tryd.prog 56 #[.int .i64 4] w fun e w' => e = .returned (Sv (form 4).1) ∧ Below w.heap.size w w' := by
  go_enter Tryd.func56, Tryd.ntmps56
  go_wp2
  go_ret
  exact ⟨rfl, below_alloc (Below.refl _ _) _⟩
theorem word_5 (w : World) : Calls Tryd.prog 56 #[.int .i64 5] w fun e w' => e = .returned (Sv (form 5).1) ∧ Below w.heap.size w w' := by
  go_enter Tryd.func56, Tryd.ntmps56
  go_wp2
  go_ret
  exact ⟨rfl, below_alloc (Below.refl _ _) _⟩
theorem word_6 (w : World) : Calls Tryd.prog 56 #[.int .i64 6] w fun e w' => e = .returned (Sv (form 6).1) ∧ Below w.heap.size w w' := by
  go_enter Tryd.func56, Tryd.ntmps56
  go_wp2
  go_ret
  exact ⟨rfl, below_alloc (Below.refl _ _) _⟩
theorem word_7 (w : World) : Calls Tryd.prog 56 #[.int .i64 7] w fun e w' => e = .returned (Sv (form 7).1) ∧ Below w.heap.size w w' := by
  go_enter Tryd.func56, Tryd.ntmps56
  go_wp2
  go_ret
  exact ⟨rfl, below_alloc (Below.refl _ _) _⟩
theorem word_8 (w : World) : Calls Tryd.prog 56 #[.int .i64 8] w fun e w' => e = .returned (Sv (form 8).1) ∧ Below w.heap.size w w' := by
  go_enter Tryd.func56, Tryd.ntmps56
  go_wp2
  go_ret
  exact ⟨rfl, below_alloc (Below.refl _ _) _⟩
theorem word_9 (w : World) : Calls Tryd.prog 56 #[.int .i64 9] w fun e w' => e = .returned (Sv (form 9).1) ∧ Below w.heap.size w w' := by
  go_enter Tryd.func56, Tryd.ntmps56
  go_wp2
  go_ret
  exact ⟨rfl, below_alloc (Below.refl _ _) _⟩
theorem word_10 (w : World) : Calls Tryd.prog 56 #[.int .i64 10] w fun e w' => e = .returned (Sv (form 10).1) ∧ Below w.heap.size w w' := by
  go_enter Tryd.func56, Tryd.ntmps56
  go_wp2
  go_ret
  exact ⟨rfl, below_alloc (Below.refl _ _) _⟩
theorem word_11 (w : World) : Calls Tryd.prog 56 #[.int .i64 11] w fun e w' => e = .returned (Sv (form 11).1) ∧ Below w.heap.size w w' := by
  go_enter Tryd.func56, Tryd.ntmps56
  go_wp2
  go_ret
  exact ⟨rfl, below_alloc (Below.refl _ _) _⟩
theorem word_12 (w : World) : Calls Tryd.prog 56 #[.int .i64 12] w fun e w' => e = .returned (Sv (form 12).1) ∧ Below w.heap.size w w' := by
  go_enter Tryd.func56, Tryd.ntmps56
  go_wp2
  go_ret
  exact ⟨rfl, below_alloc (Below.refl _ _) _⟩
theorem word_calls (k : Int) (hk : 1 ≤ k ∧ k ≤ 12) (w : World) : Calls Tryd.prog 56 #[.int .i64 k] w fun e w' => e = .returned (Sv (form k).1) ∧ Below w.heap.size w w' := by
  rcases kinds hk with rfl | rfl | rfl | rfl | rfl | rfl | rfl | rfl | rfl | rfl | rfl | rfl
  · exact word_1 w
  · exact word_2 w
  · exact word_3 w
  · exact word_4 w
  · exact word_5 w
  · exact word_6 w
  · exact word_7 w
  · exact word_8 w
  · exact word_9 w
  · exact word_10 w
  · exact word_11 w
  · exact word_12 w
end Go.Proofs.YtagpkphehkfjgaaDoor.Sc

namespace Go.Proofs.YtagpkphehkfjgaaDoor.Sc
open Go.RowKit Go.Proofs.YtagpkphehkfjgaaDoorW.PrintWords Go.Proofs.YtagpkphehkfjgaaDoorW.PrintLast Go.Proofs.YtagpkphehkfjgaaDoorW.PrintMore Go.Proofs.YtagpkphehkfjgaaDoor.Px
/-- Numbers, a blank ahead of each. -/
def numsW (ns : List Int) : List UInt8 := ns.flatMap fun n => 32 :: itw n
theorem numsW_take {ns : List Int} {k : Nat} {n : Int} (h : ns[k]? = some n) : numsW (ns.take (k + 1)) = (numsW (ns.take k) ++ [32]) ++ itw n := by
  unfold numsW
  rw [List.take_add_one, h]
  simp
theorem itw_len {n : Int} (h : In n) : (itw n).length ≤ 21 := (it_len (by have := h.1; omega) (by have := h.2; omega)).2
theorem numsW_len {ns : List Int} (h : ∀ n ∈ ns, In n) : (numsW ns).length ≤ 22 * ns.length := by
  induction ns with
  | nil => simp [numsW]
  | cons n ns ih =>
    have h1 := ih (fun m hm => h m (List.mem_cons_of_mem _ hm))
    have h2 := itw_len (h n (by simp))
    unfold numsW at h1 ⊢
    rw [List.flatMap_cons, List.length_append, List.length_cons, List.length_cons]
    omega
set_option maxHeartbeats 1600000 in
set_option maxRecDepth 100000 in
theorem nums_calls (g c : Nat) (ns : List Int) (w : World) (hg : g < w.heap.size) (hc : ∀ j n, ns[j]? = some n → w.cell? ⟨g, j, none⟩ = some (.int .i64 n)) (hin : ∀ n ∈ ns, In n) (hl : ns.length ≤ 4) :
    Calls Tryd.prog 57 #[.slice (some ⟨g, 0, none⟩) ns.length c] w fun e w' => e = .returned (Sv (numsW ns)) ∧ Below w.heap.size w w' := by
  have HG := Aside0.mk hg
  have HC := Aside0.mk hc
  have HI := Aside0.mk hin
  have HL := Aside0.mk hl
  clear hg hc hin hl
  go_enter Tryd.func57, Tryd.ntmps57
  go_wp2
  go_loopw [3, 4] (fun v3 v4 W => ∃ k : Nat, k ≤ ns.length ∧ v3 = Sv (numsW (ns.take k)) ∧ v4 = .int .i64 k ∧ Aside0 (Below w.heap.size w W)) (fun _ v4 _ => ns.length - (intOf v4).toNat)
  case atStart => exact ⟨0, Nat.zero_le _, rfl, rfl, ⟨Below.refl _ _⟩⟩
  case round =>
    obtain ⟨k, hk, rfl, rfl, HB⟩ := hrel
    have hl := HL.out
    by_cases hlt : k < ns.length
    · have d0 : decide ((k : Int) < (ns.length : Int)) = true := decide_eq_true (by omega)
      obtain ⟨n, hn⟩ : ∃ n, ns[k]? = some n := ⟨_, List.getElem?_eq_getElem hlt⟩
      have c0 : wr.cell? ⟨g, k, none⟩ = some (.int .i64 n) := (HB.out.cell (p := ⟨g, k, none⟩) HG.out).trans (HC.out k n hn)
      have HN : Aside0 (In n) := ⟨HI.out n (List.mem_of_getElem? hn)⟩
      have HLO : Aside0 (-9223372036854775808 ≤ n) := ⟨by have := HN.out.1; omega⟩
      have HHI : Aside0 (n ≤ 9223372036854775807) := ⟨by have := HN.out.2; omega⟩
      have HX := Aside0.mk (numsW_take hn)
      have HIL := Aside0.mk (itw_len HN.out)
      obtain ⟨p, hp⟩ : ∃ p, numsW (ns.take k) = p := ⟨_, rfl⟩
      have HPL : Aside0 (p.length ≤ 100) := ⟨by
        rw [← hp]
        have h1 := numsW_len (ns := ns.take k) (fun m hm => HI.out m (List.mem_of_mem_take hm))
        rw [List.length_take] at h1
        omega⟩
      rw [hp] at HX
      rw [hp]
      have hk1 : (k : Int) < (ns.length : Int) := by omega
      have hk3 : (k : Int) ≤ 4 := by omega
      have hl1 : ¬ 9223372036854775807 < p.length + 1 := by have := HPL.out; omega
      have hl2 : ¬ 9223372036854775807 < p.length + 1 + (itw n).length := by have := HPL.out; have := HIL.out; omega
      clear hn hp hl
      go_wp2_with (first | (go_at_call 42; (with_reducible refine (digits_calls n HLO.out HHI.out _).mono ?_); rintro e w2 ⟨rfl, hb⟩; have HB2 := Aside0.mk (below_step HB.out hb); clear hb))
      go_roundw
      case rel => exact ⟨k + 1, by omega, by rw [HX.out]; show Value.string _ = Value.string ⟨((p ++ [32]) ++ itw n).toArray⟩; rw [← cat_bytes, ← cat_bytes], by go_num, HB2⟩
      case measure => simp [intOf]; omega
    · obtain rfl : k = ns.length := by omega
      have d0 : decide ((ns.length : Int) < (ns.length : Int)) = false := decide_eq_false (by omega)
      have HE : Aside0 (ns.take ns.length = ns) := ⟨List.take_of_length_le (Nat.le_refl _)⟩
      go_wp2
      go_ret
      exact ⟨by rw [HE.out]; rfl, HB.out⟩
end Go.Proofs.YtagpkphehkfjgaaDoor.Sc
