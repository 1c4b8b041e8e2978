/- Contract of queue.Put, for every input. -/
import Derived.Test.YthimnnnfgangbaaQuU
set_option linter.unusedVariables false
set_option linter.unusedSimpArgs false
namespace Go.Proofs.Ythimnnnfgangbaa.Qu
open Go.RowKit Go.Proofs.YthimnnnfgangbaaW.PrintWords Go.Proofs.YthimnnnfgangbaaW.PrintLast Go.Proofs.YthimnnnfgangbaaW.PrintMore

theorem info22x : ∃ i, Try.prog.info? 22 = some i ∧ i.zero = some (.slice none 0 0) ∧ i.size = 1 ∧ i.bytes = 24 := by
  have := info22
  obtain ⟨i, h1, h2⟩ := Option.map_eq_some_iff.1 this
  simp only [Prod.mk.injEq] at h2
  exact ⟨i, h1, h2⟩
/-- append(list, text), a step of a region that draws. -/
theorem step_appT {ops : Array Oper} {o : Oper} {a : Act} {K : Act → World → Prop} {Q : Exit → Act → World → Prop} {E : Prop} {W : World} (B : Nat) (v : Value) (xs : List (List Int)) (bs : List Int) (u : Value) (bp : Nat) (ok okp : Nat → Prop) (hgd : o.guard = none) (s x : Operand)
    (ho : o.op = .call { callee := .builtin .append, args := #[s, x], argTypes := #[41, 41] }) (hs : a.eval s = v) (hx : a.eval x = .slice (some ⟨bp, 0, none⟩) 1 1)
    (HO : Kd.N kT 22 W B ok v xs) (hnew : W.heap[bp]? = some (.cells #[u] 22 (0, 0))) (hp : Kd.FK kT W okp bs [u]) (hokp : ∀ k, okp k → ok k ∧ some k ≠ v.ownBlock) (hfresh : ∀ k, W.heap.size ≤ k → ok k) (hBs : B ≤ W.heap.size) (hl : xs.length ≤ 1000000)
    (h : ∀ g cap w', Kd.N kT 22 w' B ok (.slice (some ⟨g, 0, none⟩) (xs.length + 1) cap) (xs ++ [bs]) → W.grownBy w' v.ownBlock → (v.ownBlock = some g ∨ g = W.heap.size) → K (a.put o.dst (.slice (some ⟨g, 0, none⟩) (xs.length + 1) cap)) w') :
    if Region.wanted o (yielded ops a.tmps) = true then Oper.wp Try.prog o a W K Q else E := by
  obtain ⟨i, hi, hz, hsz, hby⟩ := info22x
  obtain ⟨h0, rows, hlr, hR, hf⟩ := HO
  obtain ⟨_, inner, hown, hr⟩ := Kd.raw_any hR
  have hu1 : u.oneCell' = true := kT.K_one (Kd.FK_now hp) u (by simp)
  refine step_append_lies _ hgd s x 41 ho B 22 i _ 1 24 Try.underlying41 hi hz hsz hby rfl (by decide) v rows.length inner hs hown ⟨bp, 0, none⟩ 1 1 [u] hx rfl (World.news_of_block hnew) (by simpa using hu1) (by decide) (by rw [hlr]; simp only [maxLen]; omega) (by rw [hlr]; omega) hBs _ rfl ?_
  intro g cap w' hown' hg hat hlt
  have hatt : (Value.slice (some ⟨g, 0, none⟩) (rows.length + 1) cap).ownBlock = v.ownBlock ∨ ∃ b, (Value.slice (some ⟨g, 0, none⟩) (rows.length + 1) cap).ownBlock = some b ∧ W.heap.size ≤ b := by
    rcases hat with hat | hat
    · exact .inl hat.symm
    · exact .inr ⟨g, rfl, by omega⟩
  have hR' := Kd.R_appended (d := Kd.raw 1) (e := 22) (base := B) (ok := fun _ => True) (okp := fun _ => False) (v1 := .slice (some ⟨g, 0, none⟩) (rows.length + 1) cap) (cs := [u]) (p := [u]) (fun _ _ => trivial) hr (Kd.FK_raw hp) (fun _ hk => hk.elim) (fun _ _ => trivial) hown' hg hatt
  have hN := Kd.N_appended h0 hlr hf (ys := [bs]) (news := [[u]]) rfl (fun j y c hy hc => by
    rcases j with _ | j
    · simp only [List.getElem?_cons_zero, Option.some.injEq] at hy hc
      rw [← hy, ← hc]; exact hp
    · simp at hy) hokp hfresh hR' hg hatt
  rw [hlr] at hN ⊢
  exact h g cap w' hN hg hat

theorem Kq.grow {B : Nat} {w W w2 : World} {gh : Nat} {v : Value} {xs : List (List Int)} {ok : Nat → Prop} {g cap n : Nat} (hH : QL B w gh v xs ok) (hb : Below w.heap.size w W) (hg : W.grownBy w2 v.ownBlock) (hat : v.ownBlock = some g ∨ g = W.heap.size) :
    Kq B w w2 gh v (.slice (some ⟨g, 0, none⟩) n cap) := by
  have hB : B ≤ w.heap.size := Nat.le_trans hH.2.1 (Nat.le_of_lt (blk_lt hH.1))
  have hrow : ∀ k, v.ownBlock = some k → B ≤ k := Kd.N_base hH.2.2.1
  refine ⟨(hb.mono hB).trans ⟨hg.os, hg.tape, hg.output, hg.size, fun k hk => hg.block k (Nat.lt_of_lt_of_le hk (Nat.le_trans hB hb.size)) (fun e => by have := hrow k e.symm; omega)⟩, ?_, ?_⟩
  · exact (KeepBut.of_below hb gh _).trans (KeepBut.of_grown hg gh) (.inl rfl)
  · intro k hk
    injection hk with hk
    subst hk
    rcases hat with e | e
    · exact .inl e
    · exact .inr (by rw [e]; exact hb.size)
theorem Kq.set_head {B : Nat} {w w' : World} {gh : Nat} {v v' : Value} (h : Kq B w w' gh v v') (hg : B ≤ gh) (j : Nat) (u : Value) : Kq B w (w'.setCell ⟨gh, j, none⟩ u) gh v v' :=
  ⟨h.1.setCell hg u, h.2.1.set_ j u, h.2.2⟩

set_option maxHeartbeats 400000 in
set_option maxRecDepth 100000 in
theorem put_none (b : Value) (A : Option Addr) (n c : Nat) (w : World) : Calls Try.prog 25 #[.pointer none, .slice A n c] w fun e w' => e = .returned (.int .i64 6) ∧ w' = w := by
  go_enter Try.func25, Try.ntmps25
  go_wp2
  go_ret
  exact ⟨rfl, rfl⟩
set_option maxHeartbeats 400000 in
set_option maxRecDepth 100000 in
theorem put_full (B g : Nat) (v : Value) (xs : List (List Int)) (ok : Nat → Prop) (A : Option Addr) (n c : Nat) (w : World) (h : QL B w g v xs ok) (hl : 32 ≤ xs.length) :
    Calls Try.prog 25 #[.pointer (some ⟨g, 0, none⟩), .slice A n c] w fun e w' => e = .returned (.int .i64 4) ∧ w' = w := by
  obtain ⟨A2, c2, rfl, _, _⟩ := h.v
  have c0 := blk_cell h.1 0
  clear h
  simp at c0
  have h2 : (32 : Int) ≤ (xs.length : Int) := by omega
  go_enter Try.func25, Try.ntmps25
  go_wp2
  go_ret
  exact ⟨rfl, rfl⟩
set_option maxHeartbeats 2000000 in
set_option maxRecDepth 100000 in
theorem put_calls (B g : Nat) (v : Value) (xs : List (List Int)) (ok : Nat → Prop) (A : Option Addr) (c : Nat) (bs : List Int) (w : World) (h : QL B w g v xs ok) (hl : xs.length < 32) (hC : Kd.C kB w A bs.length bs) (hb : bs.length ≤ 1000000) :
    Calls Try.prog 25 #[.pointer (some ⟨g, 0, none⟩), .slice A bs.length c] w fun e w' => e = .returned (.int .i64 0) ∧ ∃ v', QL B w' g v' (xs ++ [bs]) (fun k => ok k ∨ w.heap.size ≤ k) ∧ Kq B w w' g v v' := by
  have H := Aside0.mk h
  have HC := Aside0.mk hC
  have HBB := Aside0.mk hb
  obtain ⟨A2, c2, rfl, _, _⟩ := h.v
  have c0 := blk_cell h.1 0
  have f0 := blk_frozen h.1 0
  clear h hC hb
  simp at c0
  have h2 : ¬ (32 : Int) ≤ (xs.length : Int) := by omega
  have HLs := Aside0.mk hl
  clear hl
  go_enter Try.func25, Try.ntmps25
  go_wp2_with fail
  go_region_law? (first
    | (refine step_appT B (.slice A2 xs.length c2) xs bs (.slice A7 bs.length c7) w1.heap.size (fun k => ok k ∨ w.heap.size ≤ k) (fun k => some k = (Value.slice A7 bs.length c7).ownBlock ∧ w.heap.size ≤ k) rfl (.tmp 19) (.tmp 22) rfl (by simp [Act.eval, Act.put]) (by simp [Act.eval, Act.put]) (Kd.N_mono (Kd.N_below H.out.2.2.1 (by repeat (first | (with_reducible first | exact HB1.out | apply below_alloc | apply pw_below_drewN | apply below_drew1)))) (fun _ hk => .inl hk)) (by first | exact blk_new _ _ | exact blk_drewN (blk_new _ _) _) (Kd.FK_mono (Kd.FK_below HP1.out (by repeat (first | (with_reducible first | exact Below.refl _ _ | apply below_alloc | apply pw_below_drewN | apply below_drew1)))) (fun _ hk => hk)) (fun k hk => ⟨.inr hk.2, fun e => by have := Kd.N_lt H.out.2.2.1 k e.symm; omega⟩) (fun k hk => .inr (Nat.le_trans (below_size (by repeat (first | (with_reducible first | exact HB1.out | apply below_alloc | apply pw_below_drewN | apply below_drew1)))) hk)) (Nat.le_trans H.out.2.1 (Nat.le_trans (Nat.le_of_lt (blk_lt H.out.1)) (below_size (by repeat (first | (with_reducible first | exact HB1.out | apply below_alloc | apply pw_below_drewN | apply below_drew1)))))) (by have := HLs.out; omega) ?_; intro g7 cap w2 hN hgr hat; have HN := Aside0.mk hN; have HGR := Aside0.mk hgr; have HAT := Aside0.mk hat; have hne := Kd.N_ne H.out.2.2.1 H.out.1 (by decide); have hbk := blk_grown (blk_below H.out.1 (by repeat (first | (with_reducible first | exact HB1.out | apply below_alloc | apply pw_below_drewN | apply below_drew1)))) hgr hne; have HK0 := Aside0.mk (Kq.grow (n := xs.length + 1) (cap := cap) H.out (by repeat (first | (with_reducible first | exact HB1.out | apply below_alloc | apply pw_below_drewN | apply below_drew1))) hgr hat); have c9 := blk_cell hbk 0; have f9 := blk_frozen hbk 0; have HBK := Aside0.mk hbk; clear hN hgr hat hbk hne; simp at c9)
    | (go_simp; go_at_call 30; refine (clone_calls A c bs _ (Kd.C_below HC.out (by repeat (first | (with_reducible first | exact Below.refl _ _ | apply below_alloc | apply pw_below_drewN | apply below_drew1)))) HBB.out).mono ?_; rintro e w1 ⟨u, rfl, hu, hb⟩; obtain ⟨A7, c7, rfl⟩ := Kd.R_slice hu; have HB1 := Aside0.mk (show Below w.heap.size w w1 from below_step (by repeat (first | (with_reducible first | exact Below.refl _ _ | apply below_alloc | apply pw_below_drewN | apply below_drew1))) hb); have c1 := blk_cell (blk_below H.out.1 HB1.out) 0; have HP1 := Aside0.mk (show Kd.FK kT w1 (fun k => some k = (Value.slice A7 bs.length c7).ownBlock ∧ w.heap.size ≤ k) bs [.slice A7 bs.length c7] from Kd.FK_mono (Kd.FK_of_M (d := kT) (base := w.heap.size) ⟨_, rfl, Kd.R_tight rfl hu⟩) (fun k hk => ⟨hk, Kd.R_base hu k hk.symm⟩)); have c3 := blk_cell (blk_alloc (blk_below H.out.1 HB1.out) (Obj.cells #[Value.slice A7 bs.length c7] 22)) 0; clear hu hb; simp at c1 c3))
  all_goals
    have hlt := blk_lt H.out.1
    have hok : ∀ k, (ok k ∨ w.heap.size ≤ k) → k ≠ g := fun k hk => by
      rcases hk with hk | hk
      · exact H.out.2.2.2 k hk
      · omega
    have hq : QL B (w2.setCell ⟨g, 0, none⟩ (.slice (some ⟨g7, 0, none⟩) (xs.length + 1) cap)) g (.slice (some ⟨g7, 0, none⟩) (xs.length + 1) cap) (xs ++ [bs]) (fun k => ok k ∨ w.heap.size ≤ k) :=
      ⟨blk_set HBK.out 0 _, H.out.2.1, Kd.N_far (p := ⟨g, 0, none⟩) HN.out hok _, hok⟩
    have hk := HK0.out
    have HQ := Aside0.mk hq
    have HK := Aside0.mk (Kq.set_head hk H.out.2.1 0 (.slice (some ⟨g7, 0, none⟩) (xs.length + 1) cap))
    clear hlt hok hq hk
    go_wp2
    go_ret
    exact ⟨rfl, _, HQ.out, HK.out⟩
end Go.Proofs.Ythimnnnfgangbaa.Qu
