/- Contract of (*Chron).Tell where an event is told: for every input. Contract of (*Chron).Tell where an event takes the place of the first one: for every input. Contracts of all, Last, Many: for every input. -/
import Derived.Test.YthimnnnfgangbaaDoorCmA
import Derived.Test.YthimnnnfgangbaaDoorQrI
import Derived.Deep.RegionHeld3
set_option linter.unusedVariables false
set_option linter.unusedSimpArgs false
namespace Go.Proofs.YthimnnnfgangbaaDoor.Cn
open Go.RowKit Go.Proofs.YthimnnnfgangbaaDoorW.PrintWords Go.Proofs.YthimnnnfgangbaaDoorW.PrintLast Go.Proofs.YthimnnnfgangbaaDoorW.PrintMore Go.Proofs.YthimnnnfgangbaaDoor.Qr
theorem CH.ne {B : Nat} {w : World} {g : Nat} {v : Value} {ring : List E} {room first many last : Int} (h : CH B w g v ring room first many last) : v.ownBlock ≠ some g := by
  intro e
  have h2 := h.row
  obtain ⟨A, c, hv, _⟩ := Kd.R_reads h2
  obtain ⟨_, inner, ⟨_, hown⟩, _⟩ := h2
  rcases hown with ⟨h1, _⟩ | ⟨g2, cap, cur, h1, _, hh, _⟩
  · rw [h1] at e
    simp [Value.ownBlock] at e
  · rw [h1] at e
    have : g2 = g := by simpa [Value.ownBlock] using e
    subst this
    have h3 := h.blk
    rw [hh] at h3
    simp at h3
theorem KMM {W W' : World} {base base' : Nat} {ok ok' : Nat → Prop} {x : E} {cs : List Value} (h : kE.M W base ok x cs) : kE.M W' base' ok' x cs := by rw [kE_openM h]; exact kE_mkM _ _ _ _
/-- A cell of the chronicle is stored. -/
theorem CH.put {B : Nat} {w : World} {g : Nat} {v : Value} {ring : List E} {room first many last r2 f2 m2 l2 : Int} (h : CH B w g v ring room first many last) (j : Nat) (u : Value)
    (he : (#[v, .int .i64 room, .int .i64 first, .int .i64 many, .int .i64 last] : Array Value).setIfInBounds j u = #[v, .int .i64 r2, .int .i64 f2, .int .i64 m2, .int .i64 l2]) : CH B (w.setCell ⟨g, j, none⟩ u) g v ring r2 f2 m2 l2 :=
  ⟨by rw [blk_set h.blk, he], by
    have hne := h.ne
    obtain ⟨h0, inner, hown, hr⟩ := h.row
    refine ⟨h0, inner, own_setCell hown (p := ⟨g, j, none⟩) (Ne.symm hne) u, ?_⟩
    exact hr.imp_ (fun p c hp => KMM hp), h.hB⟩
/-- A row of one's own, a cell of a block of another type stored. -/
theorem RE.far {w : World} {B g : Nat} {v : Value} {xs : List E} (h : RE w B v xs) (hne : v.ownBlock ≠ some g) (j : Nat) (u : Value) : RE (w.setCell ⟨g, j, none⟩ u) B v xs := by
  obtain ⟨h0, inner, hown, hr⟩ := h
  exact ⟨h0, inner, own_setCell hown (p := ⟨g, j, none⟩) (Ne.symm hne) u, hr.imp_ (fun p c hp => KMM hp)⟩
theorem CH.put0 {B : Nat} {w : World} {g : Nat} {v v2 : Value} {ring : List E} {room first many last : Int} (hb : w.heap[g]? = some (.cells #[v, .int .i64 room, .int .i64 first, .int .i64 many, .int .i64 last] 65 (0, 0))) (hR : RE w B v2 ring) (hB : B ≤ g) : CH B (w.setCell ⟨g, 0, none⟩ v2) g v2 ring room first many last := by
  have hne : v2.ownBlock ≠ some g := by
    intro e
    obtain ⟨_, inner, ⟨_, hown⟩, _⟩ := hR
    rcases hown with ⟨h1, _⟩ | ⟨g2, cap, cur, h1, _, hh, _⟩
    · rw [h1] at e
      simp [Value.ownBlock] at e
    · rw [h1] at e
      have : g2 = g := by simpa [Value.ownBlock] using e
      subst this
      rw [hh] at hb
      simp at hb
  exact ⟨by rw [blk_set hb]; rfl, hR.far hne 0 v2, hB⟩
/-- An event, out of its parts. -/
def mkE (n a d : Int) (hn : i64 n) (ha : i64 a) (hd : i64 d) (s : ByteArray) : E := ⟨⟨n, hn⟩, ⟨a, ha⟩, ⟨d, hd⟩, s⟩
set_option maxHeartbeats 6400000 in
set_option maxRecDepth 100000 in
theorem tell_app (B g : Nat) (v : Value) (ring : List E) (room first many last a n : Int) (s : ByteArray) (w : World) (h : CH B w g v ring room first many last) (hr : 0 < room) (hs : s.size ≤ 100) (hm : mayB a n s = true) (ho : ¬ a < last)
    (hmany : 0 ≤ many ∧ many ≤ 1000) (hfit : (ring.length : Int) < room) (hrm : room ≤ 1000) (hn : i64 (many + 1)) (ha : i64 a) (hd : i64 n) :
    Calls Tryd.prog 20 #[.pointer (some ⟨g, 0, none⟩), .int .i64 a, .int .i64 n, .string s] w fun e w' => e = .returned (.int .i64 0) ∧ ∃ v', CH B w' g v' (ring ++ [mkE (many + 1) a n hn ha hd s]) room first (many + 1) a ∧ KR g v w w' ∧ (v'.ownBlock = v.ownBlock ∨ ∃ b, v'.ownBlock = some b ∧ w.heap.size ≤ b) := by
  have H := Aside0.mk h
  obtain ⟨A, c, hv, hrc, _⟩ := Kd.R_reads h.row
  subst hv
  have c1 := h.c1
  have r0 : ((room : Int) == 0) = false := by simp; omega
  have HS := Aside0.mk hs
  unfold mayB at hm
  simp only [Bool.and_eq_true, decide_eq_true_eq] at hm
  obtain ⟨⟨⟨h1, h2⟩, h3⟩, h4⟩ := hm
  have k1 : ¬ a < 0 := by omega
  have k2 : ¬ n < 1 := by omega
  have k3 : ¬ 64 < n := by omega
  have HW := Aside0.mk h4
  have m0 := hmany.1
  have m1 := hmany.2
  obtain ⟨p, hp⟩ : ∃ p, mkE (many + 1) a n hn ha hd s = p := ⟨_, rfl⟩
  have HP : Aside0 (p.n.1 = many + 1 ∧ p.a.1 = a ∧ p.d.1 = n ∧ p.s = s) := ⟨by rw [← hp]; exact ⟨rfl, rfl, rfl, rfl⟩⟩
  rw [hp]
  have HLEN : Aside0 (ring.length ≤ 1000) := ⟨by omega⟩
  clear h hs h4 h1 h2 h3 hmany hn ha hd hp
  go_enter Tryd.func20, Tryd.ntmps20
  go_wp2_with fail
  refine (word_calls s w HS.out).mono ?_
  rintro e w1 ⟨rfl, hb⟩
  rw [HW.out]
  have HCH := Aside0.mk (H.out.below hb)
  have HKR := Aside0.mk (KR.of_below (g := g) (v := .slice A ring.length c) hb)
  clear hb c1
  have c4 := HCH.out.c4
  have c3 := HCH.out.c3
  have f3 := blk_frozen HCH.out.blk 3
  have f4 := blk_frozen HCH.out.blk 4
  go_upto_region 12 with (fail)
  refine wp_world (fun W => Aside0 (CH B W g (.slice A ring.length c) ring room first (many + 1) a) ∧ Aside0 (KR g (.slice A ring.length c) w W)) ⟨⟨(HCH.out.put 3 (.int .i64 (many + 1)) rfl).put 4 (.int .i64 a) rfl⟩, ⟨(HKR.out.trans (KR.set 3 _)).trans (KR.set 4 _)⟩⟩ ?_
  clear HCH HKR c4 c3 f3 f4
  rintro w2 ⟨HCH, HKR⟩
  have c3 := HCH.out.c3
  go_upto_region 13 with (fail)
  obtain ⟨ge, hge⟩ : ∃ ge, w2.heap.size = ge := ⟨_, rfl⟩
  refine wp_world (fun W => Aside0 (CH B W g (.slice A ring.length c) ring room first (many + 1) a) ∧ Aside0 (KR g (.slice A ring.length c) w W) ∧ Aside0 (W.heap[ge]? = some (.cells #[.int .i64 p.n.1, .int .i64 p.a.1, .int .i64 p.d.1, .string p.s] 93 (0, 0)) ∧ w.heap.size ≤ ge)) ⟨⟨HCH.out.below (below_alloc (Below.refl _ _) _)⟩, ⟨HKR.out.trans (KR.of_below (below_alloc (Below.refl _ _) _))⟩, ⟨by
    rw [HP.out.1, HP.out.2.1, HP.out.2.2.1, HP.out.2.2.2, ← hge]
    exact blk_new w2 _, by rw [← hge]; exact HKR.out.size⟩⟩ ?_
  rw [hge]
  clear HCH HKR c3 hge
  rintro w3 ⟨HCH, HKR, HE⟩
  have c0 := HCH.out.c0
  have c1 := HCH.out.c1
  go_quiet (fail)
  go_wp2_with fail
  have e0 := blk_cell HE.out.1 0
  have e1 := blk_cell HE.out.1 1
  have e2 := blk_cell HE.out.1 2
  have e3 := blk_cell HE.out.1 3
  simp at e0 e1 e2 e3
  refine wp_world (fun W => Aside0 (CH B W g (.slice A ring.length c) ring room first (many + 1) a) ∧ Aside0 (KR g (.slice A ring.length c) w W) ∧ Aside0 (W.heap[ge]? = some (.cells #[.int .i64 p.n.1, .int .i64 p.a.1, .int .i64 p.d.1, .string p.s] 93 (0, 0)) ∧ w.heap.size ≤ ge)) ⟨⟨HCH.out.below (pw_below_drewN (Below.refl _ _) _)⟩, ⟨HKR.out.trans (KR.of_below (pw_below_drewN (Below.refl _ _) _))⟩, ⟨blk_below HE.out.1 (pw_below_drewN (Below.refl _ _) _), HE.out.2⟩⟩ ?_
  clear HCH HKR HE c0 c1 e0 e1 e2 e3
  rintro w4 ⟨HCH, HKR, HE⟩
  have c0 := HCH.out.c0
  have e0 := blk_cell HE.out.1 0
  have e1 := blk_cell HE.out.1 1
  have e2 := blk_cell HE.out.1 2
  have e3 := blk_cell HE.out.1 3
  simp at e0 e1 e2 e3
  have l0 := blk_lt HCH.out.blk
  have l1 := blk_lt HE.out.1
  have hfc := blk_cell (blk_alloc HCH.out.blk (.cells #[.int .i64 p.n.1, .int .i64 p.a.1, .int .i64 p.d.1, .string p.s] 93)) 0
  simp at hfc
  go_cut [] (fun wx => ∃ v', Aside0 (CH B wx g v' (ring ++ [p]) room first (many + 1) a) ∧ Aside0 (KR g (.slice A ring.length c) w wx) ∧ Aside0 (v'.ownBlock = (Value.slice A ring.length c).ownBlock ∨ ∃ b, v'.ownBlock = some b ∧ w.heap.size ≤ b))
  case first =>
    go_region_law (refine step_app93 B (.slice A ring.length c) ring p w4.heap.size rfl (.tmp 70) (.tmp 72) rfl (by simp [Act.eval, Act.put]) (by simp [Act.eval, Act.put]) (by (with_reducible repeat (first | apply Kd.R_alloc | apply Kd.R_drewN | apply Kd.R_drew)); exact HCH.out.row) (by first | exact blk_new _ _ | exact blk_drewN (blk_new _ _) _) (by first | (have := HCH.out.hB; simp; omega)) (by have := HLEN.out; omega) ?_; intro g2 cap w5 hR hg hgr hat; have hbk := (by first | exact blk_grown (blk_drew (blk_alloc HCH.out.blk _)) hgr (Ne.symm HCH.out.ne) | exact blk_grown (blk_drew (blk_alloc (blk_drew HCH.out.blk) _)) hgr (Ne.symm HCH.out.ne) | exact blk_grown (blk_alloc (blk_drew HCH.out.blk) _) hgr (Ne.symm HCH.out.ne) | exact blk_grown (blk_alloc HCH.out.blk _) hgr (Ne.symm HCH.out.ne) : w5.heap[g]? = some (.cells #[.slice A ring.length c, .int .i64 room, .int .i64 first, .int .i64 (many + 1), .int .i64 a] 65 (0, 0))); have c9 := blk_cell hbk 0; have f9 := blk_frozen hbk 0; have HRR := Aside0.mk hR; have HGR := Aside0.mk hgr; have HAT := Aside0.mk hat; have HBK := Aside0.mk hbk; clear hR hg hgr hat hbk; simp at c9)
    all_goals
      have hX := CH.put0 (v2 := .slice (some ⟨g2, 0, none⟩) (ring.length + 1) cap) HBK.out HRR.out HCH.out.hB
      have hK := ((HKR.out.trans (KR.of_below (by repeat (first | (with_reducible first | exact Below.refl _ _ | apply below_alloc | apply pw_below_drewN | apply below_drew1))))).trans (KR.grown HGR.out)).trans (KR.set 0 (.slice (some ⟨g2, 0, none⟩) (ring.length + 1) cap))
      have hO : (Value.slice (some ⟨g2, 0, none⟩) (ring.length + 1) cap).ownBlock = (Value.slice A ring.length c).ownBlock ∨ ∃ b, (Value.slice (some ⟨g2, 0, none⟩) (ring.length + 1) cap).ownBlock = some b ∧ w.heap.size ≤ b := by
        rcases HAT.out with e | e
        · exact .inl e.symm
        · exact .inr ⟨g2, rfl, by have := HKR.out.size; rw [e]; simp; omega⟩
      go_wp2_with fail
      go_meet
      exact ⟨_, ⟨hX⟩, ⟨hK⟩, ⟨hO⟩⟩
  case rest =>
    obtain ⟨v', HC, HK, HO⟩ := hcut
    go_wp2
    go_ret
    exact ⟨rfl, v', HC.out, HK.out, HO.out⟩
end Go.Proofs.YthimnnnfgangbaaDoor.Cn

namespace Go.Proofs.YthimnnnfgangbaaDoor.Cn
open Go.RowKit Go.Proofs.YthimnnnfgangbaaDoorW.PrintWords Go.Proofs.YthimnnnfgangbaaDoorW.PrintLast Go.Proofs.YthimnnnfgangbaaDoorW.PrintMore Go.Proofs.YthimnnnfgangbaaDoor.Qr
theorem RE_open {w : World} {B : Nat} {v : Value} {xs : List E} (h : RE w B v xs) (hne : 0 < xs.length) : ∃ g c, v = .slice (some ⟨g, 0, none⟩) xs.length c ∧ xs.length ≤ c ∧ B ≤ g := by
  obtain ⟨A, c, rfl, hc, hC⟩ := Kd.R_reads h
  have hb := Kd.R_base h
  obtain ⟨_, inner, ⟨_, hown⟩, _⟩ := h
  rcases hown with ⟨h1, _⟩ | ⟨g, cap, cur, h1, hg, _⟩
  · simp at h1
    omega
  · injection h1 with h1
    subst h1
    exact ⟨g, c, rfl, hc, hg⟩
theorem RE_blk {w : World} {B g n c : Nat} {xs : List E} (h : RE w B (.slice (some ⟨g, 0, none⟩) n c) xs) : ∃ cur, w.heap[g]? = some (.cells cur 93 (0, 0)) := by
  obtain ⟨_, inner, ⟨_, hown⟩, _⟩ := h
  rcases hown with ⟨h1, _⟩ | ⟨g2, cap, cur, h1, _, hh, _⟩
  · simp at h1
  · injection h1 with h1
    injection h1 with h1
    injection h1 with h1
    subst h1
    exact ⟨cur, hh⟩
theorem RE_cells {w : World} {B g n c : Nat} {xs : List E} (h : RE w B (.slice (some ⟨g, 0, none⟩) n c) xs) {k : Nat} {x : E} (hx : xs[k]? = some x) :
    w.cell? ⟨g, k * 4, none⟩ = some (.int .i64 x.n.1) ∧ w.cell? ⟨g, k * 4 + 1, none⟩ = some (.int .i64 x.a.1) ∧ w.cell? ⟨g, k * 4 + 2, none⟩ = some (.int .i64 x.d.1) ∧ w.cell? ⟨g, k * 4 + 3, none⟩ = some (.string x.s) := by
  obtain ⟨_, _, hC⟩ := Kd.R_reads' h
  have hk := (List.getElem?_eq_some_iff.1 hx).1
  obtain ⟨ad, y, cs, he, hy, hK, hc0⟩ := el_at zE hC hk
  injection he with he
  subst he
  rw [hx] at hy
  injection hy with hy
  subst hy
  obtain rfl := kE_open hK
  have hc : ∀ j u, (cE x)[j]? = some u → w.cell? ⟨g, k * 4 + j, none⟩ = some u := by
    intro j u hu
    have := hc0 j u hu
    rw [Addr.add_mid, Nat.zero_add] at this
    exact this
  exact ⟨hc 0 _ rfl, hc 1 _ rfl, hc 2 _ rfl, hc 3 _ rfl⟩
theorem CH.putrow {B : Nat} {w : World} {g gv n c : Nat} {ring : List E} {room first many last : Int} (h : CH B w g (.slice (some ⟨gv, 0, none⟩) n c) ring room first many last) {k : Nat} (hk : k < ring.length) (p : E) :
    CH B ((((w.setCell ⟨gv, k * 4, none⟩ (.int .i64 p.n.1)).setCell ⟨gv, k * 4 + 1, none⟩ (.int .i64 p.a.1)).setCell ⟨gv, k * 4 + 2, none⟩ (.int .i64 p.d.1)).setCell ⟨gv, k * 4 + 3, none⟩ (.string p.s)) g (.slice (some ⟨gv, 0, none⟩) n c) (ring.set k p) room first many last := by
  have hne : g ≠ gv := fun e => h.ne (by rw [e]; rfl)
  exact ⟨blk_far (p := ⟨gv, k * 4 + 3, none⟩) (blk_far (p := ⟨gv, k * 4 + 2, none⟩) (blk_far (p := ⟨gv, k * 4 + 1, none⟩) (blk_far (p := ⟨gv, k * 4, none⟩) h.blk hne _) hne _) hne _) hne _, RE_put h.row hk p, h.hB⟩
set_option maxHeartbeats 6400000 in
set_option maxRecDepth 100000 in
theorem tell_put (B g : Nat) (v : Value) (ring : List E) (room first many last a n : Int) (s : ByteArray) (w : World) (h : CH B w g v ring room first many last) (hr : 0 < room) (hs : s.size ≤ 100) (hm : mayB a n s = true) (ho : ¬ a < last)
    (hmany : 0 ≤ many ∧ many ≤ 1000) (hfit : (ring.length : Int) = room) (k : Nat) (hk : k < ring.length) (hfk : first = (k : Int)) (hrm : room ≤ 1000) (hn : i64 (many + 1)) (ha : i64 a) (hd : i64 n) :
    Calls Tryd.prog 20 #[.pointer (some ⟨g, 0, none⟩), .int .i64 a, .int .i64 n, .string s] w fun e w' => e = .returned (.int .i64 0) ∧ CH B w' g v (ring.set k (mkE (many + 1) a n hn ha hd s)) room (((k + 1) % ring.length : Nat) : Int) (many + 1) a ∧ KR g v w w' := by
  have H := Aside0.mk h
  obtain ⟨gv, c, hv, hrc, hgv⟩ := RE_open h.row (by omega)
  subst hv
  subst hfk
  have c1 := h.c1
  have r0 : ((room : Int) == 0) = false := by simp; omega
  have HS := Aside0.mk hs
  unfold mayB at hm
  simp only [Bool.and_eq_true, decide_eq_true_eq] at hm
  obtain ⟨⟨⟨h1, h2⟩, h3⟩, h4⟩ := hm
  have k1 : ¬ a < 0 := by omega
  have k2 : ¬ n < 1 := by omega
  have k3 : ¬ 64 < n := by omega
  have HW := Aside0.mk h4
  have m0 := hmany.1
  have m1 := hmany.2
  obtain ⟨p, hp⟩ : ∃ p, mkE (many + 1) a n hn ha hd s = p := ⟨_, rfl⟩
  have HP : Aside0 (p.n.1 = many + 1 ∧ p.a.1 = a ∧ p.d.1 = n ∧ p.s = s) := ⟨by rw [← hp]; exact ⟨rfl, rfl, rfl, rfl⟩⟩
  rw [hp]
  have HLEN : Aside0 (ring.length ≤ 1000) := ⟨by omega⟩
  clear h hs h4 h1 h2 h3 hmany hn ha hd hp
  go_enter Tryd.func20, Tryd.ntmps20
  go_wp2_with fail
  refine (word_calls s w HS.out).mono ?_
  rintro e w1 ⟨rfl, hb⟩
  rw [HW.out]
  have HCH := Aside0.mk (H.out.below hb)
  have HKR := Aside0.mk (KR.of_below (g := g) (v := .slice (some ⟨gv, 0, none⟩) ring.length c) hb)
  clear hb c1
  have c4 := HCH.out.c4
  have c3 := HCH.out.c3
  have f3 := blk_frozen HCH.out.blk 3
  have f4 := blk_frozen HCH.out.blk 4
  go_upto_region 12 with (fail)
  refine wp_world (fun W => Aside0 (CH B W g (.slice (some ⟨gv, 0, none⟩) ring.length c) ring room (k : Int) (many + 1) a) ∧ Aside0 (KR g (.slice (some ⟨gv, 0, none⟩) ring.length c) w W)) ⟨⟨(HCH.out.put 3 (.int .i64 (many + 1)) rfl).put 4 (.int .i64 a) rfl⟩, ⟨(HKR.out.trans (KR.set 3 _)).trans (KR.set 4 _)⟩⟩ ?_
  clear HCH HKR c4 c3 f3 f4
  rintro w2 ⟨HCH, HKR⟩
  have c3 := HCH.out.c3
  go_upto_region 13 with (fail)
  obtain ⟨ge, hge⟩ : ∃ ge, w2.heap.size = ge := ⟨_, rfl⟩
  refine wp_world (fun W => Aside0 (CH B W g (.slice (some ⟨gv, 0, none⟩) ring.length c) ring room (k : Int) (many + 1) a) ∧ Aside0 (KR g (.slice (some ⟨gv, 0, none⟩) ring.length c) w W) ∧ Aside0 (W.heap[ge]? = some (.cells #[.int .i64 p.n.1, .int .i64 p.a.1, .int .i64 p.d.1, .string p.s] 93 (0, 0)) ∧ w.heap.size ≤ ge)) ⟨⟨HCH.out.below (below_alloc (Below.refl _ _) _)⟩, ⟨HKR.out.trans (KR.of_below (below_alloc (Below.refl _ _) _))⟩, ⟨by
    rw [HP.out.1, HP.out.2.1, HP.out.2.2.1, HP.out.2.2.2, ← hge]
    exact blk_new w2 _, by rw [← hge]; exact HKR.out.size⟩⟩ ?_
  rw [hge]
  clear HCH HKR c3 hge
  rintro w3 ⟨HCH, HKR, HE⟩
  have c0 := HCH.out.c0
  have c1 := HCH.out.c1
  have hfit2 : ¬ (ring.length : Int) < room := by omega
  go_quiet (fail)
  go_wp2_with fail
  have e0 := blk_cell HE.out.1 0
  have e1 := blk_cell HE.out.1 1
  have e2 := blk_cell HE.out.1 2
  have e3 := blk_cell HE.out.1 3
  simp at e0 e1 e2 e3
  refine wp_world (fun W => Aside0 (CH B W g (.slice (some ⟨gv, 0, none⟩) ring.length c) ring room (k : Int) (many + 1) a) ∧ Aside0 (KR g (.slice (some ⟨gv, 0, none⟩) ring.length c) w W) ∧ Aside0 (W.heap[ge]? = some (.cells #[.int .i64 p.n.1, .int .i64 p.a.1, .int .i64 p.d.1, .string p.s] 93 (0, 0)) ∧ w.heap.size ≤ ge)) ⟨⟨HCH.out.below (pw_below_drewN (Below.refl _ _) _)⟩, ⟨HKR.out.trans (KR.of_below (pw_below_drewN (Below.refl _ _) _))⟩, ⟨blk_below HE.out.1 (pw_below_drewN (Below.refl _ _) _), HE.out.2⟩⟩ ?_
  clear HCH HKR HE c0 c1 e0 e1 e2 e3
  rintro w4 ⟨HCH, HKR, HE⟩
  have c0 := HCH.out.c0
  have e0 := blk_cell HE.out.1 0
  have e1 := blk_cell HE.out.1 1
  have e2 := blk_cell HE.out.1 2
  have e3 := blk_cell HE.out.1 3
  simp at e0 e1 e2 e3
  have c2 := HCH.out.c2
  have c1 := HCH.out.c1
  obtain ⟨x, hx⟩ : ∃ x, ring[k]? = some x := ⟨_, List.getElem?_eq_getElem hk⟩
  obtain ⟨d0, d1, d2, d3⟩ := RE_cells HCH.out.row hx
  obtain ⟨cur, hcur⟩ := RE_blk HCH.out.row
  have fz0 := blk_frozen hcur (k * 4)
  have fz1 := blk_frozen hcur (k * 4 + 1)
  have fz2 := blk_frozen hcur (k * 4 + 2)
  have fz3 := blk_frozen hcur (k * 4 + 3)
  have hk5 : (k : Int) ≤ 1000 := by have := HLEN.out; omega
  have hkl : (k : Int) < (ring.length : Int) := by omega
  have HKL := Aside0.mk hk
  clear hx hcur hk
  go_region
  have hX := (HCH.out.putrow HKL.out p).below (below_drew (Below.refl _ _))
  have hK := ((((HKR.out.trans (KR.setv (k * 4) (.int .i64 p.n.1))).trans (KR.setv (k * 4 + 1) (.int .i64 p.a.1))).trans (KR.setv (k * 4 + 2) (.int .i64 p.d.1))).trans (KR.setv (k * 4 + 3) (.string p.s))).trans (KR.of_below (below_drew (Below.refl _ _)))
  have HX := Aside0.mk hX
  have HKX := Aside0.mk hK
  clear hX hK
  go_wp2_with fail
  refine wp_world (fun W => Aside0 (CH B W g (.slice (some ⟨gv, 0, none⟩) ring.length c) (ring.set k p) room (k : Int) (many + 1) a) ∧ Aside0 (KR g (.slice (some ⟨gv, 0, none⟩) ring.length c) w W)) ⟨HX, HKX⟩ ?_
  clear HX HKX HCH HKR HE c0 c1 c2 d0 d1 d2 d3 fz0 fz1 fz2 fz3 e0 e1 e2 e3
  rintro w5 ⟨HCH, HKR⟩
  have c2 := HCH.out.c2
  have c1 := HCH.out.c1
  have f2 := blk_frozen HCH.out.blk 2
  have hmod : ((k : Int) + 1) % room = (((k + 1) % ring.length : Nat) : Int) := by rw [← hfit]; simp
  have HMOD := Aside0.mk hmod
  clear hmod
  go_region
  rw [HMOD.out]
  have hX := (HCH.out.put 2 (.int .i64 (((k + 1) % ring.length : Nat) : Int)) (r2 := room) (f2 := (((k + 1) % ring.length : Nat) : Int)) (m2 := many + 1) (l2 := a) rfl).below (below_drew (Below.refl _ _))
  have hK := (HKR.out.trans (KR.set 2 (.int .i64 (((k + 1) % ring.length : Nat) : Int)))).trans (KR.of_below (below_drew (Below.refl _ _)))
  have HX := Aside0.mk hX
  have HKX := Aside0.mk hK
  clear hX hK
  go_wp2
  go_ret
  exact ⟨rfl, HX.out, HKX.out⟩
end Go.Proofs.YthimnnnfgangbaaDoor.Cn

namespace Go.Proofs.YthimnnnfgangbaaDoor.Cn
open Go.RowKit Go.Proofs.YthimnnnfgangbaaDoorW.PrintWords Go.Proofs.YthimnnnfgangbaaDoorW.PrintLast Go.Proofs.YthimnnnfgangbaaDoorW.PrintMore Go.Proofs.YthimnnnfgangbaaDoor.Qr
theorem addr_zero (a : Addr) : a.add 0 = a := by
  unfold Addr.add
  split <;> simp_all
theorem elem49 : Tryd.prog.elem 49 = 93 := by simp [Program.elem, Tryd.underlying49]
theorem cut_hd (A : Option Addr) (n c k : Nat) (hk : k ≤ c) (W : World) : (Instr.slice 49 (.slice A n c) none (some (.int .i64 k)) none).run Tryd.prog W = .ok (.slice A k c) W := by
  obtain ⟨i, hi, _, hs, _⟩ := info93x
  rw [run_slice_h W 49 A n c (by rw [elem49]; exact Tryd.underlying49) .i64 k (by omega) (by omega), elem49]
  simp [sizeOf, typeInfo, hi, hs, sliced, Result.andThen, addr_zero]
/-- Where the tail of a slice lies. -/
def tlA (A : Option Addr) (c k : Nat) : Option Addr := if c = k then A else A.map (·.add (k * 4))
theorem cut_tl (A : Option Addr) (n c k : Nat) (hk : k ≤ n) (W : World) : (Instr.slice 49 (.slice A n c) (some (.int .i64 k)) none none).run Tryd.prog W = .ok (.slice (tlA A c k) (n - k) (c - k)) W := by
  obtain ⟨i, hi, _, hs, _⟩ := info93x
  rw [run_slice_l W 49 A n c (by rw [elem49]; exact Tryd.underlying49) .i64 k (by omega) (by omega), elem49]
  simp [sizeOf, typeInfo, hi, hs, sliced, Result.andThen, tlA]
theorem C_hd {w : World} {A : Option Addr} {xs : List E} (h : Kd.C kE w A xs.length xs) {k : Nat} (hk : k ≤ xs.length) : Kd.C kE w A (xs.take k).length (xs.take k) := Kd.C_take h hk
theorem C_tl {w : World} {A : Option Addr} {xs : List E} (h : Kd.C kE w A xs.length xs) {k c : Nat} (hk : k ≤ xs.length) (hc : xs.length ≤ c) : Kd.C kE w (tlA A c k) (xs.drop k).length (xs.drop k) := Kd.C_drop h hk hc
theorem all_nil (w : World) : Calls Tryd.prog 46 #[.pointer none] w fun e w' => e = .returned (.slice none 0 0) ∧ w = w' := by
  go_enter Tryd.func46, Tryd.ntmps46
  go_wp2
  go_ret
  exact ⟨rfl, rfl⟩
theorem keepA {w W : World} {a0 a1 : Addr} {v0 v1 : Value} (hb : Below w.heap.size w W) (h0 : w.cell? a0 = some v0) (h1 : w.cell? a1 = some v1) : (W.cell? a0 = some v0 ∧ W.cell? a1 = some v1) ∧ Aside0 (Below w.heap.size w W) := ⟨⟨pw_cell_below hb h0, pw_cell_below hb h1⟩, ⟨hb⟩⟩
set_option maxHeartbeats 3200000 in
set_option maxRecDepth 100000 in
theorem all_calls (B g : Nat) (v : Value) (ring : List E) (room many last : Int) (k : Nat) (w : World) (h : CH B w g v ring room (k : Int) many last) (hk : k ≤ ring.length) (hl : ring.length ≤ 1000) :
    Calls Tryd.prog 46 #[.pointer (some ⟨g, 0, none⟩)] w fun e w' => ∃ v', e = .returned v' ∧ RE w' w.heap.size v' (ring.drop k ++ ring.take k) ∧ Below w.heap.size w w' := by
  have H := Aside0.mk h
  obtain ⟨A, c, hv, hrc, hC⟩ := Kd.R_reads h.row
  subst hv
  have c0 := h.c0
  have c2 := h.c2
  have HC := Aside0.mk hC
  have j0 := fun W => cut_hd A ring.length c k (by omega) W
  have j1 := fun W => cut_tl A ring.length c k hk W
  have HCON : Aside0 (∀ (W : World) (gb : Nat), W.heap[gb]? = some (.cells #[.slice (tlA A c k) (ring.length - k) (c - k), .slice A k c] 49 (0, 0)) → Below w.heap.size w W → Calls Tryd.prog 70 #[.slice (some ⟨gb, 0, none⟩) 2 2] W fun e w' => ∃ v', e = .returned v' ∧ RE w' w.heap.size v' (ring.drop k ++ ring.take k) ∧ Below w.heap.size w w') := ⟨fun W gb hb hW => by
    have hld : (ring.drop k).length = ring.length - k := List.length_drop
    have hlt : (ring.take k).length = k := by rw [List.length_take]; omega
    refine (concat_calls gb (tlA A c k) A (c - k) c (ring.drop k) (ring.take k) W (by rw [hld, hlt]; exact hb) (Kd.C_below (C_tl hC hk hrc) hW) (Kd.C_below (C_hd hC hk) hW) (by rw [hld, hlt]; omega)).mono ?_
    rintro e w' ⟨v', he, hR, hb'⟩
    exact ⟨v', he, Kd.R_lower hR hW.size, below_step hW hb'⟩⟩
  clear h hC hl hk hrc
  go_enter Tryd.func46, Tryd.ntmps46
  go_wp2_with fail
  have HC1 := Aside0.mk (HCON.out (w.drew.alloc (.cells #[.slice (tlA A c k) (ring.length - k) (c - k), .slice A k c] 49)) w.heap.size (blk_new w.drew _) (below_alloc (below_drew (Below.refl _ _)) _))
  have HC2 := Aside0.mk (HCON.out (w.alloc (.cells #[.slice (tlA A c k) (ring.length - k) (c - k), .slice A k c] 49)).drew w.heap.size (blk_new w _) (below_drew (below_alloc (Below.refl _ _) _)))
  go_region_held3 (fun W => (W.cell? ⟨g, 0, none⟩ = some (.slice A ring.length c) ∧ W.cell? ⟨g, 2, none⟩ = some (.int .i64 (k : Int))) ∧ Aside0 (Below w.heap.size w W))
    ((first | (with_reducible assumption) | exact ⟨⟨c0, c2⟩, ⟨below_drew (Below.refl _ _)⟩⟩ | exact ⟨⟨c0, c2⟩, ⟨Below.refl _ _⟩⟩ | exact keepA (below_alloc (below_drew (Below.refl _ _)) _) c0 c2 | exact keepA (below_alloc (Below.refl _ _) _) c0 c2 | exact keepA (below_drew (below_alloc (Below.refl _ _) _)) c0 c2))
    (first
      | (go_at_call 70; (with_reducible refine HC1.out.mono ?_); rintro e w' ⟨v', rfl, hR, hb⟩; have HR := Aside0.mk hR; have HB := Aside0.mk hb; have hS' := keepA hb c0 c2; clear hR hb)
      | (go_at_call 70; (with_reducible refine HC2.out.mono ?_); rintro e w' ⟨v', rfl, hR, hb⟩; have HR := Aside0.mk hR; have HB := Aside0.mk hb; have hS' := keepA hb c0 c2; clear hR hb))
  clear hS'
  go_wp2
  go_ret
  exact ⟨v', rfl, HR.out, HB.out⟩
theorem many_nil (w : World) : Calls Tryd.prog 28 #[.pointer none] w fun e w' => e = .returned (.int .i64 0) ∧ w = w' := by
  go_enter Tryd.func28, Tryd.ntmps28
  go_wp2
  go_ret
  exact ⟨rfl, rfl⟩
theorem many_calls (B g : Nat) (v : Value) (ring : List E) (room first many last : Int) (w : World) (h : CH B w g v ring room first many last) : Calls Tryd.prog 28 #[.pointer (some ⟨g, 0, none⟩)] w fun e w' => e = .returned (.int .i64 many) ∧ w = w' := by
  have c3 := h.c3
  clear h
  go_enter Tryd.func28, Tryd.ntmps28
  go_wp2
  go_ret
  exact ⟨rfl, rfl⟩
/-- The last ones, so many. -/
def lastN (xs : List E) (n : Int) : List E := xs.drop (xs.length - (min (max n 0) (xs.length : Int)).toNat)
set_option maxHeartbeats 1600000 in
theorem last_nil (n : Int) (w : World) : Calls Tryd.prog 25 #[.pointer none, .int .i64 n] w fun e w' => e = .returned (.slice none 0 0) ∧ w = w' := by
  have j1 := fun W => cut_tl none 0 0 0 (Nat.le_refl _) W
  have HM : Aside0 (min (max n 0) 0 = 0) := ⟨by omega⟩
  simp only [tlA, if_true] at j1
  go_enter Tryd.func25, Tryd.ntmps25
  go_wp2_with fail
  refine (all_nil w).mono ?_
  rintro e w1 ⟨rfl, rfl⟩
  go_wp2
  go_ret
  exact ⟨rfl, rfl⟩
set_option maxHeartbeats 1600000 in
set_option maxRecDepth 100000 in
theorem last_calls (B g : Nat) (v : Value) (ring : List E) (room many last : Int) (k : Nat) (n : Int) (w : World) (h : CH B w g v ring room (k : Int) many last) (hk : k ≤ ring.length) (hl : ring.length ≤ 1000) :
    Calls Tryd.prog 25 #[.pointer (some ⟨g, 0, none⟩), .int .i64 n] w fun e w' => ∃ A c, e = .returned (.slice A (lastN (ring.drop k ++ ring.take k) n).length c) ∧ Kd.C kE w' A (lastN (ring.drop k ++ ring.take k) n).length (lastN (ring.drop k ++ ring.take k) n) ∧ Below w.heap.size w w' := by
  have H := Aside0.mk h
  have HK := Aside0.mk hk
  have HL := Aside0.mk hl
  clear h hk hl
  go_enter Tryd.func25, Tryd.ntmps25
  go_wp2_with fail
  refine (all_calls B g v ring room many last k w H.out HK.out HL.out).mono ?_
  obtain ⟨xs, hxs⟩ : ∃ xs, ring.drop k ++ ring.take k = xs := ⟨_, rfl⟩
  have HXS := Aside0.mk hxs
  have HXL : Aside0 (xs.length ≤ 1000) := ⟨by rw [← hxs, List.length_append, List.length_drop, List.length_take]; have := HL.out; omega⟩
  rw [hxs]
  rintro e w1 ⟨v', rfl, hR, hb⟩
  obtain ⟨A, c, rfl, hc, hC⟩ := Kd.R_reads hR
  obtain ⟨m, hm⟩ : ∃ m : Nat, xs.length - (min (max n 0) (xs.length : Int)).toNat = m := ⟨_, rfl⟩
  have hmm : (xs.length : Int) - min (max n 0) (xs.length : Int) = (m : Int) := by omega
  have hml : m ≤ xs.length := by omega
  have j1 := fun W => cut_tl A xs.length c m hml W
  have HD : Aside0 (lastN xs n = xs.drop m) := ⟨by unfold lastN; rw [hm]⟩
  have HC2 : Aside0 (Kd.C kE w1 (tlA A c m) (xs.drop m).length (xs.drop m)) := ⟨C_tl hC hml hc⟩
  have HLD : Aside0 (xs.length - m = (xs.drop m).length) := ⟨List.length_drop.symm⟩
  have HB := Aside0.mk hb
  have HMM := Aside0.mk hmm
  have n5 : (xs.length : Int) ≤ 1000 := by have := HXL.out; omega
  clear hR hc hC hb hm hmm hml hxs
  rw [← HMM.out] at j1
  have z0 : 0 ≤ min (max n 0) (xs.length : Int) := by omega
  have z1 : min (max n 0) (xs.length : Int) ≤ (xs.length : Int) := by omega
  have jw : wrap64 ((xs.length : Int) - min (max n 0) (xs.length : Int)) = (xs.length : Int) - min (max n 0) (xs.length : Int) := by rw [HMM.out]; have := HXL.out; exact wrN m (by have := HLD.out; have := List.length_drop (l := xs) (i := m); have := HMM.out; omega)
  go_wp2
  go_ret
  exact ⟨tlA A c m, c - m, by rw [HXS.out, HD.out, ← HLD.out]; rfl, by rw [HXS.out, HD.out]; exact HC2.out, HB.out⟩
end Go.Proofs.YthimnnnfgangbaaDoor.Cn
