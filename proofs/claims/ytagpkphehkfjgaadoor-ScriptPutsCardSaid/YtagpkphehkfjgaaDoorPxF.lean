/- Contracts of the code's number, Address, Parse, for every text of bounded length. -/
import Derived.Test.YtagpkphehkfjgaaDoorPxE
set_option linter.unusedVariables false
set_option linter.unusedSimpArgs false
namespace Go.Proofs.YtagpkphehkfjgaaDoor.Px
open Go.RowKit Go.Sort Go.Proofs.YtagpkphehkfjgaaDoorW.PrintWords Go.Proofs.YtagpkphehkfjgaaDoorW.PrintLast Go.Proofs.YtagpkphehkfjgaaDoorW.PrintMore
/-- What the number reader answers. -/
def ND (l : List UInt8) (most : Nat) (v : Int) (b : Bool) : Prop := (b = true ∧ ∃ n : Nat, IsNum l most n ∧ v = n) ∨ (b = false ∧ ∀ n, ¬ IsNum l most n)
set_option maxHeartbeats 1600000 in
set_option maxRecDepth 100000 in
theorem number_calls (l : List UInt8) (most : Nat) (w : World) (hl : l.length ≤ 100000) (hm : most ≤ 1000000000000) (hg : Gl w) :
    Calls Tryd.prog 35 #[Sv l, .int .i64 most] w fun e w' => (∃ v b, e = .returned (.tuple #[.int .i64 v, .bool b]) ∧ ND l most v b) ∧ Below w.heap.size w w' := by
  have HG := Aside0.mk hg
  have HL := Aside0.mk hl
  have HM := Aside0.mk hm
  clear hg hl hm
  go_enter Tryd.func35, Tryd.ntmps35
  go_wp2_with fail
  refine (atoi_calls l w HL.out HG.out).mono ?_
  rintro e w1 ⟨⟨v, er, rfl, h⟩, hb⟩
  have HB := Aside0.mk hb
  clear hb
  have HI := Aside0.mk (num_iff l most (by have := HM.out; omega) v)
  rcases h with ⟨rfl, ha⟩ | ⟨N, rfl, ha⟩
  · by_cases h0 : 0 ≤ v
    · have d0 : decide (0 ≤ v) = true := decide_eq_true h0
      by_cases h1 : v ≤ (most : Int)
      · have d1 : decide (v ≤ (most : Int)) = true := decide_eq_true h1
        have H0 := Aside0.mk h0
        have H1 := Aside0.mk h1
        have HA := Aside0.mk ha
        clear h0 h1 ha
        go_wp2_with fail
        refine (itoa_calls v (by have := H0.out; omega) (by have := H1.out; have := HM.out; omega) _ (HG.out.below HB.out).tab).mono ?_
        rintro e w2 ⟨rfl, hb⟩
        have HB2 := Aside0.mk (below_step HB.out hb)
        clear hb
        by_cases h2 : Lib.itoa v = l
        · have hq : (Lib.itoa v == l) = true := beq_iff_eq.2 h2
          have HE : Aside0 (ND l most v true) := ⟨Or.inl ⟨rfl, by
            obtain ⟨n, h3, h4, h5⟩ := HI.out.1 ⟨HA.out, H0.out, H1.out, h2⟩
            exact ⟨n, ⟨h3, h4⟩, h5⟩⟩⟩
          clear h2
          go_wp2
          go_ret2
          exact ⟨⟨_, _, rfl, HE.out⟩, HB2.out⟩
        · have hq : (Lib.itoa v == l) = false := beq_eq_false_iff_ne.2 h2
          have HE : Aside0 (ND l most v false) := ⟨Or.inr ⟨rfl, fun n hn => h2 (by
            have := (HI.out.2 ⟨n, hn.1, hn.2, by
              have ha := HA.out
              rw [hn.1, atoi_dd (by have := hn.2; have := HM.out; omega)] at ha
              injection ha with ha
              exact ha.symm⟩).2.2.2
            exact this)⟩⟩
          clear h2
          go_wp2
          go_ret2
          exact ⟨⟨_, _, rfl, HE.out⟩, HB2.out⟩
      · have d1 : decide (v ≤ (most : Int)) = false := decide_eq_false h1
        have HE : Aside0 (ND l most v false) := ⟨Or.inr ⟨rfl, fun n hn => h1 (by
          rw [hn.1, atoi_dd (by have := hn.2; have := HM.out; omega)] at ha
          injection ha with ha
          have := hn.2
          omega)⟩⟩
        clear h0 h1 ha
        go_wp2
        go_ret2
        exact ⟨⟨_, _, rfl, HE.out⟩, HB.out⟩
    · have d0 : decide (0 ≤ v) = false := decide_eq_false h0
      have HE : Aside0 (ND l most v false) := ⟨Or.inr ⟨rfl, fun n hn => h0 (by
        rw [hn.1, atoi_dd (by have := hn.2; have := HM.out; omega)] at ha
        injection ha with ha
        omega)⟩⟩
      clear h0 ha
      go_wp2
      go_ret2
      exact ⟨⟨_, _, rfl, HE.out⟩, HB.out⟩
  · have HE : Aside0 (ND l most v false) := ⟨Or.inr ⟨rfl, fun n hn => by
      have h := hn.2
      exact ha _ (by rw [hn.1]; exact atoi_dd (by have := HM.out; omega))⟩⟩
    clear ha
    go_wp2
    go_ret2
    exact ⟨⟨_, _, rfl, HE.out⟩, HB.out⟩
/-- A cell of a row of texts. -/
theorem ws_cell {W : World} {g : Nat} {ws : List (List UInt8)} {x : List UInt8} {j : Nat} (h : W.heap[g]? = some (.cells (ws.map Sv).toArray 9 (0, 0))) (hx : ws[j]? = some x) : W.cell? ⟨g, j, none⟩ = some (Sv x) := by
  rw [blk_cell h j]
  simp [hx]
/-- The number of some numbers, each below 256. -/
def base (ns : List Nat) : Nat := ns.foldl (fun a n => a * 256 + n) 0
theorem base_snoc (ns : List Nat) (n : Nat) : base (ns ++ [n]) = base ns * 256 + n := by unfold base; rw [List.foldl_append]; rfl
theorem base_lt (ns : List Nat) (h : ∀ n ∈ ns, n ≤ 255) : base ns < 256 ^ ns.length := by
  have key : ∀ (ns : List Nat) (a k : Nat), a < 256 ^ k → (∀ n ∈ ns, n ≤ 255) → ns.foldl (fun a n => a * 256 + n) a < 256 ^ (k + ns.length) := by
    intro ns
    induction ns with
    | nil => intro a k ha _; simpa using ha
    | cons n ns ih =>
      intro a k ha h
      have h1 := h n (by simp)
      have := ih (a * 256 + n) (k + 1) (by rw [Nat.pow_succ]; omega) (fun m hm => h m (List.mem_cons_of_mem _ hm))
      rw [List.foldl_cons, List.length_cons, show k + (ns.length + 1) = k + 1 + ns.length by omega]
      exact this
  have := key ns 0 0 (by simp) h
  rw [Nat.zero_add] at this
  exact this
/-- One step of the address reader. -/
theorem or_step {ns : List Nat} {n : Nat} (h : ∀ m ∈ ns, m ≤ 255) (hl : ns.length < 4) (hn : n ≤ 255) : bits .or .u32 (((base ns : Nat) : Int) * 256 % 4294967296) ((n : Int) % 4294967296) = ((base (ns ++ [n]) : Nat) : Int) := by
  have h1 := base_lt ns h
  have h2 : 256 ^ ns.length ≤ 256 ^ 3 := Nat.pow_le_pow_right (by decide) (by omega)
  have e1 : ((base ns : Nat) : Int) * 256 % 4294967296 = ((base ns * 256 : Nat) : Int) := by omega
  have e2 : (n : Int) % 4294967296 = (n : Int) := by omega
  rw [e1, e2, u32_or_nat _ _ (by omega) (by omega), nat_join 8 _ _ (by omega) (by omega), base_snoc]
theorem piece_num {a k : Nat} {x : List UInt8} (ha : a < 4294967296) (h : (pieces 46 (dotted a))[k]? = some x) : ∃ n, IsNum x 255 n := by
  rw [pieces_dotted] at h
  match k, h with
  | 0, h => exact ⟨a / 16777216, by simpa using h.symm, by omega⟩
  | 1, h => exact ⟨a / 65536 % 256, by simpa using h.symm, by omega⟩
  | 2, h => exact ⟨a / 256 % 256, by simpa using h.symm, by omega⟩
  | 3, h => exact ⟨a % 256, by simpa using h.symm, by omega⟩
  | k + 4, h => simp at h
theorem addr_end {l : List UInt8} {ps : List (List UInt8)} {ns : List Nat} (hps : pieces 46 l = ps) (h4 : ps.length = 4) (ht : ps.take 4 = ns.map dd) (hl : ns.length = 4) (hle : ∀ n ∈ ns, n ≤ 255) : AD l (base ns) 0 := by
  have e : ps = ns.map dd := by rw [← ht, List.take_of_length_le (by omega)]
  have hb := base_lt ns hle
  rw [hl] at hb
  refine Or.inl ⟨rfl, by omega, ?_⟩
  match ns, hl with
  | [n3, n2, n1, n0], _ =>
    have h := dotted_of (s := l) (n3 := n3) (n2 := n2) (n1 := n1) (n0 := n0) (by rw [hps, e]; rfl) (hle _ (by simp)) (hle _ (by simp)) (hle _ (by simp)) (hle _ (by simp))
    have hb2 : base [n3, n2, n1, n0] = ((n3 * 256 + n2) * 256 + n1) * 256 + n0 := by
      show (((0 * 256 + n3) * 256 + n2) * 256 + n1) * 256 + n0 = _
      rw [Nat.zero_mul, Nat.zero_add]
    rw [hb2]
    exact h
theorem addr_bad {l : List UInt8} {ps : List (List UInt8)} {k : Nat} {x : List UInt8} (hps : pieces 46 l = ps) (hx : ps[k]? = some x) (hno : ∀ n, ¬ IsNum x 255 n) : AD l 0 2 :=
  Or.inr ⟨rfl, rfl, fun a ha h => by
    rw [← hps, h] at hx
    obtain ⟨n, hn⟩ := piece_num ha hx
    exact hno n hn⟩
theorem pieces_len (c : UInt8) (l : List UInt8) : ∀ w ∈ pieces c l, w.length ≤ l.length := by
  induction l with
  | nil => intro w hw; simp [pieces] at hw; simp [hw]
  | cons b l ih =>
    intro w hw
    rw [pieces_cons] at hw
    split at hw
    · rcases List.mem_cons.1 hw with rfl | hw
      · simp
      · have := ih w hw; simp only [List.length_cons]; omega
    · cases hp : pieces c l with
      | nil => exact absurd hp (pieces_ne c l)
      | cons x r =>
        rw [hp] at hw ih
        rcases List.mem_cons.1 hw with rfl | hw
        · have := ih x (by simp); simp only [List.length_cons]; omega
        · have := ih w (List.mem_cons_of_mem _ hw); simp only [List.length_cons]; omega
set_option maxHeartbeats 1600000 in
set_option maxRecDepth 100000 in
theorem address_calls (l : List UInt8) (w : World) (hl : l.length ≤ 100000) (hg : Gl w) :
    Calls Tryd.prog 18 #[Sv l] w fun e w' => (∃ x er, e = .returned (.tuple #[.int .u32 (x : Nat), .int .i64 (er : Nat)]) ∧ AD l x er) ∧ Below w.heap.size w w' := by
  have HG := Aside0.mk hg
  have HL := Aside0.mk hl
  clear hg hl
  go_enter Tryd.func18, Tryd.ntmps18
  go_wp2_with fail
  obtain ⟨g, hgs⟩ : ∃ g, w.heap.size = g := ⟨_, rfl⟩
  obtain ⟨ps, hps⟩ : ∃ ps, pieces 46 l = ps := ⟨_, rfl⟩
  have HPS := Aside0.mk hps
  have HGS := Aside0.mk hgs
  refine (split_calls l 46 w HL.out HG.out).mono ?_
  rw [hps, hgs]
  clear hps hgs
  rintro e w1 ⟨rfl, hblk, hb⟩
  have HB : Aside0 (Below w.heap.size w w1) := ⟨by rw [HGS.out]; exact hb⟩
  have HBK := Aside0.mk hblk
  clear hb hblk
  by_cases h4 : ps.length = 4
  · have HG1 : Aside0 (Gl w1) := ⟨HG.out.below HB.out⟩
    have HP4 := Aside0.mk h4
    have hq : ((ps.length : Int) != 4) = false := by rw [h4]; rfl
    have hlen : (ps.length : Int) = 4 := by omega
    clear h4 HG
    go_wp2
    go_loopw [5, 17] (fun v5 v17 W => ∃ (k : Nat) (ns : List Nat), k ≤ 4 ∧ ns.length = k ∧ (∀ n ∈ ns, n ≤ 255) ∧ Aside0 (ps.take k = ns.map dd) ∧ v5 = .int .u32 (base ns : Nat) ∧ v17 = .int .i64 k ∧ Aside0 (Gl W) ∧ Aside0 (W.heap[g]? = some (.cells (ps.map Sv).toArray 9 (0, 0))) ∧ Aside0 (Below w.heap.size w W)) (fun _ v17 _ => 4 - (intOf v17).toNat)
    case atStart => exact ⟨0, [], by omega, rfl, by simp, ⟨by simp⟩, rfl, rfl, HG1, HBK, HB⟩
    case round =>
      clear HG1 HBK HB
      obtain ⟨k, ns, hk, hns, hle, HT, rfl, rfl, HG, HBK, HB⟩ := hrel
      by_cases hlt : k < 4
      · have d0 : decide ((k : Int) < 4) = true := decide_eq_true (by omega)
        have hk4 : (k : Int) < 4 := by omega
        obtain ⟨x, hx⟩ : ∃ x, ps[k]? = some x := ⟨_, List.getElem?_eq_getElem (by have := HP4.out; omega)⟩
        have c0 := ws_cell HBK.out hx
        have HX := Aside0.mk hx
        have HK := Aside0.mk hns
        have HLE := Aside0.mk hle
        have hxl : Aside0 (x.length ≤ 100000) := ⟨by
          have h := pieces_len 46 l x (by rw [HPS.out]; exact List.mem_of_getElem? hx)
          have := HL.out
          omega⟩
        clear hx hns hle
        go_wp2_with fail
        refine (number_calls x 255 _ hxl.out (by omega) HG.out).mono ?_
        rintro e w2 ⟨⟨v, b, rfl, hnd⟩, hb⟩
        have HG2 := Aside0.mk (HG.out.below hb)
        have HBK2 := Aside0.mk (blk_below HBK.out hb)
        have HB2 := Aside0.mk (below_step HB.out hb)
        clear hb HG HBK HB c0
        rcases hnd with ⟨rfl, n, hn, rfl⟩ | ⟨rfl, hno⟩
        · have HN := Aside0.mk hn
          clear hn
          go_wp2
          go_roundw
          case rel =>
            have hle := HLE.out
            have hnl := HK.out
            refine ⟨k + 1, ns ++ [n], by omega, by simp [hnl], ?_, ⟨?_⟩, ?_, by go_num, HG2, HBK2, HB2⟩
            · intro m hm
              rcases List.mem_append.1 hm with hm | hm
              · exact hle m hm
              · obtain rfl := List.mem_singleton.1 hm
                exact HN.out.2
            · rw [List.take_add_one, HT.out, HX.out, HN.out.1]; simp
            · rw [or_step hle (by omega) HN.out.2]
          case measure => simp [intOf]; omega
        · have HE := Aside0.mk (addr_bad HPS.out HX.out hno)
          clear hno
          go_wp2
          go_ret2
          exact ⟨⟨0, 2, rfl, HE.out⟩, HB2.out⟩
      · obtain rfl : k = 4 := by omega
        have HE := Aside0.mk (addr_end HPS.out HP4.out HT.out hns hle)
        clear hns hle
        go_wp2
        go_ret2
        exact ⟨⟨base ns, 0, rfl, HE.out⟩, HB.out⟩
  · have HE : Aside0 (AD l 0 2) := ⟨Or.inr ⟨rfl, rfl, fun a _ h => h4 (by rw [← HPS.out, h, pieces_dotted]; rfl)⟩⟩
    have hq : ((ps.length : Int) != 4) = true := by rw [bne_iff_ne]; omega
    clear h4
    go_wp2
    go_ret2
    exact ⟨⟨0, 2, rfl, HE.out⟩, HB.out⟩
end Go.Proofs.YtagpkphehkfjgaaDoor.Px
