/- Contracts of IndexFunc, DeleteFunc over events, of Since and Of: for every input. clear over events; contract of slices.DeleteFunc over events: for every input. Contract of slices.DeleteFunc over events: for every input. Contracts of Since and Of: for every input. -/
import Derived.Test.YthimnnnfgangbaaDoorCmB
import Derived.Lib.SliceRun
set_option linter.unusedVariables false
set_option linter.unusedSimpArgs false
namespace Go.Proofs.YthimnnnfgangbaaDoor.Cn
open Go.Proofs.YthimnnnfgangbaaDoor.Ts (cell_lt)
open Go.RowKit Go.Proofs.YthimnnnfgangbaaDoorW.PrintWords Go.Proofs.YthimnnnfgangbaaDoorW.PrintLast Go.Proofs.YthimnnnfgangbaaDoorW.PrintMore Go.Proofs.YthimnnnfgangbaaDoor.Qr
theorem since1 (x : E) (n : Int) (b : Nat) (w : World) (h : w.cell? ⟨b, 0, none⟩ = some (.int .i64 n)) : Calls Tryd.prog 47 #[.agg #[.int .i64 x.n.1, .int .i64 x.a.1, .int .i64 x.d.1, .string x.s], .pointer (some ⟨b, 0, none⟩)] w fun e w' => e = .returned (.bool (decide (x.n.1 ≤ n))) ∧ Below w.heap.size w w' := by
  have hlt := cell_lt h
  go_enter Tryd.func47, Tryd.ntmps47
  go_wp2
  go_ret
  exact ⟨rfl, below_alloc (Below.refl _ _) _⟩
theorem of1 (x : E) (n : Int) (b : Nat) (w : World) (h : w.cell? ⟨b, 0, none⟩ = some (.int .i64 n)) : Calls Tryd.prog 48 #[.agg #[.int .i64 x.n.1, .int .i64 x.a.1, .int .i64 x.d.1, .string x.s], .pointer (some ⟨b, 0, none⟩)] w fun e w' => e = .returned (.bool (x.d.1 != n)) ∧ Below w.heap.size w w' := by
  have hlt := cell_lt h
  go_enter Tryd.func48, Tryd.ntmps48
  go_wp2
  go_ret
  exact ⟨rfl, below_alloc (Below.refl _ _) _⟩
/-- What a closure tells of an event, its one captured number in block b. -/
def Gives (f b : Nat) (n : Int) (P : E → Bool) : Prop := (∀ (args : Array Value) (W : World), (callFunc f args).run Tryd.prog W = .ok (.enter f args) W) ∧ ∀ (x : E) (W : World), W.cell? ⟨b, 0, none⟩ = some (.int .i64 n) → Calls Tryd.prog f #[.agg #[.int .i64 x.n.1, .int .i64 x.a.1, .int .i64 x.d.1, .string x.s], .pointer (some ⟨b, 0, none⟩)] W fun e w' => e = .returned (.bool (P x)) ∧ Below W.heap.size W w'
theorem gives_since (b : Nat) (n : Int) : Gives 47 b n (fun x => decide (x.n.1 ≤ n)) := ⟨enters_of Tryd.func47 (by kernel_rfl) rfl, fun x W h => since1 x n b W h⟩
theorem gives_of (b : Nat) (n : Int) : Gives 48 b n (fun x => x.d.1 != n) := ⟨enters_of Tryd.func48 (by kernel_rfl) rfl, fun x W h => of1 x n b W h⟩
set_option maxHeartbeats 1600000 in
set_option maxRecDepth 100000 in
theorem index_calls (f b : Nat) (n : Int) (P : E → Bool) (hG : Gives f b n P) (A : Option Addr) (c : Nat) (xs : List E) (w : World) (hC : Kd.C kE w A xs.length xs) (hb : w.cell? ⟨b, 0, none⟩ = some (.int .i64 n)) (hl : xs.length ≤ 1000) :
    Calls Tryd.prog 69 #[.slice A xs.length c, .func (.func f) #[] #[.pointer (some ⟨b, 0, none⟩)]] w fun e w' => ∃ i : Int, e = .returned (.int .i64 i) ∧ Below w.heap.size w w' ∧ ((i = -1 ∧ ∀ x ∈ xs, P x = false) ∨ ∃ (k : Nat) (x : E), i = (k : Int) ∧ xs[k]? = some x ∧ P x = true ∧ ∀ y ∈ xs.take k, P y = false) := by
  have HG := Aside0.mk hG.2
  have eg := hG.1
  have HC := Aside0.mk hC
  have HB := Aside0.mk hb
  have HL := Aside0.mk hl
  have HR : Aside0 (Below w.heap.size w w) := ⟨Below.refl _ _⟩
  clear hG hC hb hl
  go_enter Tryd.func69, Tryd.ntmps69
  go_wp2_with fail
  go_loopw [8] (fun v8 W => ∃ k : Nat, k ≤ xs.length ∧ v8 = .int .i64 k ∧ Aside0 (∀ y ∈ xs.take k, P y = false) ∧ Aside0 (Below w.heap.size w W)) (fun v8 _ => xs.length - (intOf v8).toNat)
  case atStart => exact ⟨0, Nat.zero_le _, rfl, ⟨by simp⟩, HR⟩
  case round =>
    clear HR
    obtain ⟨k, hk, rfl, HA, HR⟩ := hrel
    by_cases hlt : k < xs.length
    · obtain ⟨ad, x, rfl, hx, b0, b1, b2, b3⟩ := atE HC.out hlt
      have p0 := pw_cell_below HR.out b0
      have p1 := pw_cell_below HR.out b1
      have p2 := pw_cell_below HR.out b2
      have p3 := pw_cell_below HR.out b3
      have HX := Aside0.mk hx
      have HLT := Aside0.mk hlt
      have hk5 : (k : Int) ≤ 1000 := by have := HL.out; omega
      have HBW := Aside0.mk (pw_cell_below HR.out HB.out)
      clear b0 b1 b2 b3 hx
      go_wp2_with fail
      refine (HG.out x _ HBW.out).mono ?_
      rintro e w2 ⟨rfl, hb⟩
      have HR2 := Aside0.mk (below_step HR.out hb)
      clear hb HR HBW p0 p1 p2 p3
      by_cases hp : P x = true
      · have HPX := Aside0.mk hp
        rw [hp]
        clear hp
        go_wp2
        go_ret
        exact ⟨(k : Int), rfl, HR2.out, .inr ⟨k, x, rfl, HX.out, HPX.out, HA.out⟩⟩
      · have hp2 : P x = false := by simpa using hp
        have HA2 : Aside0 (∀ y ∈ xs.take (k + 1), P y = false) := ⟨fun y hy => by
          rw [List.take_add_one, HX.out] at hy
          rcases List.mem_append.1 hy with hy | hy
          · exact HA.out y hy
          · simp at hy
            rw [hy]
            exact hp2⟩
        rw [hp2]
        clear hp hp2 HA
        go_wp2
        go_roundw
        case rel => exact ⟨k + 1, HLT.out, by go_num, HA2, HR2⟩
        case measure => have := HLT.out; simp [intOf]; omega
    · obtain rfl : k = xs.length := by omega
      have HAA : Aside0 (∀ y ∈ xs, P y = false) := ⟨by have := HA.out; rw [List.take_length] at this; exact this⟩
      clear HA
      go_wp2
      go_ret
      exact ⟨-1, rfl, HR.out, .inl ⟨rfl, HAA.out⟩⟩
end Go.Proofs.YthimnnnfgangbaaDoor.Cn

namespace Go.Proofs.YthimnnnfgangbaaDoor.Cn
open Go.Proofs.YthimnnnfgangbaaDoor.Ts (cell_lt)
open Go.RowKit Go.Proofs.YthimnnnfgangbaaDoorW.PrintWords Go.Proofs.YthimnnnfgangbaaDoorW.PrintLast Go.Proofs.YthimnnnfgangbaaDoorW.PrintMore Go.Proofs.YthimnnnfgangbaaDoor.Qr
theorem zeroV93 (W : World) : (zeroValue 93).run Tryd.prog W = .ok zV W := by kernel_rfl
theorem run_clear93 (ty : TypeId) (W : World) (g o n c : Nat) (hn : 0 < n) (hc : ∀ j, j < n * 4 → (W.cell? ⟨g, o + j, none⟩).isSome = true) (hf : ∀ j, j < n * 4 → W.frozen? ⟨g, o + j, none⟩ = false) :
    ∃ vs : List Value, vs.length = n * 4 ∧ (Builtin.clear_ #[49] ty #[.slice (some ⟨g, o, none⟩) n c]).run Tryd.prog W = .ok (.tuple #[]) (W.setCells g o vs) := by
  have hz : zV.cells.size = 4 := rfl
  have h4 : ∀ j : Fin 4, (zV.cells[j.1]!).oneCell' = true := by decide
  have hl : (Builtin.zeroCells zV.cells n).toList.length = n * 4 := by simp [Builtin.zeroCells, hz]
  refine ⟨(Builtin.zeroCells zV.cells n).toList, hl, ?_⟩
  have hst := run_storeCells_cells (P := Tryd.prog) g o (Builtin.zeroCells zV.cells n).toList 0 W (by rw [hl]; simpa using hc) (by rw [hl]; simpa using hf) (by
    intro v hv
    simp only [Builtin.zeroCells, Array.toList_map, List.mem_map] at hv
    obtain ⟨i, _, rfl⟩ := hv
    rw [hz]
    exact h4 ⟨i % 4, Nat.mod_lt _ (by omega)⟩)
  simp only [Nat.add_zero] at hst
  obtain ⟨m, rfl⟩ : ∃ m, n = m + 1 := ⟨n - 1, by omega⟩
  simp [Builtin.clear_, run_underlying Tryd.underlying49, zeroV93, hst]
/-- Cells behind a place: what lies before it, lies. -/
theorem setCells_front (g k : Nat) : ∀ (vs : List Value) (o : Nat) (W : World) (cur : Array Value) (e : TypeId), k ≤ o → W.heap[g]? = some (.cells cur e (0, 0)) → ∃ cur', (W.setCells g o vs).heap[g]? = some (.cells cur' e (0, 0)) ∧ cur'.size = cur.size ∧ cur'.toList.take k = cur.toList.take k
  | [], o, W, cur, e, _, h => ⟨cur, h, rfl, rfl⟩
  | v :: vs, o, W, cur, e, hk, h => by
    obtain ⟨cur', h1, h2, h3⟩ := setCells_front g k vs (o + 1) (W.setCell ⟨g, o, none⟩ v) (cur.setIfInBounds o v) e (by omega) (blk_set h o v)
    refine ⟨cur', h1, by rw [h2]; simp, ?_⟩
    rw [h3]
    apply List.ext_getElem?
    intro i
    rw [List.getElem?_take, List.getElem?_take]
    split
    · simp [Array.getElem?_setIfInBounds, show o ≠ i by omega]
    · rfl
theorem RE_front {W : World} {B g n c : Nat} {xs : List E} (h : RE W B (.slice (some ⟨g, 0, none⟩) n c) xs) (o : Nat) (ho : xs.length * 4 ≤ o) (vs : List Value) : RE (W.setCells g o vs) B (.slice (some ⟨g, 0, none⟩) n c) xs := by
  obtain ⟨h0, inner, ⟨hl, hown⟩, hr⟩ := h
  rcases hown with ⟨h1, _⟩ | ⟨g2, cap, cur, h1, hb, hh, hnc, hcm, hcs, htk⟩
  · simp at h1
  · injection h1 with h1 h2 h3
    injection h1 with h1
    injection h1 with h1
    subst h1 h2 h3
    obtain ⟨cur', k1, k2, k3⟩ := setCells_front g (xs.length * kE.sz) vs o W cur 93 (by
      have : inner.length = xs.length * kE.sz := hr.1
      rw [kE_sz] at *
      omega) hh
    exact ⟨h0, inner, ⟨hl, .inr ⟨g, c, cur', rfl, hb, k1, hnc, hcm, by rw [k2, hcs], by rw [k3, htk]⟩⟩, hr.imp_ (fun p c hp => KMM hp)⟩
theorem setCells_below (B g : Nat) (hB : B ≤ g) : ∀ (vs : List Value) (o : Nat) (W : World), Below B W (W.setCells g o vs)
  | [], _, W => Below.refl _ _
  | v :: vs, o, W => ((Below.refl B W).setCell (p := ⟨g, o, none⟩) hB v).trans (setCells_below B g hB vs (o + 1) _)
end Go.Proofs.YthimnnnfgangbaaDoor.Cn

namespace Go.Proofs.YthimnnnfgangbaaDoor.Cn
open Go.Proofs.YthimnnnfgangbaaDoor.Ts (cell_lt)
open Go.RowKit Go.Proofs.YthimnnnfgangbaaDoorW.PrintWords Go.Proofs.YthimnnnfgangbaaDoorW.PrintLast Go.Proofs.YthimnnnfgangbaaDoorW.PrintMore Go.Proofs.YthimnnnfgangbaaDoor.Qr
/-- Those that stay. -/
def stay (P : E → Bool) (xs : List E) : List E := xs.filter fun x => !P x
theorem stay_none {P : E → Bool} {xs : List E} (h : ∀ x ∈ xs, P x = false) : stay P xs = xs := List.filter_eq_self.2 fun x hx => by rw [h x hx]; rfl
theorem stay_snoc (P : E → Bool) (xs : List E) (x : E) : stay P (xs ++ [x]) = stay P xs ++ (if P x = true then [] else [x]) := by
  unfold stay
  rw [List.filter_append]
  congr 1
  cases h : P x <;> simp [h]
/-- The row while it is being gone through. -/
structure DL (P : E → Bool) (xs ys : List E) (i j : Nat) : Prop where
  len : ys.length = xs.length
  ij : i < j
  jl : j ≤ xs.length
  front : ys.take i = stay P (xs.take j)
  back : ys.drop j = xs.drop j
theorem DL.start {P : E → Bool} {xs : List E} {k : Nat} {x : E} (hx : xs[k]? = some x) (hp : P x = true) (h : ∀ y ∈ xs.take k, P y = false) : DL P xs xs k (k + 1) :=
  ⟨rfl, by omega, by have := (List.getElem?_eq_some_iff.1 hx).1; omega, by
    rw [List.take_add_one, hx]
    show xs.take k = stay P (xs.take k ++ [x])
    rw [stay_snoc, stay_none h, if_pos hp, List.append_nil], rfl⟩
theorem DL.at {P : E → Bool} {xs ys : List E} {i j : Nat} (h : DL P xs ys i j) (hj : j < xs.length) : ys[j]? = xs[j]? := by
  have h1 : (ys.drop j)[0]? = (xs.drop j)[0]? := by rw [h.back]
  simpa [List.getElem?_drop] using h1
theorem DL.skip {P : E → Bool} {xs ys : List E} {i j : Nat} {x : E} (h : DL P xs ys i j) (hx : xs[j]? = some x) (hp : P x = true) : DL P xs ys i (j + 1) :=
  ⟨h.len, by have := h.ij; omega, by have := (List.getElem?_eq_some_iff.1 hx).1; omega, by
    rw [List.take_add_one, hx]
    show ys.take i = stay P (xs.take j ++ [x])
    rw [stay_snoc, if_pos hp, List.append_nil, h.front], by
    rw [← List.drop_drop, h.back, List.drop_drop]⟩
theorem DL.keep {P : E → Bool} {xs ys : List E} {i j : Nat} {x : E} (h : DL P xs ys i j) (hx : xs[j]? = some x) (hp : P x = false) : DL P xs (ys.set i x) (i + 1) (j + 1) := by
  have hj := (List.getElem?_eq_some_iff.1 hx).1
  have hij := h.ij
  have hlen := h.len
  refine ⟨by simp [hlen], by omega, by omega, ?_, ?_⟩
  · rw [List.take_add_one, List.take_add_one, hx, List.take_set_of_le (Nat.le_refl i), List.getElem?_set_self (by omega)]
    show ys.take i ++ [x] = stay P (xs.take j ++ [x])
    rw [stay_snoc, if_neg (by rw [hp]; decide), h.front]
  · rw [List.drop_set_of_lt (by omega), ← List.drop_drop, h.back, List.drop_drop]
theorem DL.end_ {P : E → Bool} {xs ys : List E} {i : Nat} (h : DL P xs ys i xs.length) : ys.take i = stay P xs := by have := h.front; rw [List.take_length] at this; exact this
set_option maxHeartbeats 6400000 in
set_option maxRecDepth 100000 in
theorem delete_calls (f b : Nat) (n : Int) (P : E → Bool) (hG : Gives f b n P) (B : Nat) (v : Value) (xs : List E) (w : World) (hR : RE w B v xs) (hb : w.cell? ⟨b, 0, none⟩ = some (.int .i64 n)) (hbB : b < B) (hl : xs.length ≤ 1000) (hBw : B ≤ w.heap.size) :
    Calls Tryd.prog 45 #[v, .func (.func f) #[] #[.pointer (some ⟨b, 0, none⟩)]] w fun e w' => ∃ v', e = .returned v' ∧ RE w' B v' (stay P xs) ∧ Below B w w' := by
  have HG := Aside0.mk hG.2
  have HGG := Aside0.mk hG
  have eg := hG.1
  have HR := Aside0.mk hR
  have HB := Aside0.mk hb
  have HL := Aside0.mk hl
  have HBW := Aside0.mk (And.intro hbB hBw)
  obtain ⟨A, c, rfl, hc, hC⟩ := Kd.R_reads hR
  have HC := Aside0.mk hC
  have HCC := Aside0.mk hc
  clear hG hR hb hl hbB hBw hc hC
  go_enter Tryd.func45, Tryd.ntmps45
  go_wp2_with fail
  refine (index_calls f b n P HGG.out A c xs w HC.out HB.out HL.out).mono ?_
  rintro e w1 ⟨i, rfl, hbl, hi⟩
  have HR1 := Aside0.mk (Kd.R_below HR.out hbl)
  have HB1 := Aside0.mk (hbl.mono HBW.out.2)
  clear hbl
  rcases hi with ⟨rfl, hall⟩ | ⟨k, x, rfl, hx, hp, hpre⟩
  · have HS := Aside0.mk (stay_none hall)
    clear hall
    go_wp2
    go_ret
    exact ⟨_, rfl, by rw [HS.out]; exact HR1.out, HB1.out⟩
  · have HD := Aside0.mk (DL.start hx hp hpre)
    have hkl := (List.getElem?_eq_some_iff.1 hx).1
    obtain ⟨g, c2, hv, _, hg⟩ := RE_open HR.out (by omega)
    obtain rfl : A = some ⟨g, 0, none⟩ := (Value.slice.inj hv).1
    clear hv
    have HGB := Aside0.mk hg
    have hk5 : (k : Int) ≤ 1000 := by have := HL.out; omega
    have hkm : ((k : Int) == -1) = false := by simp <;> omega
    clear hx hp hpre hkl hg
    go_wp2_with fail
    go_loopw [5, 6] (fun v5 v6 W => ∃ (i j : Nat) (ys : List E), v5 = .int .i64 i ∧ v6 = .int .i64 j ∧ Aside0 (DL P xs ys i j) ∧ Aside0 (RE W B (.slice (some ⟨g, 0, none⟩) xs.length c) ys) ∧ Aside0 (Below B w W)) (fun _ v6 _ => xs.length - (intOf v6).toNat)
    case atStart => exact ⟨k, k + 1, xs, rfl, by go_num, HD, HR1, HB1⟩
    case round =>
      clear HD HR1 HB1 hk5 hkm
      obtain ⟨i, j, ys, rfl, rfl, HD, HR1, HB1⟩ := hrel
      have hj5 : (j : Int) ≤ 1000 := by have := HD.out.jl; have := HL.out; omega
      have hij : (i : Int) < (j : Int) := by have := HD.out.ij; omega
      by_cases hlt : j < xs.length
      · obtain ⟨x, hx⟩ : ∃ x, xs[j]? = some x := ⟨_, List.getElem?_eq_getElem hlt⟩
        have hyx : ys[j]? = some x := by rw [HD.out.at hlt]; exact hx
        obtain ⟨d0, d1, d2, d3⟩ := RE_cells HR1.out hyx
        have HX := Aside0.mk hx
        have HLT := Aside0.mk hlt
        have hjl : (j : Int) < (xs.length : Int) := by omega
        clear hx hyx hlt
        go_upto_region 8 with (fail)
        obtain ⟨gj, hgj⟩ : ∃ gj, wr.heap.size = gj := ⟨_, rfl⟩
        refine wp_world (fun W => Aside0 (RE W B (.slice (some ⟨g, 0, none⟩) xs.length c) ys) ∧ Aside0 (Below B w W) ∧ Aside0 (W.heap[gj]? = some (.cells #[.int .i64 x.n.1, .int .i64 x.a.1, .int .i64 x.d.1, .string x.s] 93 (0, 0)))) ⟨⟨Kd.R_below HR1.out (below_alloc (Below.refl _ _) _)⟩, ⟨HB1.out.trans ((below_alloc (Below.refl wr.heap.size wr) _).mono (Nat.le_trans HBW.out.2 HB1.out.size))⟩, ⟨by rw [← hgj]; exact blk_new wr _⟩⟩ ?_
        rw [hgj]
        clear HR1 HB1 d0 d1 d2 d3 hgj
        rintro w2 ⟨HR2, HB2, HJ2⟩
        have e0 := blk_cell HJ2.out 0
        have e1 := blk_cell HJ2.out 1
        have e2 := blk_cell HJ2.out 2
        have e3 := blk_cell HJ2.out 3
        simp at e0 e1 e2 e3
        have HBB : Aside0 (w2.cell? ⟨b, 0, none⟩ = some (.int .i64 n)) := ⟨(HB2.out.cell (p := ⟨b, 0, none⟩) HBW.out.1).trans HB.out⟩
        go_wp2_with fail
        refine (HG.out x w2 HBB.out).mono ?_
        rintro e w3 ⟨rfl, hb⟩
        have HR3 := Aside0.mk (Kd.R_below HR2.out hb)
        have HB3 := Aside0.mk (HB2.out.trans (hb.mono (Nat.le_trans HBW.out.2 HB2.out.size)))
        have HJ3 := Aside0.mk (blk_below HJ2.out hb)
        clear hb HR2 HB2 HJ2 e0 e1 e2 e3 HBB
        by_cases hp : P x = true
        · have HD2 := Aside0.mk (HD.out.skip HX.out hp)
          rw [hp]
          clear hp HD
          go_wp2
          go_roundw
          case rel => exact ⟨i, j + 1, ys, rfl, by go_num, HD2, HR3, HB3⟩
          case measure => have := HLT.out; simp [intOf]; omega
        · have hp2 : P x = false := by simpa using hp
          have HD2 := Aside0.mk (HD.out.keep HX.out hp2)
          have hiy : i < ys.length := by have := HD.out.ij; have := HD.out.jl; have := HD.out.len; omega
          obtain ⟨y, hy⟩ : ∃ y, ys[i]? = some y := ⟨_, List.getElem?_eq_getElem hiy⟩
          obtain ⟨d0, d1, d2, d3⟩ := RE_cells HR3.out hy
          obtain ⟨cur, hcur⟩ := RE_blk HR3.out
          have fz0 := blk_frozen hcur (i * 4)
          have fz1 := blk_frozen hcur (i * 4 + 1)
          have fz2 := blk_frozen hcur (i * 4 + 2)
          have fz3 := blk_frozen hcur (i * 4 + 3)
          have e0 := blk_cell HJ3.out 0
          have e1 := blk_cell HJ3.out 1
          have e2 := blk_cell HJ3.out 2
          have e3 := blk_cell HJ3.out 3
          simp at e0 e1 e2 e3
          have HIY := Aside0.mk hiy
          have hil : (i : Int) < (xs.length : Int) := by have := HD.out.len; omega
          have HR4 := Aside0.mk (RE_put HR3.out hiy x)
          have HB4 : Aside0 (Below B w ((((w3.setCell ⟨g, i * 4, none⟩ (.int .i64 x.n.1)).setCell ⟨g, i * 4 + 1, none⟩ (.int .i64 x.a.1)).setCell ⟨g, i * 4 + 2, none⟩ (.int .i64 x.d.1)).setCell ⟨g, i * 4 + 3, none⟩ (.string x.s))) := ⟨(((HB3.out.setCell (p := ⟨g, i * 4, none⟩) HGB.out _).setCell (p := ⟨g, i * 4 + 1, none⟩) HGB.out _).setCell (p := ⟨g, i * 4 + 2, none⟩) HGB.out _).setCell (p := ⟨g, i * 4 + 3, none⟩) HGB.out _⟩
          rw [hp2]
          clear hp hp2 HD hy hcur hiy HR3 HB3 HJ3
          go_wp2
          go_roundw
          case rel => exact ⟨i + 1, j + 1, ys.set i x, by go_num, by go_num, HD2, HR4, HB4⟩
          case measure => have := HLT.out; simp [intOf]; omega
      · obtain rfl : j = xs.length := by have := HD.out.jl; omega
        have HE := Aside0.mk HD.out.end_
        have hiy : i < ys.length := by have := HD.out.ij; have := HD.out.len; omega
        have HYL := Aside0.mk HD.out.len
        have hin : i < xs.length := by have := HD.out.len; omega
        have HIN := Aside0.mk hin
        have j0 := fun W => cut_hd (some ⟨g, 0, none⟩) xs.length c i (by have := HCC.out; omega) W
        have j1 := fun W => cut_tl (some ⟨g, 0, none⟩) xs.length c i (by omega) W
        have hA : tlA (some ⟨g, 0, none⟩) c i = some ⟨g, i * 4, none⟩ := by
          unfold tlA
          rw [if_neg (by have := HCC.out; omega)]
          show some ((⟨g, 0, none⟩ : Addr).add (i * 4)) = _
          rw [Addr.add_mid, Nat.zero_add]
        rw [hA] at j1
        obtain ⟨cur, hcur⟩ := RE_blk HR1.out
        have hcl : ∀ q, q < (xs.length - i) * 4 → (wr.cell? ⟨g, i * 4 + q, none⟩).isSome = true := by
          intro q hq
          obtain ⟨y, hy⟩ : ∃ y, ys[i + q / 4]? = some y := ⟨_, List.getElem?_eq_getElem (by have := HYL.out; omega)⟩
          obtain ⟨d0, d1, d2, d3⟩ := RE_cells HR1.out hy
          have hm : q % 4 = 0 ∨ q % 4 = 1 ∨ q % 4 = 2 ∨ q % 4 = 3 := by omega
          rcases hm with hm | hm | hm | hm
          · rw [show i * 4 + q = (i + q / 4) * 4 by omega, d0]; rfl
          · rw [show i * 4 + q = (i + q / 4) * 4 + 1 by omega, d1]; rfl
          · rw [show i * 4 + q = (i + q / 4) * 4 + 2 by omega, d2]; rfl
          · rw [show i * 4 + q = (i + q / 4) * 4 + 3 by omega, d3]; rfl
        obtain ⟨vs, hvs, hrun⟩ := run_clear93 0 wr g (i * 4) (xs.length - i) (c - i) (by omega) hcl (fun q _ => blk_frozen hcur _)
        have HRT : Aside0 (RE (wr.setCells g (i * 4) vs) B (.slice (some ⟨g, 0, none⟩) i c) (ys.take i)) := ⟨RE_front (Kd.R_take HR1.out (by omega)) (i * 4) (by rw [List.length_take]; omega) vs⟩
        have HBT : Aside0 (Below B w (wr.setCells g (i * 4) vs)) := ⟨HB1.out.trans (setCells_below B g HGB.out vs _ wr)⟩
        have i5 : (i : Int) ≤ (xs.length : Int) := by omega
        have i6 : (i : Int) ≤ (c : Int) := by have := HCC.out; omega
        obtain ⟨W2, hW2⟩ : ∃ W2, wr.setCells g (i * 4) vs = W2 := ⟨_, rfl⟩
        rw [hW2] at hrun HRT HBT
        clear hvs hcl hcur hA hiy hW2 HD HR1 HB1 hin hij
        go_wp2
        go_ret
        exact ⟨_, rfl, by rw [← HE.out]; exact HRT.out, HBT.out⟩
end Go.Proofs.YthimnnnfgangbaaDoor.Cn

namespace Go.Proofs.YthimnnnfgangbaaDoor.Cn
open Go.Proofs.YthimnnnfgangbaaDoor.Ts (cell_lt)
open Go.RowKit Go.Proofs.YthimnnnfgangbaaDoorW.PrintWords Go.Proofs.YthimnnnfgangbaaDoorW.PrintLast Go.Proofs.YthimnnnfgangbaaDoorW.PrintMore Go.Proofs.YthimnnnfgangbaaDoor.Qr
/-- Those behind one. -/
def sinceL (xs : List E) (n : Int) : List E := stay (fun x => decide (x.n.1 ≤ n)) xs
/-- Those of a node. -/
def ofL (xs : List E) (n : Int) : List E := stay (fun x => x.d.1 != n) xs
theorem stay_len (P : E → Bool) (xs : List E) : (stay P xs).length ≤ xs.length := List.length_filter_le _ _
theorem since_nil (n : Int) (w : World) : Calls Tryd.prog 22 #[.pointer none, .int .i64 n] w fun e w' => e = .returned (.tuple #[.slice none 0 0, .bool false]) ∧ Below w.heap.size w w' := by
  go_enter Tryd.func22, Tryd.ntmps22
  go_wp2
  go_ret2
  exact ⟨rfl, below_alloc (Below.refl _ _) _⟩
theorem since_zero (B g : Nat) (v : Value) (ring : List E) (first many last n : Int) (w : World) (h : CH B w g v ring 0 first many last) : Calls Tryd.prog 22 #[.pointer (some ⟨g, 0, none⟩), .int .i64 n] w fun e w' => e = .returned (.tuple #[.slice none 0 0, .bool false]) ∧ Below w.heap.size w w' := by
  have c1 := h.c1
  have lt := cell_lt c1
  clear h
  go_enter Tryd.func22, Tryd.ntmps22
  go_wp2
  go_ret2
  exact ⟨rfl, below_alloc (Below.refl _ _) _⟩
set_option maxHeartbeats 3200000 in
set_option maxRecDepth 100000 in
theorem since_calls (B g : Nat) (v : Value) (ring : List E) (room many last : Int) (k : Nat) (n : Int) (w : World) (h : CH B w g v ring room (k : Int) many last) (hr : 0 < room) (hk : k ≤ ring.length) (hl : ring.length ≤ 1000) (hm0 : 0 ≤ many) (hm1 : many ≤ 1000) (hn : i64 n) :
    Calls Tryd.prog 22 #[.pointer (some ⟨g, 0, none⟩), .int .i64 n] w fun e w' => ∃ v', e = .returned (.tuple #[v', .bool (((sinceL (ring.drop k ++ ring.take k) n).length : Int) == max (many - max n 0) 0)]) ∧ RE w' w.heap.size v' (sinceL (ring.drop k ++ ring.take k) n) ∧ Below w.heap.size w w' := by
  have H := Aside0.mk h
  have HK := Aside0.mk hk
  have HL := Aside0.mk hl
  have r0 : ((room : Int) == 0) = false := by simp; omega
  have HW : Aside0 (wrap64 (many - max n 0) = many - max n 0) := ⟨by unfold wrap64; have := hn.1; have := hn.2; omega⟩
  clear h hk hl hr hm0 hm1 hn
  go_enter Tryd.func22, Tryd.ntmps22
  go_upto_region 1 with (fail)
  obtain ⟨b, hb⟩ : ∃ b, w.heap.size = b := ⟨_, rfl⟩
  refine wp_world (fun W => Aside0 (CH B W g v ring room (k : Int) many last) ∧ Aside0 (W.cell? ⟨b, 0, none⟩ = some (.int .i64 n)) ∧ Aside0 (Below b w W ∧ b < W.heap.size)) ⟨⟨H.out.below (below_alloc (Below.refl _ _) _)⟩, ⟨by rw [blk_cell (by rw [← hb]; exact blk_new w _)]; rfl⟩, ⟨by rw [← hb]; exact below_alloc (Below.refl _ _) _, by rw [← hb]; exact Nat.lt_of_lt_of_eq (Nat.lt_succ_self _) (Array.size_push ..).symm⟩⟩ ?_
  rw [hb]
  clear H
  rintro w1 ⟨H, HN, HB⟩
  have c1 := H.out.c1
  go_wp2_with fail
  refine (all_calls B g v ring room many last k w1 H.out HK.out HL.out).mono ?_
  obtain ⟨xs, hxs⟩ : ∃ xs, ring.drop k ++ ring.take k = xs := ⟨_, rfl⟩
  have HXL : Aside0 (xs.length ≤ 1000) := ⟨by rw [← hxs, List.length_append, List.length_drop, List.length_take]; have := HL.out; omega⟩
  rw [hxs]
  have HXS := Aside0.mk hxs
  clear hxs
  rintro e w2 ⟨v', rfl, hR, hb2⟩
  have H2 := Aside0.mk (H.out.below hb2)
  have H1 := H
  have HR := Aside0.mk hR
  have HN2 := Aside0.mk (pw_cell_below hb2 HN.out)
  have HB2 : Aside0 (Below b w w2) := ⟨HB.out.1.trans (hb2.mono (Nat.le_of_lt HB.out.2))⟩
  have HLE := Aside0.mk hb2.size
  have HLE2 := HLE
  clear hR hb2 H c1
  go_wp2_with fail
  refine (delete_calls 47 b n (fun x => decide (x.n.1 ≤ n)) (gives_since b n) w1.heap.size v' xs w2 HR.out HN2.out HB.out.2 HXL.out HLE.out).mono ?_
  rintro e w3 ⟨v2, rfl, hR, hb3⟩
  have HLE3 := Aside0.mk hb3.size
  have HB3 : Aside0 (Below b w w3) := ⟨HB2.out.trans (hb3.mono (Nat.le_of_lt HB.out.2))⟩
  have HN3 : Aside0 (w3.cell? ⟨b, 0, none⟩ = some (.int .i64 n)) := ⟨(hb3.cell (p := ⟨b, 0, none⟩) HB.out.2).trans HN2.out⟩
  have c3 : w3.cell? ⟨g, 3, none⟩ = some (.int .i64 many) := (hb3.cell (p := ⟨g, 3, none⟩) (blk_lt H1.out.blk)).trans H2.out.c3
  have HBX := HN3.out
  have hsl : (stay (fun x => decide (x.n.1 ≤ n)) xs).length ≤ 1000 := Nat.le_trans (stay_len _ _) HXL.out
  have HQ : Aside0 (sinceL xs n = stay (fun x => decide (x.n.1 ≤ n)) xs) := ⟨rfl⟩
  obtain ⟨ys, hys⟩ : ∃ ys, stay (fun x => decide (x.n.1 ≤ n)) xs = ys := ⟨_, rfl⟩
  rw [hys] at hR HQ hsl
  have hsl5 : (ys.length : Int) ≤ 1000 := by omega
  have HRR : Aside0 (RE w3 w1.heap.size v2 ys) := ⟨hR⟩
  obtain ⟨A, c, rfl, _, _⟩ := Kd.R_reads hR
  have hjw := HW.out
  clear hR hb3 HB2 H2 HR HN2 HLE hys hsl
  go_wp2_with fail
  go_region
  go_wp2
  go_ret2
  have hRD := Kd.R_lower (Kd.R_below HRR.out (below_drew (Below.refl _ _))) (base' := b) (Nat.le_of_lt HB.out.2)
  exact ⟨_, by rw [HXS.out, HQ.out]; rfl, by rw [HXS.out, HQ.out, hb]; exact hRD, by rw [hb]; exact HB3.out.trans ((below_drew (Below.refl w3.heap.size w3)).mono (Nat.le_trans (Nat.le_of_lt HB.out.2) (Nat.le_trans HLE2.out HLE3.out)))⟩
theorem of_nil (n : Int) (w : World) : Calls Tryd.prog 26 #[.pointer none, .int .i64 n] w fun e w' => ∃ v', e = .returned v' ∧ RE w' w.heap.size v' [] ∧ Below w.heap.size w w' := by
  go_enter Tryd.func26, Tryd.ntmps26
  go_upto_region 1 with (fail)
  obtain ⟨b, hb⟩ : ∃ b, w.heap.size = b := ⟨_, rfl⟩
  refine wp_world (fun W => Aside0 (W.cell? ⟨b, 0, none⟩ = some (.int .i64 n)) ∧ Aside0 (Below b w W ∧ b < W.heap.size)) ⟨⟨by rw [blk_cell (by rw [← hb]; exact blk_new w _)]; rfl⟩, ⟨by rw [← hb]; exact below_alloc (Below.refl _ _) _, by rw [← hb]; exact Nat.lt_of_lt_of_eq (Nat.lt_succ_self _) (Array.size_push ..).symm⟩⟩ ?_
  rw [hb]
  rintro w1 ⟨HN, HB⟩
  go_wp2_with fail
  refine (all_nil w1).mono ?_
  rintro e w2 ⟨rfl, rfl⟩
  go_wp2_with fail
  refine (delete_calls 48 b n (fun x => x.d.1 != n) (gives_of b n) w1.heap.size (.slice none 0 0) [] w1 (Kd.R_nil _ _ _ _ _) HN.out HB.out.2 (by simp) (Nat.le_refl _)).mono ?_
  rintro e w3 ⟨v2, rfl, hR, hb3⟩
  have HR := Aside0.mk (Kd.R_lower hR (base' := b) (Nat.le_of_lt HB.out.2))
  have HB3 : Aside0 (Below b w w3) := ⟨HB.out.1.trans (hb3.mono (Nat.le_of_lt HB.out.2))⟩
  clear hR hb3
  go_wp2
  go_ret
  exact ⟨_, rfl, by rw [hb]; exact HR.out, by rw [hb]; exact HB3.out⟩
set_option maxHeartbeats 3200000 in
set_option maxRecDepth 100000 in
theorem of_calls (B g : Nat) (v : Value) (ring : List E) (room many last : Int) (k : Nat) (n : Int) (w : World) (h : CH B w g v ring room (k : Int) many last) (hk : k ≤ ring.length) (hl : ring.length ≤ 1000) :
    Calls Tryd.prog 26 #[.pointer (some ⟨g, 0, none⟩), .int .i64 n] w fun e w' => ∃ v', e = .returned v' ∧ RE w' w.heap.size v' (ofL (ring.drop k ++ ring.take k) n) ∧ Below w.heap.size w w' := by
  have H := Aside0.mk h
  have HK := Aside0.mk hk
  have HL := Aside0.mk hl
  clear h hk hl
  go_enter Tryd.func26, Tryd.ntmps26
  go_upto_region 1 with (fail)
  obtain ⟨b, hb⟩ : ∃ b, w.heap.size = b := ⟨_, rfl⟩
  refine wp_world (fun W => Aside0 (CH B W g v ring room (k : Int) many last) ∧ Aside0 (W.cell? ⟨b, 0, none⟩ = some (.int .i64 n)) ∧ Aside0 (Below b w W ∧ b < W.heap.size)) ⟨⟨H.out.below (below_alloc (Below.refl _ _) _)⟩, ⟨by rw [blk_cell (by rw [← hb]; exact blk_new w _)]; rfl⟩, ⟨by rw [← hb]; exact below_alloc (Below.refl _ _) _, by rw [← hb]; exact Nat.lt_of_lt_of_eq (Nat.lt_succ_self _) (Array.size_push ..).symm⟩⟩ ?_
  rw [hb]
  clear H
  rintro w1 ⟨H, HN, HB⟩
  go_wp2_with fail
  refine (all_calls B g v ring room many last k w1 H.out HK.out HL.out).mono ?_
  obtain ⟨xs, hxs⟩ : ∃ xs, ring.drop k ++ ring.take k = xs := ⟨_, rfl⟩
  have HXL : Aside0 (xs.length ≤ 1000) := ⟨by rw [← hxs, List.length_append, List.length_drop, List.length_take]; have := HL.out; omega⟩
  rw [hxs]
  have HXS := Aside0.mk hxs
  clear hxs
  rintro e w2 ⟨v', rfl, hR, hb2⟩
  have HR := Aside0.mk hR
  have HN2 := Aside0.mk (pw_cell_below hb2 HN.out)
  have HB2 : Aside0 (Below b w w2) := ⟨HB.out.1.trans (hb2.mono (Nat.le_of_lt HB.out.2))⟩
  have HLE2 := Aside0.mk hb2.size
  clear hR hb2 H
  go_wp2_with fail
  refine (delete_calls 48 b n (fun x => x.d.1 != n) (gives_of b n) w1.heap.size v' xs w2 HR.out HN2.out HB.out.2 HXL.out HLE2.out).mono ?_
  rintro e w3 ⟨v2, rfl, hR, hb3⟩
  have HR := Aside0.mk (Kd.R_lower hR (base' := b) (Nat.le_of_lt HB.out.2))
  have HB3 : Aside0 (Below b w w3) := ⟨HB2.out.trans (hb3.mono (Nat.le_of_lt HB.out.2))⟩
  clear hR hb3 HB2 HLE2 HN2
  go_wp2
  go_ret
  exact ⟨_, rfl, by rw [HXS.out, hb]; exact HR.out, by rw [hb]; exact HB3.out⟩
end Go.Proofs.YthimnnnfgangbaaDoor.Cn
