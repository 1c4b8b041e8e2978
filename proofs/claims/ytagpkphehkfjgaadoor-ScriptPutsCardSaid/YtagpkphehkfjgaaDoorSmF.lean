/- Contracts of strings.Builder's methods at a builder that is a variable of its own, or the one field of a struct, for every input. Contracts of the script's same and Same: two closures over slices.EqualFunc. Contracts of the script's same and Same on acts. Contracts of the two Lights: what acts they let in. Contract of the script's tear. Contract of the script's words. -/
import Derived.Test.YtagpkphehkfjgaaDoorShelf
import Derived.Test.YtagpkphehkfjgaaDoorWWords
import Derived.Test.YtagpkphehkfjgaaDoorWLast
import Derived.Test.YtagpkphehkfjgaaDoorWMore
import Derived.Lib.Builder
import Derived.Lib.AppendStr
import Derived.Lib.UnsafeStr
import Derived.WalkKit
import Derived.Laws.Externs
import Derived.BigRegion
import Derived.Test.YtagpkphehkfjgaaDoorSmE
set_option linter.unusedVariables false
set_option linter.unusedSimpArgs false
namespace Go.Proofs.YtagpkphehkfjgaaDoor.Sb
open Go.RowKit Go.Proofs.YtagpkphehkfjgaaDoorW.PrintWords Go.Proofs.YtagpkphehkfjgaaDoorW.PrintLast Go.Proofs.YtagpkphehkfjgaaDoorW.PrintMore

theorem info88 : (Tryd.prog.info? 88).map (·.size) = some 2 := by kernel_rfl
theorem lies88 : liesAt Tryd.prog Tryd.prog.depth 88 (2 / Tryd.prog.cellsOf 88) 0 88 1 = true := by kernel_rfl
/-- The two kinds of variables in which a builder lies. -/
structure Bt (T : TypeId) : Prop where
  lies : liesAt Tryd.prog Tryd.prog.depth T (2 / Tryd.prog.cellsOf T) 0 88 1 = true
  ne5 : T ≠ 5
theorem bt88 : Bt 88 := ⟨lies88, by decide⟩

set_option maxHeartbeats 1000000 in
set_option maxRecDepth 100000 in
theorem copy_used (b : Nat) (w : World) (h0 : w.cell? ⟨b, 0, none⟩ = some (.pointer (some ⟨b, 0, none⟩))) :
    Calls Tryd.prog 73 #[.pointer (some ⟨b, 0, none⟩)] w fun e w' => e = .returned (.tuple #[]) ∧ w' = w := by
  obtain ⟨j, hj, _⟩ := Option.map_eq_some_iff.1 info88
  go_enter Tryd.func73, Tryd.ntmps73
  go_wp2
  rw [Lib.run_neq_ptr_same w _ Tryd.underlying86 hj]
  go_wp2
  go_end0
  exact ⟨rfl, rfl⟩

set_option maxHeartbeats 1000000 in
set_option maxRecDepth 100000 in
theorem copy_fresh (T : TypeId) (hT : Bt T) (b : Nat) (w : World) (h0 : w.cell? ⟨b, 0, none⟩ = some (.pointer none)) (hsh : w.shape? b = some (T, 2)) (hfz : w.frozen? ⟨b, 0, none⟩ = false) :
    Calls Tryd.prog 73 #[.pointer (some ⟨b, 0, none⟩)] w fun e w' => e = .returned (.tuple #[]) ∧ w' = w.setCell ⟨b, 0, none⟩ (.pointer (some ⟨b, 0, none⟩)) := by
  obtain ⟨j, hj, hjs⟩ := Option.map_eq_some_iff.1 info88
  have hl := hT.lies
  go_enter Tryd.func73, Tryd.ntmps73
  go_wp2
  rw [Lib.run_to_unsafe w ⟨b, 0, none⟩ Tryd.underlying86 Tryd.underlying128 hj (by rw [hjs]; decide) hsh (Nat.zero_lt_succ 1)]
  simp only [Result.andThen]
  rw [Oper.upon_value]
  go_wp2
  rw [run_callFunc_extern Tryd.func86 (by kernel_rfl) (by kernel_rfl) (by kernel_rfl) (e := Extern.AbiNoEscape.same) (by kernel_rfl)]
  rw [Lib.run_noEscape]
  simp only [Result.andThen]
  rw [Oper.upon_value]
  go_wp2
  rw [Lib.run_from_unsafe w ⟨b, 0, none⟩ Tryd.underlying128 Tryd.underlying86 hj hsh hl]
  simp only [Result.andThen]
  rw [Oper.upon_value]
  go_wp2
  go_end0
  exact ⟨rfl, rfl⟩
/-- What a builder's methods leave alone: every block that is no row of bytes and no builder's own. -/
def Fr (T : TypeId) (w w' : World) : Prop := ∀ (k : Nat) (cs : Array Value) (t : TypeId), t ≠ 5 → t ≠ T → w.heap[k]? = some (.cells cs t (0, 0)) → w'.heap[k]? = some (.cells cs t (0, 0))
theorem Fr.refl (T : TypeId) (w : World) : Fr T w w := fun _ _ _ _ _ h => h
theorem Fr.trans {T : TypeId} {w w1 w2 : World} (h : Fr T w w1) (k : Fr T w1 w2) : Fr T w w2 := fun i cs t h1 h2 h3 => k i cs t h1 h2 (h i cs t h1 h2 h3)
theorem Fr.of_below {T : TypeId} {w w' : World} (h : Below w.heap.size w w') : Fr T w w' := fun i cs t _ _ h3 => blk_below h3 h
theorem Fr.set {T : TypeId} {w : World} {b : Nat} {cs : Array Value} (hb : w.heap[b]? = some (.cells cs T (0, 0))) (j : Nat) (u : Value) : Fr T w (w.setCell ⟨b, j, none⟩ u) := fun i cs' t _ h2 h3 => blk_far h3 (p := ⟨b, j, none⟩) (by
  intro e
  change i = b at e
  subst e
  rw [hb] at h3
  simp at h3
  exact h2 h3.2.symm) u
theorem Fr.grown {T : TypeId} {w w' : World} {B : Nat} {v : Value} {n : Nat} {xs : List Value} (ho : w.ownsRow B 5 1 v n xs) (hg : w.grownBy w' v.ownBlock) : Fr T w w' := fun i cs t h1 _ h3 => (hg.block i (blk_lt h3) (fun e => Lib.ownBlock_ne ho h3 h1 e.symm)).trans h3
theorem copy_calls (T : TypeId) (hT : Bt T) (B b : Nat) (bs : List Value) (w : World) (h : Lib.IsBuilder T 5 B b bs w) :
    Calls Tryd.prog 73 #[.pointer (some ⟨b, 0, none⟩)] w fun e w' => e = .returned (.tuple #[]) ∧ (Lib.BuilderAt T 5 B b (.pointer (some ⟨b, 0, none⟩)) bs w' ∧ Below B w w' ∧ Fr T w w') := by
  rcases h with h | h
  · refine (copy_fresh T hT b w h.cell0 h.shape h.frozen0).mono ?_
    rintro e w' ⟨rfl, rfl⟩
    exact ⟨rfl, h.used _, (Below.refl B w).setCell (p := ⟨b, 0, none⟩) h.1 _, by obtain ⟨_, v, hb, _⟩ := h; exact Fr.set hb 0 _⟩
  · refine (copy_used b w h.cell0).mono ?_
    rintro e w' ⟨rfl, rfl⟩
    exact ⟨rfl, h, Below.refl B _, Fr.refl T _⟩

theorem infoB : (Tryd.prog.info? 5).map (fun i => (i.zero, i.size, i.bytes)) = some (some (.int .u8 0), 1, 1) := by kernel_rfl
theorem infoBx : ∃ i, Tryd.prog.info? 5 = some i ∧ i.zero = some (.int .u8 0) ∧ i.size = 1 ∧ i.bytes = 1 := by
  obtain ⟨i, h1, h2⟩ := Option.map_eq_some_iff.1 infoB
  simp only [Prod.mk.injEq] at h2
  exact ⟨i, h1, h2⟩
theorem cells5b : Tryd.prog.cellsOf 5 = 1 := by kernel_rfl
set_option maxHeartbeats 2000000 in
set_option maxRecDepth 100000 in
theorem byte_calls (T : TypeId) (hT : Bt T) (B b : Nat) (bs : List Value) (c : Int) (w : World) (h : Lib.IsBuilder T 5 B b bs w) (hlen : bs.length + 1 ≤ 140737488355328) (hBw : B ≤ w.heap.size) :
    Calls Tryd.prog 51 #[.pointer (some ⟨b, 0, none⟩), .int .u8 c] w fun e w' => e = .returned .nilIface ∧ (Lib.BuilderAt T 5 B b (.pointer (some ⟨b, 0, none⟩)) (bs ++ [.int .u8 c]) w' ∧ Below B w w' ∧ Fr T w w') := by
  obtain ⟨i0, hi, hz0, hz1, hz2⟩ := infoBx
  go_enter Tryd.func51, Tryd.ntmps51
  go_wp2_with fail
  refine (copy_calls T hT B b bs _ h).mono ?_
  rintro e w1 ⟨rfl, h1, hb1, hfr1⟩
  have HFR1 := Aside0.mk hfr1
  clear hfr1
  obtain ⟨hB, v, hbk, hown, hne⟩ := h1
  have c0 : w1.cell? ⟨b, 0, none⟩ = some (.pointer (some ⟨b, 0, none⟩)) := by rw [Lib.cell_of_heap hbk]; rfl
  have c1 : w1.cell? ⟨b, 1, none⟩ = some v := by rw [Lib.cell_of_heap hbk]; rfl
  go_wp2_with (at_builtin; refine wpList_append_own _ rfl _ _ 75 rfl B 5 i0 (.int .u8 0) 1 1 Tryd.underlying75 hi hz0 hz1 hz2 rfl (by decide) _ _ _ rfl (hown.alloc _) ⟨w1.heap.size, 0, none⟩ 1 1 [.int .u8 c] rfl rfl ?c1 ?c2 ?c3 ?c4 ?c5 ?_)
  case c1 =>
    intro j u hj
    match j, hj with
    | 0, hj => simp at hj; subst hj; simp [Addr.add]
  case c2 => intro u hu; simp at hu; subst hu; rfl
  case c3 => unfold maxLen; omega
  case c4 => omega
  case c5 => have := hb1.size; simp; omega
  intro v' w2 hown' hgrow _
  have hlt : b < w1.heap.size := by
    rcases Nat.lt_or_ge b w1.heap.size with h' | h'
    · exact h'
    · simp [Array.getElem?_eq_none h'] at hbk
  have hb2 : w2.heap[b]? = some (.cells #[.pointer (some ⟨b, 0, none⟩), v] T (0, 0)) := by
    rw [hgrow.block b (by simp; omega) (fun e => hne e.symm), Lib.alloc_old w1 _ b hlt]
    exact hbk
  have d0 : w2.cell? ⟨b, 0, none⟩ = some (.pointer (some ⟨b, 0, none⟩)) := by rw [Lib.cell_of_heap hb2]; rfl
  have d1 : w2.cell? ⟨b, 1, none⟩ = some v := by rw [Lib.cell_of_heap hb2]; rfl
  have f1 : w2.frozen? ⟨b, 1, none⟩ = false := Lib.frozen_of_heap hb2 1
  obtain ⟨g, cap, rfl⟩ : ∃ g cap, v' = .slice (some ⟨g, 0, none⟩) (bs.length + 1) cap := by
    rcases hown'.2 with ⟨_, h0⟩ | ⟨g, cap, cur, hv, _⟩
    · omega
    · exact ⟨g, cap, hv⟩
  have HFR2 : Aside0 (Fr T w w2) := ⟨(HFR1.out.trans (Fr.of_below (below_alloc (Below.refl _ _) _))).trans (Fr.grown (hown.alloc _) hgrow)⟩
  go_wp2
  go_ret
  refine ⟨rfl, ?_, ?_, HFR2.out.trans (Fr.set hb2 1 _)⟩
  · exact Lib.BuilderAt.put (T := T) (e := 5) hB hb2 (bs' := bs ++ [.int .u8 c]) (by simpa using hown') hT.ne5
  · exact ((hb1.alloc (by have := hb1.size; omega) _).grown hgrow (by have := hb1.size; simp; omega) (fun k hk => (hown.lt k hk).1)).setCell (p := ⟨b, 1, none⟩) hB _
set_option maxHeartbeats 2000000 in
set_option maxRecDepth 100000 in
theorem str_calls (T : TypeId) (hT : Bt T) (B b : Nat) (bs : List Value) (s : ByteArray) (w : World) (h : Lib.IsBuilder T 5 B b bs w) (hlen : bs.length + s.size ≤ 140737488355328) (hBw : B ≤ w.heap.size) :
    Calls Tryd.prog 49 #[.pointer (some ⟨b, 0, none⟩), .string s] w fun e w' => e = .returned (.tuple #[.int .i64 s.size, .nilIface]) ∧ (Lib.BuilderAt T 5 B b (.pointer (some ⟨b, 0, none⟩)) (bs ++ Lib.strCells s) w' ∧ Below B w w' ∧ Fr T w w') := by
  obtain ⟨i0, hi, hz0, hz1, hz2⟩ := infoBx
  go_enter Tryd.func49, Tryd.ntmps49
  go_wp2_with fail
  refine (copy_calls T hT B b bs _ h).mono ?_
  rintro e w1 ⟨rfl, h1, hb1, hfr1⟩
  have HFR1 := Aside0.mk hfr1
  clear hfr1
  obtain ⟨hB, v, hbk, hown, hne⟩ := h1
  have c0 : w1.cell? ⟨b, 0, none⟩ = some (.pointer (some ⟨b, 0, none⟩)) := by rw [Lib.cell_of_heap hbk]; rfl
  have c1 : w1.cell? ⟨b, 1, none⟩ = some v := by rw [Lib.cell_of_heap hbk]; rfl
  go_wp2_with (at_builtin; refine Lib.wpList_append_own_string _ rfl _ _ 75 9 rfl B 5 i0 Tryd.underlying75 Tryd.underlying9 hi hz0 hz1 hz2 _ _ _ rfl hown s rfl ?c3 ?c4 ?c5 ?_)
  case c3 => unfold maxLen; omega
  case c4 => omega
  case c5 => have := hb1.size; omega
  intro v' w2 hown' hgrow _
  have hlt : b < w1.heap.size := by
    rcases Nat.lt_or_ge b w1.heap.size with h' | h'
    · exact h'
    · simp [Array.getElem?_eq_none h'] at hbk
  have hb2 : w2.heap[b]? = some (.cells #[.pointer (some ⟨b, 0, none⟩), v] T (0, 0)) := by
    rw [hgrow.block b hlt (fun e => hne e.symm)]
    exact hbk
  have d0 : w2.cell? ⟨b, 0, none⟩ = some (.pointer (some ⟨b, 0, none⟩)) := by rw [Lib.cell_of_heap hb2]; rfl
  have d1 : w2.cell? ⟨b, 1, none⟩ = some v := by rw [Lib.cell_of_heap hb2]; rfl
  have f1 : w2.frozen? ⟨b, 1, none⟩ = false := Lib.frozen_of_heap hb2 1
  obtain ⟨ao, n', cap, rfl⟩ : ∃ ao n' cap, v' = .slice ao n' cap := by
    rcases hown'.2 with ⟨hv, _⟩ | ⟨g, cap, cur, hv, _⟩
    · exact ⟨_, _, _, hv⟩
    · exact ⟨_, _, _, hv⟩
  have HFR2 : Aside0 (Fr T w w2) := ⟨HFR1.out.trans (Fr.grown hown hgrow)⟩
  go_wp2
  go_ret2
  refine ⟨rfl, ?_, ?_, HFR2.out.trans (Fr.set hb2 1 _)⟩
  · exact Lib.BuilderAt.put (T := T) (e := 5) hB hb2 (bs' := bs ++ Lib.strCells s) (by simpa [Lib.strCells_length] using hown') hT.ne5
  · exact (hb1.grown hgrow (by have := hb1.size; omega) (fun k hk => (hown.lt k hk).1)).setCell (p := ⟨b, 1, none⟩) hB _
end Go.Proofs.YtagpkphehkfjgaaDoor.Sb

namespace Go.Proofs.YtagpkphehkfjgaaDoor.Sc
open Go.RowKit Go.Proofs.YtagpkphehkfjgaaDoorW.PrintWords Go.Proofs.YtagpkphehkfjgaaDoorW.PrintLast Go.Proofs.YtagpkphehkfjgaaDoorW.PrintMore Go.Proofs.YtagpkphehkfjgaaDoor.Px
theorem cell_spot {w : World} {a : Addr} {v : Value} (h : w.cell? a = some v) : a.spot = none := by
  unfold World.cell? at h
  split at h
  · split at h
    · cases h
    · rename_i hs
      cases hsp : a.spot with
      | none => rfl
      | some s => rw [hsp] at hs; simp at hs
  · cases h
theorem bk_bytes {w : World} {A : Option Addr} {c : Nat} {bl : List UInt8} (h : BK w (.slice A bl.length c) bl) : Lib.BytesIn w A bl.length (bl.map fun x => (x.toNat : Int)) := by
  intro hn
  obtain ⟨ad, c0, x0, e, _, _, hc0⟩ := h.at hn
  injection e with e _ _
  subst e
  have hs : ad.spot = none := by
    have := cell_spot hc0
    unfold Addr.add at this
    rw [if_pos rfl] at this
    exact this
  obtain ⟨b, o, sp⟩ := ad
  simp only [] at hs
  subst hs
  refine ⟨b, o, rfl, fun i hi => ?_⟩
  obtain ⟨ad, c1, x, e, _, hx, hc⟩ := h.at hi
  injection e with e _ _
  injection e with e
  subst e
  have e2 : (⟨b, o, none⟩ : Addr).add i = ⟨b, o + i, none⟩ := by
    unfold Addr.add
    split
    · rename_i h; subst h; rfl
    · rfl
  rw [e2] at hc
  rw [hc, List.getD_eq_getElem?_getD, List.getElem?_map, hx]
  rfl
theorem bytes_back (bl : List UInt8) : Lib.bytesOf (bl.map fun x => (x.toNat : Int)) = bl := by
  unfold Lib.bytesOf
  rw [List.map_map]
  conv => rhs; rw [← List.map_id bl]
  exact List.map_congr_left fun x _ => by simp
theorem equal_calls (v u : Value) (l m : List UInt8) (w : World) (h1 : BK w v l) (h2 : BK w u m) : Calls Tryd.prog 72 #[v, u] w fun e w' => e = .returned (.bool (decide (l = m))) ∧ w' = w := by
  obtain ⟨A, c, rfl, _⟩ := id h1
  obtain ⟨B, d, rfl, _⟩ := id h2
  have h := Tryd.bytes_Equal_all A B l.length c m.length d _ _ w (by simp) (by simp) (bk_bytes h1) (bk_bytes h2)
  rw [bytes_back, bytes_back] at h
  have e : (l == m) = decide (l = m) := by rw [Bool.eq_iff_iff, beq_iff_eq, decide_eq_true_iff]
  rw [e] at h
  exact h
/-- Two tears' variables. -/
structure T2 (w : World) (g1 g2 : Nat) (k j : Int) (v u : Value) (bl cl : List UInt8) (W : World) : Prop where
  c1 : B77 W g1 k v
  c2 : B77 W g2 j u
  b1 : BK W v bl
  b2 : BK W u cl
  bl : Below w.heap.size w W
theorem t2_new (w : World) (k j : Int) (v u : Value) (o1 o2 : Obj) (h1 : o1 = .cells #[.int .i64 k, v] 77) (h2 : o2 = .cells #[.int .i64 j, u] 77) : B77 ((w.alloc o1).alloc o2) w.heap.size k v ∧ B77 ((w.alloc o1).alloc o2) (w.heap.size + 1) j u := by
  have e1 : ∀ (w : World) (o : Obj), (w.alloc o).heap.size = w.heap.size + 1 := fun w o => by simp
  have h := blk_new (w.alloc o1) o2
  rw [e1] at h
  subst h1 h2
  exact ⟨blk_alloc (blk_new w _) _, h⟩
set_option maxHeartbeats 1600000 in
set_option maxRecDepth 100000 in
theorem teq_calls (s t : Tear) (v u : Value) (w : World) (h1 : BK w v s.b) (h2 : BK w u t.b) : Calls Tryd.prog 71 #[.agg #[.int .i64 s.k, v], .agg #[.int .i64 t.k, u]] w fun e w' => e = .returned (.bool (decide (s = t))) ∧ Below w.heap.size w w' := by
  obtain ⟨k, bl⟩ := s
  obtain ⟨j, cl⟩ := t
  have H1 := Aside0.mk h1
  have H2 := Aside0.mk h2
  obtain ⟨A, c, rfl, _⟩ := h1
  obtain ⟨B, d, rfl, _⟩ := h2
  obtain ⟨D, hD⟩ : ∃ D, decide ((⟨k, bl⟩ : Tear) = ⟨j, cl⟩) = D := ⟨_, rfl⟩
  rw [hD]
  have HD := Aside0.mk hD
  clear hD
  go_enter Tryd.func71, Tryd.ntmps71
  go_upto_region 1 with (fail)
  refine wp_world (T2 w w.heap.size (w.heap.size + 1) k j (.slice A bl.length c) (.slice B cl.length d) bl cl) (by
    have h := t2_new w k j (.slice A bl.length c) (.slice B cl.length d) _ _ rfl rfl
    have hb := below_alloc (below_alloc (Below.refl w.heap.size w) (.cells #[.int .i64 k, .slice A bl.length c] 77)) (.cells #[.int .i64 j, .slice B cl.length d] 77)
    exact ⟨h.1, h.2, H1.out.below hb, H2.out.below hb, hb⟩) ?_
  obtain ⟨g1, hg1⟩ : ∃ g1, w.heap.size = g1 := ⟨_, rfl⟩
  obtain ⟨g2, hg2⟩ : ∃ g2, w.heap.size + 1 = g2 := ⟨_, rfl⟩
  rw [hg2, hg1]
  clear hg1 hg2 H1 H2
  intro w3 ho
  have HO := Aside0.mk ho
  clear ho
  have r0 := HO.out.c1.c0
  have r1 := HO.out.c1.c1
  have s0 := HO.out.c2.c0
  have s1 := HO.out.c2.c1
  by_cases hk : k = j
  · have q0 := eqi_t hk
    have HK := Aside0.mk hk
    clear hk
    go_wp2_with fail
    refine (equal_calls _ _ bl cl _ HO.out.b1 HO.out.b2).mono ?_
    rintro e w4 ⟨rfl, rfl⟩
    have HE : Aside0 (decide (bl = cl) = D) := ⟨by
      rw [← HD.out, HK.out]
      congr 1
      rw [Tear.mk.injEq, eq_iff_iff]
      exact ⟨fun h => ⟨rfl, h⟩, fun h => h.2⟩⟩
    rw [HE.out]
    go_wp2
    go_ret
    exact ⟨rfl, HO.out.bl⟩
  · have q0 := eqi_f hk
    have HF : Aside0 (D = false) := ⟨by rw [← HD.out]; exact decide_eq_false (fun e => hk (by injection e))⟩
    clear hk
    go_wp2
    go_ret
    exact ⟨by rw [HF.out]; rfl, HO.out.bl⟩
theorem tl_next {α : Type} {l m : List α} {k : Nat} {x y : α} (h : l.take k = m.take k) (h1 : l[k]? = some x) (h2 : m[k]? = some y) (he : x = y) : l.take (k + 1) = m.take (k + 1) := by
  rw [List.take_add_one, List.take_add_one, h, h1, h2, he]
/-- The world behind: what lay stays. -/
def Bw (w W : World) : Prop := Below w.heap.size w W
theorem Bw.step {w W w2 : World} (h : Bw w W) (k : Below W.heap.size W w2) : Bw w w2 := below_step (w := w) h k
theorem t2_cut {wr : World} {k : Int} {v : Value} {bl : List UInt8} {o : Obj} (ho : o = .cells #[.int .i64 k, v] 77) (hb : BK wr v bl) : B77 (wr.alloc o) wr.heap.size k v ∧ BK (wr.alloc o) v bl ∧ Bw wr (wr.alloc o) := by
  subst ho
  exact ⟨blk_new wr _, hb.below (below_alloc (Below.refl _ _) _), below_alloc (Below.refl _ _) _⟩
set_option maxHeartbeats 3200000 in
set_option maxRecDepth 100000 in
theorem eqt_calls (v u : Value) (xs ys : List Tear) (w : World) (h1 : TK w v xs) (h2 : TK w u ys) (hl : xs.length ≤ 100000) (hm : ys.length ≤ 100000) : Calls Tryd.prog 70 #[v, u, .func (.func 71) #[] #[]] w fun e w' => e = .returned (.bool (decide (xs = ys))) ∧ Below w.heap.size w w' := by
  have HV := Aside0.mk h1
  have HU := Aside0.mk h2
  have HL := Aside0.mk hl
  obtain ⟨A, c, rfl, _⟩ := h1
  obtain ⟨B, d, rfl, _⟩ := h2
  by_cases hlen : xs.length = ys.length
  · have q0 : ((xs.length : Int) == (ys.length : Int)) = true := by rw [beq_iff_eq]; omega
    have q1 : ((xs.length : Int) != (ys.length : Int)) = false := by rw [bne_eq_false_iff_eq]; omega
    have HLEN := Aside0.mk hlen
    clear hl hm hlen
    go_enter Tryd.func70, Tryd.ntmps70
    go_wp2
    clear q0 q1
    go_loopw [17] (fun v17 W => ∃ k : Nat, k ≤ xs.length ∧ v17 = .int .i64 k ∧ Aside0 (xs.take k = ys.take k) ∧ Aside0 (TK W (.slice A xs.length c) xs) ∧ Aside0 (TK W (.slice B ys.length d) ys) ∧ Aside0 (Below w.heap.size w W)) (fun v17 _ => xs.length - (intOf v17).toNat)
    case atStart => exact ⟨0, Nat.zero_le _, rfl, ⟨by simp⟩, HV, HU, ⟨Below.refl _ _⟩⟩
    case round =>
      clear HV HU
      obtain ⟨i, hi, rfl, HT, HV, HU, HB⟩ := hrel
      have hl := HL.out
      by_cases hlt : i < xs.length
      · have d0 : decide ((i : Int) < (xs.length : Int)) = true := decide_eq_true (by omega)
        obtain ⟨ad, c2, x, tv, e1, _, hx, ct0, ct1, hbt⟩ := HV.out.at hlt
        obtain ⟨A2, n2, ev, _⟩ := id hbt
        injection e1 with e1 _ e3
        subst e1 e3
        have hk1 : (i : Int) < (xs.length : Int) := by omega
        have hk2 : (i : Int) < (ys.length : Int) := by have := HLEN.out; omega
        have hk3 : (i : Int) ≤ 100000 := by omega
        have HVX := Aside0.mk hx
        have HBT := Aside0.mk hbt
        rw [← add_off] at ct1
        subst ev
        have HLT := Aside0.mk hlt
        clear hx hbt
        go_upto_region 6 with (fail)
        obtain ⟨g8, hg8⟩ : ∃ g8, wr.heap.size = g8 := ⟨_, rfl⟩
        refine wp_world (fun W => Aside0 (B77 W g8 x.k (.slice A2 x.b.length n2)) ∧ Aside0 (BK W (.slice A2 x.b.length n2) x.b) ∧ Aside0 (Bw wr W)) (by
          subst hg8
          have h := t2_cut (wr := wr) (k := x.k) (v := .slice A2 x.b.length n2) (bl := x.b) rfl HBT.out
          exact ⟨⟨h.1⟩, ⟨h.2.1⟩, ⟨h.2.2⟩⟩) ?_
        rw [hg8]
        clear hg8 ct0 ct1 HBT
        rintro w1 ⟨HT8, HBT, HBW⟩
        obtain ⟨bd, d2, y, uv, e2, _, hy, cu0, cu1, hbu⟩ := (HU.out.below HBW.out).at (k := i) (by have := HLEN.out; have := HLT.out; omega)
        obtain ⟨B2, m2, ev, _⟩ := id hbu
        injection e2 with e2 _ e4
        subst e2 e4
        have HVY := Aside0.mk hy
        have HBU := Aside0.mk hbu
        rw [← add_off] at cu1
        subst ev
        clear hy hbu
        go_upto_region 7 with (fail)
        obtain ⟨g9, hg9⟩ : ∃ g9, w1.heap.size = g9 := ⟨_, rfl⟩
        refine wp_world (fun W => Aside0 (B77 W g8 x.k (.slice A2 x.b.length n2)) ∧ Aside0 (B77 W g9 y.k (.slice B2 y.b.length m2)) ∧ Aside0 (BK W (.slice A2 x.b.length n2) x.b) ∧ Aside0 (BK W (.slice B2 y.b.length m2) y.b) ∧ Aside0 (Bw wr W)) (by
          subst hg9
          have h := t2_cut (wr := w1) (k := y.k) (v := .slice B2 y.b.length m2) (bl := y.b) rfl HBU.out
          exact ⟨⟨blk_below HT8.out h.2.2⟩, ⟨h.1⟩, ⟨HBT.out.below h.2.2⟩, ⟨h.2.1⟩, ⟨Bw.step HBW.out h.2.2⟩⟩) ?_
        rw [hg9]
        clear hg9 cu0 cu1 HBT HBU HT8 HBW
        rintro w2 ⟨HT8, HT9, HBT, HBU, HBW⟩
        have r0 := HT8.out.c0
        have r1 := HT8.out.c1
        have s0 := HT9.out.c0
        have s1 := HT9.out.c1
        obtain ⟨D, hD⟩ : ∃ D, decide (x = y) = D := ⟨_, rfl⟩
        have HD := Aside0.mk hD
        clear hD
        go_wp2_with fail
        refine (teq_calls x y _ _ _ HBT.out HBU.out).mono ?_
        rintro e w4 ⟨rfl, hb⟩
        rw [HD.out]
        have hb4 : Below wr.heap.size wr w4 := Bw.step HBW.out hb
        have HB2 := Aside0.mk (below_step HB.out hb4)
        have HV2 := Aside0.mk (HV.out.below hb4)
        have HU2 := Aside0.mk (HU.out.below hb4)
        clear hb hb4 r0 r1 s0 s1 HT8 HT9 HBT HBU HBW
        cases D
        · have HF : Aside0 (decide (xs = ys) = false) := ⟨decide_eq_false (fun e => (of_decide_eq_false HD.out) (by
            have h := HVX.out
            rw [e, HVY.out] at h
            injection h with h
            exact h.symm))⟩
          go_wp2
          go_ret
          exact ⟨by rw [HF.out]; rfl, HB2.out⟩
        · have HT2 : Aside0 (xs.take (i + 1) = ys.take (i + 1)) := ⟨tl_next HT.out HVX.out HVY.out (of_decide_eq_true HD.out)⟩
          go_wp2
          go_roundw
          case rel => exact ⟨i + 1, by omega, by go_num, HT2, HV2, HU2, HB2⟩
          case measure => simp [intOf]; omega
      · obtain rfl : i = xs.length := by omega
        have d0 : decide ((xs.length : Int) < (xs.length : Int)) = false := decide_eq_false (by omega)
        have HD : Aside0 (decide (xs = ys) = true) := ⟨decide_eq_true (by
          have h := HT.out
          have := HLEN.out
          rwa [List.take_of_length_le (Nat.le_refl _), List.take_of_length_le (by omega)] at h)⟩
        go_wp2
        go_ret
        exact ⟨by rw [HD.out]; rfl, HB.out⟩
  · have q0 : ((xs.length : Int) == (ys.length : Int)) = false := by rw [beq_eq_false_iff_ne]; omega
    have q1 : ((xs.length : Int) != (ys.length : Int)) = true := by rw [bne_iff_ne]; omega
    have HD : Aside0 (decide (xs = ys) = false) := ⟨decide_eq_false (fun e => hlen (by rw [e]))⟩
    rw [HD.out]
    clear hl hm hlen
    go_enter Tryd.func70, Tryd.ntmps70
    go_wp2
    go_ret
    exact ⟨rfl, Below.refl _ _⟩
end Go.Proofs.YtagpkphehkfjgaaDoor.Sc

namespace Go.Proofs.YtagpkphehkfjgaaDoor.Sc
open Go.RowKit Go.Proofs.YtagpkphehkfjgaaDoorW.PrintWords Go.Proofs.YtagpkphehkfjgaaDoorW.PrintLast Go.Proofs.YtagpkphehkfjgaaDoorW.PrintMore Go.Proofs.YtagpkphehkfjgaaDoor.Px
set_option maxHeartbeats 1600000 in
set_option maxRecDepth 100000 in
theorem same_calls (a b : Act) (A B : Option Addr) (c d : Nat) (w : World) (h1 : TK w (.slice A a.t.length c) a.t) (h2 : TK w (.slice B b.t.length d) b.t) (hx : TB a.t) (hy : TB b.t) : Calls Tryd.prog 48 #[actV a (.slice A a.t.length c), actV b (.slice B b.t.length d)] w fun e w' => e = .returned (.bool (decide (a = b))) ∧ Below w.heap.size w w' := by
  obtain ⟨k, a1, b1, n1, x1, y1, ts⟩ := a
  obtain ⟨j, a2, b2, n2, x2, y2, us⟩ := b
  have HT1 := Aside0.mk h1
  have HT2 := Aside0.mk h2
  have HTB := Aside0.mk hx
  have HUB := Aside0.mk hy
  have hl1 : ts.length ≤ 100000 := hx.l
  have hl2 : us.length ≤ 100000 := hy.l
  clear h1 h2 hx hy
  obtain ⟨D, hD⟩ : ∃ D, decide ((⟨k, a1, b1, n1, x1, y1, ts⟩ : Act) = ⟨j, a2, b2, n2, x2, y2, us⟩) = D := ⟨_, rfl⟩
  rw [hD]
  have HD := Aside0.mk hD
  clear hD
  go_enter Tryd.func48, Tryd.ntmps48
  go_upto_region 1 with (fail)
  refine wp_world (O2 w w.heap.size (w.heap.size + 1) ⟨k, a1, b1, n1, x1, y1, ts⟩ ⟨j, a2, b2, n2, x2, y2, us⟩ (.slice A ts.length c) (.slice B us.length d)) (by
    have h := o2_new w ⟨k, a1, b1, n1, x1, y1, ts⟩ ⟨j, a2, b2, n2, x2, y2, us⟩ (.slice A ts.length c) (.slice B us.length d) _ _ rfl rfl
    have hb := below_alloc (below_alloc (Below.refl w.heap.size w) (.cells #[.int .i64 k, .int .i64 a1, .int .i64 b1, .int .i64 n1, .int .i64 x1, .int .i64 y1, .slice A ts.length c] 60)) (.cells #[.int .i64 j, .int .i64 a2, .int .i64 b2, .int .i64 n2, .int .i64 x2, .int .i64 y2, .slice B us.length d] 60)
    exact ⟨h.1, h.2, HT1.out.below hb, HT2.out.below hb, hb⟩) ?_
  obtain ⟨g1, hg1⟩ : ∃ g1, w.heap.size = g1 := ⟨_, rfl⟩
  obtain ⟨g2, hg2⟩ : ∃ g2, w.heap.size + 1 = g2 := ⟨_, rfl⟩
  rw [hg2, hg1]
  clear hg1 hg2 HT1 HT2
  intro w3 ho
  have HO := Aside0.mk ho
  have HL1 := Aside0.mk hl1
  have HL2 := Aside0.mk hl2
  clear ho hl1 hl2
  obtain ⟨r0, r1, r2, r3, r4, r5, r6⟩ := HO.out.c1.all
  obtain ⟨s0, s1, s2, s3, s4, s5, s6⟩ := HO.out.c2.all
  simp only [] at r0 r1 r2 r3 r4 r5 r6 s0 s1 s2 s3 s4 s5 s6
  by_cases z0 : k = j
  case neg =>
    have p0 := neq_t z0
    have p1 := eqi_f z0
    have HF : Aside0 (D = false) := ⟨by rw [← HD.out]; exact decide_eq_false (fun e => z0 (by injection e))⟩
    clear z0
    go_wp2
    go_ret
    exact ⟨by rw [HF.out]; rfl, HO.out.bl⟩
  have p0a := neq_f z0
  have p0b := eqi_t z0
  have Z0 := Aside0.mk z0
  clear z0
  by_cases z1 : a1 = a2
  case neg =>
    have p0 := neq_t z1
    have p1 := eqi_f z1
    have HF : Aside0 (D = false) := ⟨by rw [← HD.out]; exact decide_eq_false (fun e => z1 (by injection e))⟩
    clear z1
    go_wp2
    go_ret
    exact ⟨by rw [HF.out]; rfl, HO.out.bl⟩
  have p1a := neq_f z1
  have p1b := eqi_t z1
  have Z1 := Aside0.mk z1
  clear z1
  by_cases z2 : b1 = b2
  case neg =>
    have p0 := neq_t z2
    have p1 := eqi_f z2
    have HF : Aside0 (D = false) := ⟨by rw [← HD.out]; exact decide_eq_false (fun e => z2 (by injection e))⟩
    clear z2
    go_wp2
    go_ret
    exact ⟨by rw [HF.out]; rfl, HO.out.bl⟩
  have p2a := neq_f z2
  have p2b := eqi_t z2
  have Z2 := Aside0.mk z2
  clear z2
  by_cases z3 : n1 = n2
  case neg =>
    have p0 := neq_t z3
    have p1 := eqi_f z3
    have HF : Aside0 (D = false) := ⟨by rw [← HD.out]; exact decide_eq_false (fun e => z3 (by injection e))⟩
    clear z3
    go_wp2
    go_ret
    exact ⟨by rw [HF.out]; rfl, HO.out.bl⟩
  have p3a := neq_f z3
  have p3b := eqi_t z3
  have Z3 := Aside0.mk z3
  clear z3
  by_cases z4 : x1 = x2
  case neg =>
    have p0 := neq_t z4
    have p1 := eqi_f z4
    have HF : Aside0 (D = false) := ⟨by rw [← HD.out]; exact decide_eq_false (fun e => z4 (by injection e))⟩
    clear z4
    go_wp2
    go_ret
    exact ⟨by rw [HF.out]; rfl, HO.out.bl⟩
  have p4a := neq_f z4
  have p4b := eqi_t z4
  have Z4 := Aside0.mk z4
  clear z4
  by_cases z5 : y1 = y2
  case neg =>
    have p0 := neq_t z5
    have p1 := eqi_f z5
    have HF : Aside0 (D = false) := ⟨by rw [← HD.out]; exact decide_eq_false (fun e => z5 (by injection e))⟩
    clear z5
    go_wp2
    go_ret
    exact ⟨by rw [HF.out]; rfl, HO.out.bl⟩
  have p5a := neq_f z5
  have p5b := eqi_t z5
  have Z5 := Aside0.mk z5
  clear z5
  go_wp2_with fail
  refine (eqt_calls _ _ ts us _ HO.out.t1 HO.out.t2 HL1.out HL2.out).mono ?_
  rintro e w4 ⟨rfl, hb⟩
  have HB4 := Aside0.mk (below_step HO.out.bl hb)
  have HE : Aside0 (decide (ts = us) = D) := ⟨by
    rw [← HD.out, Z0.out, Z1.out, Z2.out, Z3.out, Z4.out, Z5.out]
    congr 1
    rw [Act.mk.injEq, eq_iff_iff]
    exact ⟨fun h => ⟨rfl, rfl, rfl, rfl, rfl, rfl, h⟩, fun h => h.2.2.2.2.2.2⟩⟩
  rw [HE.out]
  clear hb
  go_wp2
  go_ret
  exact ⟨rfl, HB4.out⟩
theorem a2_cut {wr : World} {a : Act} {v : Value} {o : Obj} (ho : o = .cells #[.int .i64 a.k, .int .i64 a.a, .int .i64 a.b, .int .i64 a.n, .int .i64 a.x, .int .i64 a.y, v] 60) (hb : TK wr v a.t) : B60 (wr.alloc o) wr.heap.size a v ∧ TK (wr.alloc o) v a.t ∧ Bw wr (wr.alloc o) := by
  subst ho
  exact ⟨blk_new wr _, hb.below (below_alloc (Below.refl _ _) _), below_alloc (Below.refl _ _) _⟩
set_option maxHeartbeats 3200000 in
set_option maxRecDepth 100000 in
theorem eqa_calls (v u : Value) (xs ys : List Act) (w : World) (h1 : AK w v xs) (h2 : AK w u ys) (hax : AB xs) (hay : AB ys) : Calls Tryd.prog 53 #[v, u, .func (.func 48) #[] #[]] w fun e w' => e = .returned (.bool (decide (xs = ys))) ∧ Below w.heap.size w w' := by
  have HV := Aside0.mk h1
  have HU := Aside0.mk h2
  have HAX := Aside0.mk hax
  have HAY := Aside0.mk hay
  have hl : xs.length ≤ 100000 := hax.l
  have hm : ys.length ≤ 100000 := hay.l
  have HL := Aside0.mk hl
  clear hax hay
  obtain ⟨A, c, rfl, _⟩ := h1
  obtain ⟨B, d, rfl, _⟩ := h2
  by_cases hlen : xs.length = ys.length
  · have q0 : ((xs.length : Int) == (ys.length : Int)) = true := by rw [beq_iff_eq]; omega
    have q1 : ((xs.length : Int) != (ys.length : Int)) = false := by rw [bne_eq_false_iff_eq]; omega
    have HLEN := Aside0.mk hlen
    clear hl hm hlen
    go_enter Tryd.func53, Tryd.ntmps53
    go_wp2
    clear q0 q1
    go_loopw [17] (fun v17 W => ∃ k : Nat, k ≤ xs.length ∧ v17 = .int .i64 k ∧ Aside0 (xs.take k = ys.take k) ∧ Aside0 (AK W (.slice A xs.length c) xs) ∧ Aside0 (AK W (.slice B ys.length d) ys) ∧ Aside0 (Below w.heap.size w W)) (fun v17 _ => xs.length - (intOf v17).toNat)
    case atStart => exact ⟨0, Nat.zero_le _, rfl, ⟨by simp⟩, HV, HU, ⟨Below.refl _ _⟩⟩
    case round =>
      clear HV HU
      obtain ⟨i, hi, rfl, HT, HV, HU, HB⟩ := hrel
      have hl := HL.out
      by_cases hlt : i < xs.length
      · have d0 : decide ((i : Int) < (xs.length : Int)) = true := decide_eq_true (by omega)
        obtain ⟨ad, c2, x, A2, n2, e1, hx, ⟨k0, k1, k2, k3, k4, k5, k6⟩, hbt⟩ := HV.out.at hlt
        injection e1 with e1 _ e3
        subst e1 e3
        have hk1 : (i : Int) < (xs.length : Int) := by omega
        have hk2 : (i : Int) < (ys.length : Int) := by have := HLEN.out; omega
        have hk3 : (i : Int) ≤ 100000 := by omega
        have HVX := Aside0.mk hx
        have HBT := Aside0.mk hbt
        have HLT := Aside0.mk hlt
        clear hx hbt
        go_upto_region 6 with (fail)
        obtain ⟨g8, hg8⟩ : ∃ g8, wr.heap.size = g8 := ⟨_, rfl⟩
        refine wp_world (fun W => Aside0 (B60 W g8 x (.slice A2 x.t.length n2)) ∧ Aside0 (TK W (.slice A2 x.t.length n2) x.t) ∧ Aside0 (Bw wr W)) (by
          subst hg8
          have h := a2_cut (wr := wr) (a := x) (v := .slice A2 x.t.length n2) rfl HBT.out
          exact ⟨⟨h.1⟩, ⟨h.2.1⟩, ⟨h.2.2⟩⟩) ?_
        rw [hg8]
        clear hg8 k0 k1 k2 k3 k4 k5 k6 HBT
        rintro w1 ⟨HT8, HBT, HBW⟩
        obtain ⟨bd, d2, y, B2, m2, e2, hy, ⟨l0, l1, l2, l3, l4, l5, l6⟩, hbu⟩ := (HU.out.below HBW.out).at (k := i) (by have := HLEN.out; have := HLT.out; omega)
        injection e2 with e2 _ e4
        subst e2 e4
        have HVY := Aside0.mk hy
        have HBU := Aside0.mk hbu
        clear hy hbu
        go_upto_region 7 with (fail)
        obtain ⟨g9, hg9⟩ : ∃ g9, w1.heap.size = g9 := ⟨_, rfl⟩
        refine wp_world (fun W => Aside0 (B60 W g8 x (.slice A2 x.t.length n2)) ∧ Aside0 (B60 W g9 y (.slice B2 y.t.length m2)) ∧ Aside0 (TK W (.slice A2 x.t.length n2) x.t) ∧ Aside0 (TK W (.slice B2 y.t.length m2) y.t) ∧ Aside0 (Bw wr W)) (by
          subst hg9
          have h := a2_cut (wr := w1) (a := y) (v := .slice B2 y.t.length m2) rfl HBU.out
          exact ⟨⟨blk_below HT8.out h.2.2⟩, ⟨h.1⟩, ⟨HBT.out.below h.2.2⟩, ⟨h.2.1⟩, ⟨Bw.step HBW.out h.2.2⟩⟩) ?_
        rw [hg9]
        clear hg9 l0 l1 l2 l3 l4 l5 l6 HBT HBU HT8 HBW
        rintro w2 ⟨HT8, HT9, HBT, HBU, HBW⟩
        obtain ⟨r0, r1, r2, r3, r4, r5, r6⟩ := HT8.out.all
        obtain ⟨s0, s1, s2, s3, s4, s5, s6⟩ := HT9.out.all
        have HTX := Aside0.mk (HAX.out.b x (List.mem_of_getElem? HVX.out))
        have HTY := Aside0.mk (HAY.out.b y (List.mem_of_getElem? HVY.out))
        obtain ⟨D, hD⟩ : ∃ D, decide (x = y) = D := ⟨_, rfl⟩
        have HD := Aside0.mk hD
        clear hD
        go_wp2_with fail
        refine (same_calls x y A2 B2 n2 m2 _ HBT.out HBU.out HTX.out HTY.out).mono ?_
        rintro e w4 ⟨rfl, hb⟩
        rw [HD.out]
        have hb4 : Below wr.heap.size wr w4 := Bw.step HBW.out hb
        have HB2 := Aside0.mk (below_step HB.out hb4)
        have HV2 := Aside0.mk (HV.out.below hb4)
        have HU2 := Aside0.mk (HU.out.below hb4)
        clear hb hb4 r0 r1 r2 r3 r4 r5 r6 s0 s1 s2 s3 s4 s5 s6 HT8 HT9 HBT HBU HBW
        cases D
        · have HF : Aside0 (decide (xs = ys) = false) := ⟨decide_eq_false (fun e => (of_decide_eq_false HD.out) (by
            have h := HVX.out
            rw [e, HVY.out] at h
            injection h with h
            exact h.symm))⟩
          go_wp2
          go_ret
          exact ⟨by rw [HF.out]; rfl, HB2.out⟩
        · have HT2 : Aside0 (xs.take (i + 1) = ys.take (i + 1)) := ⟨tl_next HT.out HVX.out HVY.out (of_decide_eq_true HD.out)⟩
          go_wp2
          go_roundw
          case rel => exact ⟨i + 1, by omega, by go_num, HT2, HV2, HU2, HB2⟩
          case measure => simp [intOf]; omega
      · obtain rfl : i = xs.length := by omega
        have d0 : decide ((xs.length : Int) < (xs.length : Int)) = false := decide_eq_false (by omega)
        have HD : Aside0 (decide (xs = ys) = true) := ⟨decide_eq_true (by
          have h := HT.out
          have := HLEN.out
          rwa [List.take_of_length_le (Nat.le_refl _), List.take_of_length_le (by omega)] at h)⟩
        go_wp2
        go_ret
        exact ⟨by rw [HD.out]; rfl, HB.out⟩
  · have q0 : ((xs.length : Int) == (ys.length : Int)) = false := by rw [beq_eq_false_iff_ne]; omega
    have q1 : ((xs.length : Int) != (ys.length : Int)) = true := by rw [bne_iff_ne]; omega
    have HD : Aside0 (decide (xs = ys) = false) := ⟨decide_eq_false (fun e => hlen (by rw [e]))⟩
    rw [HD.out]
    clear hl hm hlen
    go_enter Tryd.func53, Tryd.ntmps53
    go_wp2
    go_ret
    exact ⟨rfl, Below.refl _ _⟩
set_option maxHeartbeats 1600000 in
set_option maxRecDepth 100000 in
theorem ssame_calls (v u : Value) (xs ys : List Act) (w : World) (h1 : AK w v xs) (h2 : AK w u ys) (hx : AB xs) (hy : AB ys) : Calls Tryd.prog 29 #[v, u] w fun e w' => e = .returned (.bool (decide (xs = ys))) ∧ Below w.heap.size w w' := by
  have H1 := Aside0.mk h1
  have H2 := Aside0.mk h2
  have HX := Aside0.mk hx
  have HY := Aside0.mk hy
  clear h1 h2 hx hy
  go_enter Tryd.func29, Tryd.ntmps29
  go_wp2_with fail
  refine (eqa_calls v u xs ys _ H1.out H2.out HX.out HY.out).mono ?_
  rintro e w2 ⟨rfl, hb⟩
  have HB := Aside0.mk hb
  clear hb
  go_wp2
  go_ret
  exact ⟨rfl, HB.out⟩
end Go.Proofs.YtagpkphehkfjgaaDoor.Sc

namespace Go.Proofs.YtagpkphehkfjgaaDoor.Sc
open Go.RowKit Go.Proofs.YtagpkphehkfjgaaDoorW.PrintWords Go.Proofs.YtagpkphehkfjgaaDoorW.PrintLast Go.Proofs.YtagpkphehkfjgaaDoorW.PrintMore Go.Proofs.YtagpkphehkfjgaaDoor.Px
/-- Tears that are let in. -/
structure LT (ts : List Tear) : Prop where
  l : ts.length ≤ 40
  b : ∀ t ∈ ts, t.b.length ≤ 600
def LPost (P : Prop) (w : World) (e : Ending) (w' : World) : Prop := ∃ r, e = .returned (.bool r) ∧ (r = true → P) ∧ Below w.heap.size w w'
theorem lp_mk {P : Prop} {w w' : World} {e : Ending} (r : Bool) (he : e = .returned (.bool r)) (hr : r = true → P) (hb : Below w.heap.size w w') : LPost P w e w' := ⟨r, he, hr, hb⟩
theorem lp_no {P : Prop} {w w' : World} {e : Ending} (he : e = .returned (.bool false)) (hb : Below w.heap.size w w') : LPost P w e w' := ⟨false, he, (fun h => by cases h), hb⟩
set_option maxHeartbeats 1600000 in
set_option maxRecDepth 100000 in
theorem light3_calls (g : Nat) (A : Option Addr) (c : Nat) (ts : List Tear) (w : World) (hb : w.heap[g]? = some (.cells #[.int .i64 0, .int .i64 0, .slice none 0 0, .bool false, .slice A ts.length c] 84 (0, 0))) (htk : TK w (.slice A ts.length c) ts) :
    Calls Tryd.prog 46 #[.slice (some ⟨g, 0, none⟩) 1 1] w (LPost (LT ts) w) := by
  have c2 := blk_cell hb 2
  have c4 := blk_cell hb 4
  simp at c2 c4
  have HTK := Aside0.mk htk
  have HB : Aside0 (Below w.heap.size w w) := ⟨Below.refl _ _⟩
  clear hb htk
  go_enter Tryd.func46, Tryd.ntmps46
  go_wp2
  go_loop [3, 4] (fun v3 v4 => v3 = .int .i64 0 ∨ (v3 = .int .i64 1 ∧ Aside0 (LT ts))) (fun v3 _ => 1 - (intOf v3).toNat)
  case atStart => exact Or.inl rfl
  case round =>
    rcases hrel with rfl | ⟨rfl, HLT⟩
    · by_cases h40 : 40 < ts.length
      · have d0 : decide ((40 : Int) < (ts.length : Int)) = true := decide_eq_true (by omega)
        clear h40
        go_wp2
        go_ret
        exact lp_no rfl HB.out
      · have d0 : decide ((40 : Int) < (ts.length : Int)) = false := decide_eq_false (by omega)
        have HL : Aside0 (ts.length ≤ 40) := ⟨by omega⟩
        clear h40
        go_wp2
        go_loop [4] (fun v4 => ∃ k : Nat, k ≤ ts.length ∧ v4 = .int .i64 k ∧ Aside0 (∀ t ∈ ts.take k, t.b.length ≤ 600)) (fun v4 => ts.length - (intOf v4).toNat)
        case atStart => exact ⟨0, Nat.zero_le _, rfl, ⟨by simp⟩⟩
        case round =>
          obtain ⟨k, hk, rfl, HA⟩ := hrel
          have hl := HL.out
          by_cases hlt : k < ts.length
          · have d1 : decide ((k : Int) < (ts.length : Int)) = true := decide_eq_true (by omega)
            obtain ⟨ad, c3, t, bv, e1, _, ht, cx, cy, hbk⟩ := HTK.out.at hlt
            obtain ⟨A2, n2, ev, _⟩ := id hbk
            injection e1 with e1 _ e3
            subst e1 e3 ev
            rw [← add_off] at cy
            have hk1 : (k : Int) < (ts.length : Int) := by omega
            have hk3 : (k : Int) ≤ 40 := by omega
            have HX := Aside0.mk ht
            clear ht hbk cx
            by_cases h6 : 600 < t.b.length
            · have d2 : decide ((600 : Int) < (t.b.length : Int)) = true := decide_eq_true (by omega)
              clear h6
              go_wp2
              go_ret
              exact lp_no rfl HB.out
            · have d2 : decide ((600 : Int) < (t.b.length : Int)) = false := decide_eq_false (by omega)
              have HA2 : Aside0 (∀ t ∈ ts.take (k + 1), t.b.length ≤ 600) := ⟨take_all HA.out HX.out (by omega)⟩
              clear h6
              go_wp2
              go_roundw
              case rel => exact ⟨k + 1, by omega, by go_num, HA2⟩
              case measure => simp [intOf]; omega
          · obtain rfl : k = ts.length := by omega
            have d1 : decide ((ts.length : Int) < (ts.length : Int)) = false := decide_eq_false (by omega)
            have HLT : Aside0 (LT ts) := ⟨⟨HL.out, by have := HA.out; rwa [List.take_of_length_le (Nat.le_refl _)] at this⟩⟩
            go_wp2
            go_roundw
            case rel => exact Or.inr ⟨rfl, HLT⟩
            case measure => simp [intOf]
    · go_wp2
      go_ret
      exact lp_mk true rfl (fun _ => HLT.out) HB.out
/-- Acts that are let in. -/
structure LA (xs : List Act) : Prop where
  l : xs.length ≤ 80
  t : ∀ a ∈ xs, LT a.t
theorem LA.ab {xs : List Act} (h : LA xs) : AB xs := ⟨by have := h.l; omega, fun a ha => ⟨by have := (h.t a ha).l; omega, fun t ht => by have := (h.t a ha).b t ht; omega⟩⟩
theorem take_allA {l : List Act} {p : Act → Prop} {k : Nat} {x : Act} (h : ∀ t ∈ l.take k, p t) (h1 : l[k]? = some x) (hx : p x) : ∀ t ∈ l.take (k + 1), p t := by
  intro t ht
  rw [List.take_add_one, h1] at ht
  rcases List.mem_append.1 ht with ht | ht
  · exact h t ht
  · simp at ht
    rw [ht]; exact hx
set_option maxHeartbeats 1600000 in
set_option maxRecDepth 100000 in
theorem light_calls (v : Value) (xs : List Act) (w : World) (h1 : AK w v xs) : Calls Tryd.prog 27 #[v] w (LPost (LA xs) w) := by
  have HV := Aside0.mk h1
  obtain ⟨A, c, rfl, _⟩ := h1
  go_enter Tryd.func27, Tryd.ntmps27
  go_wp2
  go_loopw [3] (fun v3 W => ∃ k : Nat, k ≤ xs.length ∧ k ≤ 81 ∧ v3 = .int .i64 k ∧ Aside0 (∀ a ∈ xs.take k, LT a.t) ∧ Aside0 (AK W (.slice A xs.length c) xs) ∧ Aside0 (Below w.heap.size w W)) (fun v3 _ => 81 - (intOf v3).toNat)
  case atStart => exact ⟨0, Nat.zero_le _, by omega, rfl, ⟨by simp⟩, HV, ⟨Below.refl _ _⟩⟩
  case round =>
    clear HV
    obtain ⟨k, hk, hk2, rfl, HA, HV, HB⟩ := hrel
    by_cases hlt : k < xs.length
    · have d1 : decide ((k : Int) < (xs.length : Int)) = true := decide_eq_true (by omega)
      by_cases h80 : k ≤ 80
      · have d2 : decide ((k : Int) ≤ 80) = true := decide_eq_true (by omega)
        obtain ⟨ad, c3, a, A2, n2, e1, ha, ⟨k0, k1, k2, k3, k4, k5, k6⟩, htk⟩ := HV.out.at hlt
        injection e1 with e1 _ e3
        subst e1 e3
        have hk1 : (k : Int) < (xs.length : Int) := by omega
        have hk3 : (k : Int) ≤ 80 := by omega
        have HX := Aside0.mk ha
        have HTK := Aside0.mk htk
        clear ha htk k0 k1 k2 k3 k4 k5
        go_wp2_with fail
        refine (light3_calls _ A2 n2 a.t _ (blk_new _ _) (HTK.out.below (below_alloc (Below.refl _ _) _))).mono ?_
        rintro e w3 ⟨r, rfl, hr, hb⟩
        have hb4 := below_step (below_alloc (Below.refl wr.heap.size wr) _) hb
        have HV2 := Aside0.mk (HV.out.below hb4)
        have HB2 := Aside0.mk (below_step HB.out hb4)
        have HR := Aside0.mk hr
        clear hb hb4 hr HV HB k6
        cases r
        · go_wp2
          go_ret
          exact lp_no rfl HB2.out
        · have HA2 : Aside0 (∀ a ∈ xs.take (k + 1), LT a.t) := ⟨take_allA HA.out HX.out (HR.out rfl)⟩
          go_wp2
          go_roundw
          case rel => exact ⟨k + 1, by omega, by omega, by go_num, HA2, HV2, HB2⟩
          case measure => simp [intOf]; omega
      · have d2 : decide ((k : Int) ≤ 80) = false := decide_eq_false (by omega)
        have d3 : decide ((xs.length : Int) ≤ 80) = false := decide_eq_false (by omega)
        clear h80
        go_wp2
        go_ret
        exact lp_no rfl HB.out
    · obtain rfl : k = xs.length := by omega
      have d1 : decide ((xs.length : Int) < (xs.length : Int)) = false := decide_eq_false (by omega)
      by_cases h80 : xs.length ≤ 80
      · have d3 : decide ((xs.length : Int) ≤ 80) = true := decide_eq_true (by omega)
        have HLA : Aside0 (LA xs) := ⟨⟨h80, by have := HA.out; rwa [List.take_of_length_le (Nat.le_refl _)] at this⟩⟩
        clear h80
        go_wp2
        go_ret
        exact lp_mk true rfl (fun _ => HLA.out) HB.out
      · have d3 : decide ((xs.length : Int) ≤ 80) = false := decide_eq_false (by omega)
        clear h80
        go_wp2
        go_ret
        exact lp_no rfl HB.out
end Go.Proofs.YtagpkphehkfjgaaDoor.Sc

namespace Go.Proofs.YtagpkphehkfjgaaDoor.Sc
open Go.RowKit Go.Proofs.YtagpkphehkfjgaaDoorW.PrintWords Go.Proofs.YtagpkphehkfjgaaDoorW.PrintLast Go.Proofs.YtagpkphehkfjgaaDoorW.PrintMore Go.Proofs.YtagpkphehkfjgaaDoor.Px
def bcells (l : List UInt8) : List Value := l.map fun b => Value.int .u8 (b.toNat : Int)
theorem rb_cells {w : World} {B : Nat} {ok : Nat → Prop} {v : Value} {l : List UInt8} (h : RB w B ok v l) : w.ownsRow B 5 1 v l.length (bcells l) := by
  obtain ⟨_, inner, hown, hr⟩ := h
  have e : inner = bcells l := by
    obtain ⟨h1, h2⟩ := hr
    rw [kb_sz, Nat.mul_one] at h1
    refine List.ext_getElem? fun j => ?_
    by_cases hj : j < l.length
    · have h3 := h2 j l[j] (List.getElem?_eq_getElem hj)
      rw [kb_sz, Nat.mul_one] at h3
      have h4 : (inner.drop j).take 1 = [.int .u8 (l[j].toNat : Int)] := h3
      have h5 := congrArg (fun x => x[0]?) h4
      simp only [List.getElem?_take, List.getElem?_drop] at h5
      simp at h5
      rw [h5]
      unfold bcells
      rw [List.getElem?_map, List.getElem?_eq_getElem hj]
      rfl
    · rw [List.getElem?_eq_none (by omega), List.getElem?_eq_none (by simp [bcells]; omega)]
  rw [e] at hown
  exact hown
theorem rb_of {w : World} {B : Nat} {ok : Nat → Prop} {v : Value} {l : List UInt8} (h0 : ∀ k, v.ownBlock = some k → ok k) (h : w.ownsRow B 5 1 v l.length (bcells l)) : RB w B ok v l := by
  refine ⟨h0, bcells l, h, by simp [bcells, kb_sz], fun j p hp => ?_⟩
  rw [kb_sz, Nat.mul_one]
  show (bcells l |>.drop j).take 1 = [.int .u8 (p.toNat : Int)]
  obtain ⟨hj, rfl⟩ := List.getElem?_eq_some_iff.1 hp
  refine List.ext_getElem? fun i => ?_
  cases i with
  | zero => simp [bcells, hj]
  | succ i => simp; omega
set_option maxRecDepth 100000 in
/-- append(bytes, x, y), a step of a region that draws. -/
theorem step_app55 {ops : Array Oper} {o : Oper} {a : Go.Act} {K : Go.Act → World → Prop} {Q : Exit → Go.Act → World → Prop} {X : Prop} {W : World} (B : Nat) (v : Value) (xs : List UInt8) (p q : UInt8) (bp : Nat) (hgd : o.guard = none) (s x : Operand)
    (ho : o.op = .call { callee := .builtin .append, args := #[s, x], argTypes := #[75, 75] }) (hs : a.eval s = v) (hx : a.eval x = .slice (some ⟨bp, 0, none⟩) 2 2)
    (hR : RB W B (fun _ => True) v xs) (hnew : W.heap[bp]? = some (.cells #[.int .u8 (p.toNat : Int), .int .u8 (q.toNat : Int)] 5 (0, 0))) (hBs : B ≤ W.heap.size) (hl : xs.length ≤ 1000000)
    (h : ∀ g cap w', RB w' B (fun _ => True) (.slice (some ⟨g, 0, none⟩) (xs.length + 2) cap) ((xs ++ [p]) ++ [q]) → W.grownBy w' v.ownBlock → K (a.put o.dst (.slice (some ⟨g, 0, none⟩) (xs.length + 2) cap)) w') :
    if Region.wanted o (yielded ops a.tmps) = true then Oper.wp Tryd.prog o a W K Q else X := by
  obtain ⟨i, hi, hz, hsz, hby⟩ := info5x
  have hnews : ∀ (j : Nat) (u : Value), ([.int .u8 (p.toNat : Int), .int .u8 (q.toNat : Int)] : List Value)[j]? = some u → W.cell? ((⟨bp, 0, none⟩ : Addr).add j) = some u := World.news_of_block hnew
  have hone : ∀ u ∈ ([.int .u8 (p.toNat : Int), .int .u8 (q.toNat : Int)] : List Value), u.oneCell' = true := by
    intro u hu
    simp only [List.mem_cons, List.not_mem_nil, or_false] at hu
    rcases hu with rfl | rfl <;> rfl
  have h63 : xs.length + 2 ≤ maxLen := by simp only [maxLen]; omega
  refine step_append_lies _ hgd s x 75 ho B 5 i _ 1 1 Tryd.underlying75 hi hz hsz hby rfl (by decide) v xs.length (bcells xs) hs (rb_cells hR) ⟨bp, 0, none⟩ 2 2 [.int .u8 (p.toNat : Int), .int .u8 (q.toNat : Int)] hx rfl hnews hone (by decide) h63 (by omega) hBs _ rfl ?_
  intro g cap w' hown' hg hat hlt
  refine h g cap w' (rb_of (fun _ _ => trivial) ?_) hg
  have e : bcells ((xs ++ [p]) ++ [q]) = bcells xs ++ [.int .u8 (p.toNat : Int), .int .u8 (q.toNat : Int)] := by simp [bcells]
  rw [e]
  simpa using hown'
theorem rb_string {w : World} {B : Nat} {ok : Nat → Prop} {v : Value} {l : List UInt8} (h : RB w B ok v l) : (convert 75 9 v).run Tryd.prog w = .ok (Sv l) w := by
  have h1 := rb_cells h
  have e : bcells l = nums .u8 (l.map fun b => (b.toNat : Int)) := by simp [bcells, nums]
  rw [e] at h1
  have h2 := own_string Tryd.underlying75 Tryd.underlying5 Tryd.underlying9 h1
  have e3 : strOfNums (l.map fun b => (b.toNat : Int)) = (⟨l.toArray⟩ : ByteArray) := by
    have h3 := bytes_back l
    unfold Lib.bytesOf at h3
    unfold strOfNums
    exact congrArg (fun x => (⟨x.toArray⟩ : ByteArray)) h3
  rw [e3] at h2
  exact h2
/-- One digit, read. -/
theorem index_hex {d : Nat} (h : d < 16) (W : World) : (Instr.index 9 (.string ⟨#[48, 49, 50, 51, 52, 53, 54, 55, 56, 57, 97, 98, 99, 100, 101, 102]⟩) (.int .u8 (d : Int))).run Tryd.prog W = .ok (.int .u8 ((hexD d).toNat : Int)) W :=
  match d, h with
  | 0, _ => by kernel_rfl
  | 1, _ => by kernel_rfl
  | 2, _ => by kernel_rfl
  | 3, _ => by kernel_rfl
  | 4, _ => by kernel_rfl
  | 5, _ => by kernel_rfl
  | 6, _ => by kernel_rfl
  | 7, _ => by kernel_rfl
  | 8, _ => by kernel_rfl
  | 9, _ => by kernel_rfl
  | 10, _ => by kernel_rfl
  | 11, _ => by kernel_rfl
  | 12, _ => by kernel_rfl
  | 13, _ => by kernel_rfl
  | 14, _ => by kernel_rfl
  | 15, _ => by kernel_rfl
  | n + 16, h => by omega
set_option maxHeartbeats 1600000 in
set_option maxRecDepth 100000 in
theorem stear_calls (t : Tear) (v : Value) (w : World) (h1 : BK w v t.b) (hl : t.b.length ≤ 600) : Calls Tryd.prog 68 #[.agg #[.int .i64 t.k, v]] w fun e w' => e = .returned (Sv (tearW t)) ∧ Below w.heap.size w w' := by
  obtain ⟨k, bl⟩ := t
  have H1 := Aside0.mk h1
  have HL := Aside0.mk hl
  obtain ⟨A, c, rfl, _⟩ := h1
  clear hl
  go_enter Tryd.func68, Tryd.ntmps68
  go_upto_region 1 with (fail)
  obtain ⟨g1, hg1⟩ : ∃ g1, w.heap.size = g1 := ⟨_, rfl⟩
  rw [hg1]
  refine wp_world (fun W => Aside0 (B77 W g1 k (.slice A bl.length c)) ∧ Aside0 (Bw w W)) (by
    subst hg1
    exact ⟨⟨blk_new w _⟩, ⟨below_alloc (Below.refl _ _) _⟩⟩) ?_
  clear hg1
  rintro w1 ⟨HT, HB⟩
  have t0 := HT.out.c0
  have t1 := HT.out.c1
  by_cases hk0 : k = 0
  · subst hk0
    go_wp2
    go_ret
    exact ⟨rfl, HB.out⟩
  by_cases hk1 : k = 1
  · subst hk1
    go_wp2
    go_ret
    exact ⟨rfl, HB.out⟩
  have q0 := eqi_f hk0
  have q1 := eqi_f hk1
  have HW : Aside0 (tearW ⟨k, bl⟩ = 61 :: hexs bl) := ⟨by unfold tearW; rw [if_neg hk0, if_neg hk1]⟩
  clear hk0 hk1
  go_wp2_with (first | ((with_reducible refine gate_dst (N := 12) rfl ?_); refine Kd.R_lit kb (w0 := w) w.heap.size 5 ?hg (N := 12) ?hd (xs := ([61] : List UInt8)) (inner := [.int .u8 61]) (ok := fun _ => True) (okp := fun _ => False) ?hr ?hp (fun _ hk => hk.elim) trivial (show Below w.heap.size w w1 from HB.out) (show w.heap.size ≤ w1.heap.size from (show Below w.heap.size w w1 from HB.out).size) (by simp) ?_; (case hd => rfl); (case hg => rfl); (case hr => first | (go_simp; done) | (go_simp; rfl)); (case hp => exact (Reps.one (show Kd.M kb _ _ _ (61 : UInt8) [.int .u8 61] from rfl) (Reps.none _ _))); intro v1 w2 ho hb hg_ hnew_; have HR : Aside0 (RB w2 w.heap.size (fun _ => True) v1 [61]) := ⟨ho⟩; have HB2 : Aside0 (Bw w w2) := ⟨hb⟩; have HT2 : Aside0 (B77 w2 g1 k (.slice A bl.length c)) := ⟨blk_grown HT.out hg_ (by simp)⟩; clear ho hb hg_ hnew_ t0 t1; have t0 := HT2.out.c0; have t1 := HT2.out.c1))
  clear t0 t1 q0 q1
  go_loopw [3, 16] (fun v3 v16 W => ∃ j : Nat, j ≤ bl.length ∧ v16 = .int .i64 j ∧ Aside0 (RB W w.heap.size (fun _ => True) v3 (61 :: hexs (bl.take j))) ∧ Aside0 (Bw w W)) (fun _ v16 _ => bl.length - (intOf v16).toNat)
  case atStart => exact ⟨0, Nat.zero_le _, rfl, HR, HB2⟩
  case round =>
    clear HR HB2 HT2
    obtain ⟨j, hj, rfl, HR, HB⟩ := hrel
    have hl := HL.out
    obtain ⟨A3, c3, ev⟩ := Kd.R_slice HR.out
    subst ev
    by_cases hlt : j < bl.length
    · have d0 : decide ((j : Int) < (bl.length : Int)) = true := decide_eq_true (by omega)
      obtain ⟨ad, c2, x, e1, _, hx, cx⟩ := (H1.out.below (show Below w.heap.size w wr from HB.out)).at hlt
      injection e1 with e1 _ e3
      subst e1 e3
      have hk1 : (j : Int) < (bl.length : Int) := by omega
      have hk3 : (j : Int) ≤ 600 := by omega
      have HX := Aside0.mk (hexs_take hx)
      obtain ⟨p, hp⟩ : ∃ p, 61 :: hexs (bl.take j) = p := ⟨_, rfl⟩
      have HPL : Aside0 (p.length ≤ 1000000) := ⟨by rw [← hp, List.length_cons, hexs_len, List.length_take]; omega⟩
      rw [hp] at HX HR
      rw [hp]
      obtain ⟨y, hy⟩ : ∃ y, x.toNat = y := ⟨_, rfl⟩
      have hy2 : y < 256 := by have := x.toNat_lt; omega
      rw [hy] at cx HX
      obtain ⟨q, hq⟩ : ∃ q, y / 16 = q := ⟨_, rfl⟩
      obtain ⟨r, hr⟩ : ∃ r, y % 16 = r := ⟨_, rfl⟩
      rw [hq, hr] at HX
      have hq2 : q < 16 := by omega
      have hr2 : r < 16 := by omega
      have e1 : IntKind.u8.wrap ((y : Int) / 16) = (q : Int) := by rw [IntKind.wrap_u8]; omega
      have e3 : (y : Int) % 16 = (r : Int) := by omega
      have e4 : Int.tmod (y : Int) 16 = (r : Int) := by rw [Int.tmod_eq_emod_of_nonneg (by omega)]; omega
      have e6 : IntKind.u8.wrap (r : Int) = (r : Int) := by rw [IntKind.wrap_u8]; omega
      have hi1 := fun W => index_hex (d := q) hq2 W
      have hi2 := fun W => index_hex (d := r) hr2 W
      clear hx hp hy
      go_upto_region 10 with (fail)
      have HBX : Aside0 (Below w.heap.size w wr) := ⟨HB.out⟩
      go_region_law (refine step_app55 w.heap.size (.slice A3 p.length c3) p (hexD q) (hexD r) wr.heap.size rfl (.tmp 20) (.tmp 27) rfl (by simp [Go.Act.eval, Go.Act.put]) (by simp [Go.Act.eval, Go.Act.put]) (by (with_reducible repeat (first | apply Kd.R_alloc | apply Kd.R_drewN | apply Kd.R_drew)); exact HR.out) (by first | exact blk_new _ _ | exact blk_drewN (blk_new _ _) _ | exact blk_drew (blk_new _ _)) (by have := HBX.out.size; simp; omega) (by have := HPL.out; omega) ?_; intro g2 cap w5 hR hgr; have HRR := Aside0.mk hR; have HBW : Aside0 (Below w.heap.size w w5) := ⟨below_grown (by repeat (first | (with_reducible first | exact HBX.out | apply below_alloc | apply pw_below_drewN | apply below_drew1) | exact HBX.out)) (by have := HBX.out.size; simp; omega) hgr (fun k hk => (rb_own HR.out k hk).1)⟩; clear hR hgr)
      all_goals
        have HR9 : Aside0 (RB w5 w.heap.size (fun _ => True) (.slice (some ⟨g2, 0, none⟩) (p.length + 2) cap) (61 :: hexs (bl.take (j + 1)))) := ⟨by rw [HX.out]; exact HRR.out⟩
        have HB9 : Aside0 (Bw w w5) := ⟨HBW.out⟩
        clear HRR HBW HBX HR HB cx hi1 hi2
        go_wp2
        go_roundw
        case rel => exact ⟨j + 1, by omega, by go_num, HR9, HB9⟩
        case measure => simp [intOf]; omega
    · obtain rfl : j = bl.length := by omega
      have d0 : decide ((bl.length : Int) < (bl.length : Int)) = false := decide_eq_false (by omega)
      have HE : Aside0 (bl.take bl.length = bl) := ⟨List.take_of_length_le (Nat.le_refl _)⟩
      obtain ⟨p, hp⟩ : ∃ p, 61 :: hexs (bl.take bl.length) = p := ⟨_, rfl⟩
      have HP : Aside0 (p = 61 :: hexs bl) := ⟨by rw [← hp, HE.out]⟩
      rw [hp] at HR
      rw [hp]
      clear hp
      have hc := rb_string HR.out
      go_wp2
      go_ret
      exact ⟨by rw [HW.out, ← HP.out]; rfl, HB.out⟩
end Go.Proofs.YtagpkphehkfjgaaDoor.Sc

namespace Go.Proofs.YtagpkphehkfjgaaDoor.Sc
open Go.RowKit Go.Proofs.YtagpkphehkfjgaaDoorW.PrintWords Go.Proofs.YtagpkphehkfjgaaDoorW.PrintLast Go.Proofs.YtagpkphehkfjgaaDoorW.PrintMore Go.Proofs.YtagpkphehkfjgaaDoor.Px
/-- A number that a word of the machine holds. -/
def I64 (n : Int) : Prop := -9223372036854775808 ≤ n ∧ n ≤ 9223372036854775807
/-- An act whose numbers do. -/
structure IA (a : Act) : Prop where
  fk : I64 a.k
  fa : I64 a.a
  fb : I64 a.b
  fn : I64 a.n
  fx : I64 a.x
  fy : I64 a.y
theorem IA.get {a : Act} (h : IA a) (c : UInt8) : I64 (a.get c) := by
  unfold Act.get
  split
  · exact h.fa
  · split
    · exact h.fb
    · split
      · exact h.fn
      · split
        · exact h.fx
        · exact h.fy
theorem form_len (k : Int) : (form k).2.length ≤ 4 := by
  by_cases hk : 1 ≤ k ∧ k ≤ 12
  · rcases kinds hk with rfl | rfl | rfl | rfl | rfl | rfl | rfl | rfl | rfl | rfl | rfl | rfl <;> decide
  · have e : form k = ([], []) := by
      unfold form
      repeat rw [if_neg (by omega)]
    rw [e]; decide
theorem pw_take {a : Act} {ps : List UInt8} {i : Nat} {x : UInt8} (h : ps[i]? = some x) : pw a (ps.take (i + 1)) = pw a (ps.take i) ++ (if x = 116 then a.t.map tearW else [itw (a.get x)]) := by
  unfold pw
  rw [List.take_add_one, h]
  simp
theorem pw_len {a : Act} (ht : a.t.length ≤ 40) : ∀ ps : List UInt8, (pw a ps).length ≤ 41 * ps.length
  | [] => by simp [pw]
  | p :: ps => by
    have ih := pw_len ht ps
    unfold pw at ih ⊢
    rw [List.flatMap_cons, List.length_append, List.length_cons]
    split
    · rw [List.length_map]; omega
    · rw [List.length_singleton]; omega
theorem tears_take {ts : List Tear} {j : Nat} {t : Tear} (h : ts[j]? = some t) : (ts.take (j + 1)).map tearW = (ts.take j).map tearW ++ [tearW t] := by
  rw [List.take_add_one, h]
  simp
def WPost (a : Act) (w : World) (e : Ending) (w' : World) : Prop := ∃ v, e = .returned v ∧ RS w' w.heap.size v (wordsOf a) ∧ Below w.heap.size w w'
theorem wp_mk {a : Act} {w w' : World} {e : Ending} (v : Value) (he : e = .returned v) (hr : RS w' w.heap.size v (wordsOf a)) (hb : Below w.heap.size w w') : WPost a w e w' := ⟨v, he, hr, hb⟩
set_option maxHeartbeats 6400000 in
set_option maxRecDepth 100000 in
theorem words_calls (a : Act) (A : Option Addr) (c : Nat) (w : World) (hg : Gl w) (htk : TK w (.slice A a.t.length c) a.t) (hlt : LT a.t) (hia : IA a) : Calls Tryd.prog 47 #[actV a (.slice A a.t.length c)] w (WPost a w) := by
  have HG := Aside0.mk hg
  have HTK := Aside0.mk htk
  have HLT := Aside0.mk hlt
  have HIA := Aside0.mk hia
  clear hg htk hlt hia
  go_enter Tryd.func47, Tryd.ntmps47
  go_upto_region 1 with (fail)
  obtain ⟨g1, hg1⟩ : ∃ g1, w.heap.size = g1 := ⟨_, rfl⟩
  have HG1 := Aside0.mk hg1
  refine wp_world (fun W => Aside0 (B60 W g1 a (.slice A a.t.length c)) ∧ Aside0 (Below w.heap.size w W)) (by
    subst hg1
    exact ⟨⟨blk_new w _⟩, ⟨below_alloc (Below.refl _ _) _⟩⟩) ?_
  rw [hg1]
  clear hg1
  rintro w1 ⟨HC, HB⟩
  rw [← HG1.out] at HB
  obtain ⟨c0, c1, c2, c3, c4, c5, c6⟩ := HC.out.all
  obtain ⟨hw, hhw⟩ : ∃ hw, (form a.k).1 = hw := ⟨_, rfl⟩
  obtain ⟨ps, hps⟩ : ∃ ps, (form a.k).2 = ps := ⟨_, rfl⟩
  have HWD : Aside0 (wordsOf a = hw :: pw a ps) := ⟨by unfold wordsOf; rw [hhw, hps]⟩
  have HPL : Aside0 (ps.length ≤ 4) := ⟨by rw [← hps]; exact form_len _⟩
  have HFM := Aside0.mk (form_calls a.k)
  rw [hhw, hps] at HFM
  clear hhw hps
  go_wp2_with (first
    | (go_at_call 64; refine (HFM.out _).mono ?_; rintro e w2 ⟨rfl, hw2⟩; have hw2 := hw2.symm; subst hw2; go_wp2_with (first | ((with_reducible refine gate_dst (N := 16) rfl ?_); refine Kd.R_lit Kd.string (w0 := w) w.heap.size 9 ?hg (N := 16) ?hd (xs := ([bs hw] : List ByteArray)) (inner := [.string (bs hw)]) (ok := fun _ => True) (okp := fun _ => False) ?hr ?hp (fun _ hk => hk.elim) trivial HB.out HB.out.size (by simp) ?_; (case hd => rfl); (case hg => rfl); (case hr => first | (go_simp; done) | (go_simp; rfl)); (case hp => exact (Reps.one (show Kd.M Kd.string _ _ _ (bs hw) [.string (bs hw)] from rfl) (Reps.none _ _))); intro v1 w2 ho hb hg_ hnew_; have HR2 : Aside0 (RS w2 w.heap.size v1 (hw :: pw a (ps.take 0))) := ⟨ho⟩; have HB2 : Aside0 (Below w.heap.size w w2) := ⟨hb⟩; have HC2 : Aside0 (B60 w2 g1 a (.slice A a.t.length c)) := ⟨blk_grown HC.out hg_ (by simp)⟩; have HNB2 : Aside0 (some g1 ≠ v1.ownBlock) := ⟨by obtain ⟨b, h1, h2⟩ := hnew_; rw [h1]; intro e; injection e with e; have := blk_lt HC.out; omega⟩; clear ho hb hg_ hnew_))))
  clear c0 c1 c2 c3 c4 c5 c6 HC HB HFM
  go_loopw [5, 19] (fun v5 v19 W => ∃ i : Nat, i ≤ ps.length ∧ v19 = .int .i64 i ∧ Aside0 (RS W w.heap.size v5 (hw :: pw a (ps.take i))) ∧ Aside0 (B60 W g1 a (.slice A a.t.length c)) ∧ Aside0 (some g1 ≠ v5.ownBlock) ∧ Aside0 (Below w.heap.size w W)) (fun _ v19 _ => ps.length - (intOf v19).toNat)
  case atStart => exact ⟨0, Nat.zero_le _, rfl, HR2, HC2, HNB2, HB2⟩
  case round =>
    clear HR2 HC2 HNB2 HB2
    obtain ⟨i, hi, rfl, HR, HC, HNB, HB⟩ := hrel
    have HI : Aside0 (i ≤ 4) := ⟨by have := HPL.out; omega⟩
    by_cases hlt : i < ps.length
    · have d0 : decide ((i : Int) < (ps.length : Int)) = true := decide_eq_true (by omega)
      have hk1 : (i : Int) < (ps.length : Int) := by omega
      have hk3 : (i : Int) ≤ 4 := by have := HI.out; omega
      obtain ⟨x, hx⟩ : ∃ x, ps[i]? = some x := ⟨_, List.getElem?_eq_getElem hlt⟩
      have hbx : ∀ hh : i < (⟨ps.toArray⟩ : ByteArray).size, (⟨ps.toArray⟩ : ByteArray)[i]'hh = x := fun hh => Option.some.inj ((List.getElem?_eq_getElem hlt).symm.trans hx)
      have HX := Aside0.mk (pw_take (a := a) hx)
      have HWL : Aside0 ((hw :: pw a (ps.take i)).length ≤ 200) := ⟨by
        have h1 := pw_len HLT.out.l (ps.take i)
        rw [List.length_take] at h1
        rw [List.length_cons]
        omega⟩
      clear hx
      obtain ⟨ws, hws⟩ : ∃ ws, pw a (ps.take i) = ws := ⟨_, rfl⟩
      rw [hws] at HX HWL HR
      clear hws
      by_cases hxt : x = 116
      · have q0 : ((x.toNat : Int) == 116) = true := u8t hxt
        have HX2 : Aside0 (pw a (ps.take (i + 1)) = ws ++ a.t.map tearW) := ⟨by rw [HX.out, if_pos hxt]⟩
        have c6 := HC.out.c6
        clear hxt
        go_upto_region 8 with (fail)
        clear c6 q0
        have HWS : Aside0 (ws.length ≤ 199) := ⟨by have := HWL.out; rw [List.length_cons] at this; omega⟩
        have HR0 : Aside0 (RS wr w.heap.size u5 (hw :: (ws ++ (a.t.take 0).map tearW))) := ⟨by simpa using HR.out⟩
        clear HWL HR
        go_loopw [5, 29] (fun v5 v29 W => ∃ j : Nat, j ≤ a.t.length ∧ v29 = .int .i64 j ∧ Aside0 (RS W w.heap.size v5 (hw :: (ws ++ (a.t.take j).map tearW))) ∧ Aside0 (B60 W g1 a (.slice A a.t.length c)) ∧ Aside0 (some g1 ≠ v5.ownBlock) ∧ Aside0 (Below w.heap.size w W)) (fun _ v29 _ => a.t.length - (intOf v29).toNat)
        case atStart => exact ⟨0, Nat.zero_le _, rfl, HR0, HC, HNB, HB⟩
        case round =>
          clear HR0 HC HNB HB
          obtain ⟨j, hj, rfl, HR, HC, HNB, HB⟩ := hrel
          have HTL : Aside0 (a.t.length ≤ 40) := ⟨HLT.out.l⟩
          by_cases hlt : j < a.t.length
          · have d1 : decide ((j : Int) < (a.t.length : Int)) = true := decide_eq_true (by omega)
            obtain ⟨ad, c2, t, tv, e1, _, ht, ct0, ct1, hbt⟩ := (HTK.out.below HB.out).at hlt
            obtain ⟨A2, n2, ev, _⟩ := id hbt
            injection e1 with e1 _ e3
            subst e1 e3
            have hk4 : (j : Int) < (a.t.length : Int) := by omega
            have hk5 : (j : Int) ≤ 40 := by have := HTL.out; omega
            have HVX := Aside0.mk (tears_take ht)
            have HBT := Aside0.mk hbt
            have HBL : Aside0 (t.b.length ≤ 600) := ⟨HLT.out.b t (List.mem_of_getElem? ht)⟩
            have HWL : Aside0 ((hw :: (ws ++ (a.t.take j).map tearW)).length ≤ 300) := ⟨by
              have := HWS.out
              have := HTL.out
              simp only [List.length_cons, List.length_append, List.length_map, List.length_take]
              omega⟩
            rw [← add_off] at ct1
            subst ev
            clear ht hbt
            go_upto_region 10 with (fail)
            obtain ⟨g8, hg8⟩ : ∃ g8, wr.heap.size = g8 := ⟨_, rfl⟩
            refine wp_world (fun W => Aside0 (B77 W g8 t.k (.slice A2 t.b.length n2)) ∧ Aside0 (BK W (.slice A2 t.b.length n2) t.b) ∧ Aside0 (Bw wr W)) (by
              subst hg8
              have h := t2_cut (wr := wr) (k := t.k) (v := .slice A2 t.b.length n2) (bl := t.b) rfl HBT.out
              exact ⟨⟨h.1⟩, ⟨h.2.1⟩, ⟨h.2.2⟩⟩) ?_
            rw [hg8]
            clear hg8 ct0 ct1 HBT
            rintro w3 ⟨HT8, HBT, HBW⟩
            have r0 := HT8.out.c0
            have r1 := HT8.out.c1
            go_wp2_with fail
            refine (stear_calls t _ _ HBT.out HBL.out).mono ?_
            rintro e w4 ⟨rfl, hb⟩
            have hb4 : Below wr.heap.size wr w4 := Bw.step HBW.out hb
            have HB4 := Aside0.mk (below_step HB.out hb4)
            have HR4 := Aside0.mk (Kd.R_below HR.out hb4)
            have HC4 := Aside0.mk (blk_below HC.out hb4)
            obtain ⟨y, hy⟩ : ∃ y, tearW t = y := ⟨_, rfl⟩
            rw [hy] at HVX
            rw [hy]
            obtain ⟨zs, hzs⟩ : ∃ zs, ws ++ (a.t.take j).map tearW = zs := ⟨_, rfl⟩
            have HZS : Aside0 (ws ++ (a.t.take (j + 1)).map tearW = zs ++ [y]) := ⟨by rw [HVX.out, ← hzs]; simp⟩
            rw [hzs] at HR4 HWL
            clear hb hb4 r0 r1 HT8 HBT HBW HR HC HB hy hzs
            go_wp2_with (first | ((with_reducible refine gate_builtin (b := .append) (xs := #[.tmp 33, .tmp 36]) rfl ?_); at_builtin; refine Kd.R_append Kd.string (w0 := w) w.heap.size rfl (.tmp 33) (.tmp 36) 69 9 (.string ⟨#[]⟩) 16 rfl Tryd.underlying69 info9 rfl (by decide) (by omega) u5 ((hw :: zs).map bs) (bs y) [.string (bs y)] (fun _ => True) (fun _ => False) rfl rfl ?aP (fun _ hk => hk.elim) ?aF ?aO ?aB ?aS ?aL ?_; (case aP => exact rfl); (case aF => exact (fun _ _ => trivial)); (case aO => exact HR4.out); (case aB => exact HB4.out); (case aS => exact (HB4.out).size); (case aL => have := HWL.out; simp only [List.length_map]; omega); intro v2 w5 ho hb hg hat; have HR5 : Aside0 (RS w5 w.heap.size v2 ((hw :: zs) ++ [y])) := ⟨by show Kd.R Kd.string 9 w5 w.heap.size _ v2 (List.map bs (_ ++ [_])); rw [List.map_append, List.map_singleton]; exact ho⟩; have HB5 : Aside0 (Below w.heap.size w w5) := ⟨hb⟩; have HC5 : Aside0 (B60 w5 g1 a _) := ⟨blk_grown HC4.out hg HNB.out⟩; have HNB5 : Aside0 (some g1 ≠ v2.ownBlock) := ⟨nb_step HNB.out (blk_lt HC4.out) hat⟩; clear ho hb hg hat))
            have HRR : Aside0 (RS w5 w.heap.size v2 (hw :: (ws ++ (a.t.take (j + 1)).map tearW))) := ⟨by rw [HZS.out]; exact HR5.out⟩
            go_roundw
            case rel => exact ⟨j + 1, by omega, by go_num, HRR, HC5, HNB5, HB5⟩
            case measure => simp [intOf]; omega
          · obtain rfl : j = a.t.length := by omega
            have d1 : decide ((a.t.length : Int) < (a.t.length : Int)) = false := decide_eq_false (by omega)
            have HE : Aside0 (a.t.take a.t.length = a.t) := ⟨List.take_of_length_le (Nat.le_refl _)⟩
            have HRR : Aside0 (RS wr w.heap.size u5 (hw :: pw a (ps.take (i + 1)))) := ⟨by rw [HX2.out]; have h := HR.out; rw [HE.out] at h; exact h⟩
            go_wp2
            exact ⟨⟨i + 1, by omega, by go_num, HRR, HC, HNB, HB⟩, by simp [intOf]; omega⟩
      · have q0 : ((x.toNat : Int) == 116) = false := u8f hxt
        have HX2 : Aside0 (pw a (ps.take (i + 1)) = ws ++ [itw (a.get x)]) := ⟨by rw [HX.out, if_neg hxt]⟩
        have HLO : Aside0 (-9223372036854775808 ≤ a.get x) := ⟨(HIA.out.get x).1⟩
        have HHI : Aside0 (a.get x ≤ 9223372036854775807) := ⟨(HIA.out.get x).2⟩
        clear hxt
        go_wp2_with fail
        refine (at_calls x g1 _).mono ?_
        rintro e w3 ⟨rfl, hw3⟩
        have hw3 := hw3.symm
        subst hw3
        have cc := HC.out.cell x
        go_wp2_with fail
        refine (itoa_calls (a.get x) HLO.out HHI.out _ (HG.out.below HB.out).tab).mono ?_
        rintro e w4 ⟨rfl, hb⟩
        have HB4 := Aside0.mk (below_step HB.out hb)
        have HR4 := Aside0.mk (Kd.R_below HR.out hb)
        have HC4 := Aside0.mk (blk_below HC.out hb)
        have HY : Aside0 (itw (a.get x) = Lib.itoa (a.get x)) := ⟨rfl⟩
        obtain ⟨y, hy⟩ : ∃ y, Lib.itoa (a.get x) = y := ⟨_, rfl⟩
        rw [hy] at HY
        rw [hy]
        clear hb cc HR HC HB hy
        go_wp2_with (first | ((with_reducible refine gate_builtin (b := .append) (xs := #[.tmp 39, .tmp 47]) rfl ?_); at_builtin; refine Kd.R_append Kd.string (w0 := w) w.heap.size rfl (.tmp 39) (.tmp 47) 69 9 (.string ⟨#[]⟩) 16 rfl Tryd.underlying69 info9 rfl (by decide) (by omega) u5 ((hw :: ws).map bs) (bs y) [.string (bs y)] (fun _ => True) (fun _ => False) rfl rfl ?aP (fun _ hk => hk.elim) ?aF ?aO ?aB ?aS ?aL ?_; (case aP => exact rfl); (case aF => exact (fun _ _ => trivial)); (case aO => exact HR4.out); (case aB => exact HB4.out); (case aS => exact (HB4.out).size); (case aL => have := HWL.out; simp only [List.length_map]; omega); intro v2 w5 ho hb hg hat; have HR5 : Aside0 (RS w5 w.heap.size v2 ((hw :: ws) ++ [y])) := ⟨by show Kd.R Kd.string 9 w5 w.heap.size _ v2 (List.map bs (_ ++ [_])); rw [List.map_append, List.map_singleton]; exact ho⟩; have HB5 : Aside0 (Below w.heap.size w w5) := ⟨hb⟩; have HC5 : Aside0 (B60 w5 g1 a _) := ⟨blk_grown HC4.out hg HNB.out⟩; have HNB5 : Aside0 (some g1 ≠ v2.ownBlock) := ⟨nb_step HNB.out (blk_lt HC4.out) hat⟩; clear ho hb hg hat))
        have HRR : Aside0 (RS w5 w.heap.size v2 (hw :: pw a (ps.take (i + 1)))) := ⟨by rw [HX2.out, HY.out]; exact HR5.out⟩
        go_roundw
        case rel => exact ⟨i + 1, by omega, by go_num, HRR, HC5, HNB5, HB5⟩
        case measure => simp [intOf]; omega
    · obtain rfl : i = ps.length := by omega
      have d0 : decide ((ps.length : Int) < (ps.length : Int)) = false := decide_eq_false (by omega)
      have HE : Aside0 (ps.take ps.length = ps) := ⟨List.take_of_length_le (Nat.le_refl _)⟩
      go_wp2
      go_ret
      exact wp_mk _ rfl (by rw [HWD.out]; have h := HR.out; rw [HE.out] at h; exact h) HB.out
end Go.Proofs.YtagpkphehkfjgaaDoor.Sc
