/- Contracts of strconv.Itoa and of the reference's Long, Digits; of strings.Split, strings.Cut and strconv.Atoi, for every input (texts of bounded length). -/
import Derived.Test.YtagpkphehkfjgaaDoorShelf
import Derived.Test.YtagpkphehkfjgaaDoorPxD
import Derived.Lib.ItoaMem
import Derived.Lib.Walk
import Derived.Deep.RegionHeld3
set_option linter.unusedVariables false
set_option linter.unusedSimpArgs false
namespace Go.Proofs.YtagpkphehkfjgaaDoor.Px
open Go.RowKit Go.Sort Go.Lib Go.Proofs.YtagpkphehkfjgaaDoorW.PrintWords Go.Proofs.YtagpkphehkfjgaaDoorW.PrintLast Go.Proofs.YtagpkphehkfjgaaDoorW.PrintMore
/-- The table that the numerals read. -/
abbrev Tab (w : World) : Prop := Lib.TabIs Tryd.prog w "internal/strconv.uint64pow10" .u64 Lib.pow10Tab
theorem var_below {w w' : World} {n : String} {v : Array Value} (h : w.var? Tryd.prog n = some v) (hb : Below w.heap.size w w') : w'.var? Tryd.prog n = some v := by
  unfold World.var? at *
  cases hg : Tryd.prog.globalNamed n with
  | none => simp [hg] at h
  | some g =>
    simp only [hg, Option.bind_some] at h ⊢
    have hlt : g < w.heap.size := by
      rcases Nat.lt_or_ge g w.heap.size with h' | h'
      · exact h'
      · rw [Array.getElem?_eq_none h'] at h; simp at h
    rw [hb.block g hlt]
    exact h
theorem tab_below {w w' : World} (h : Tab w) (hb : Below w.heap.size w w') : Tab w' := by
  unfold Tab Lib.TabIs at *
  exact var_below h hb
/-- What the package-level variables hold, as far as these functions read them. -/
structure Gl (w : World) : Prop where
  tab : Tab w
  ml : ∃ m : Int, w.cell? ⟨0, 0, none⟩ = some (.int .i64 m)
  es : ∃ t p, w.var? Tryd.prog "strconv.ErrSyntax" = some #[.iface t p]
  er : ∃ t p, w.var? Tryd.prog "strconv.ErrRange" = some #[.iface t p]
theorem Gl.below {w w' : World} (h : Gl w) (hb : Below w.heap.size w w') : Gl w' :=
  ⟨tab_below h.tab hb, h.ml.imp fun _ hm => pw_cell_below hb hm, h.es.imp fun _ ⟨p, hp⟩ => ⟨p, var_below hp hb⟩, h.er.imp fun _ ⟨p, hp⟩ => ⟨p, var_below hp hb⟩⟩
theorem below_grow (w : World) (k : Nat) (os : Array Obj) : Below w.heap.size w (grow (w.drewN k) os) :=
  ⟨rfl, rfl, rfl, by simp [grow], fun j hj => by simp [grow, Array.getElem?_append, hj]⟩
theorem itoa_calls (n : Int) (h0 : -9223372036854775808 ≤ n) (h1 : n ≤ 9223372036854775807) (w : World) (ht : Tab w) :
    Calls Tryd.prog 41 #[.int .i64 n] w fun e w' => e = .returned (.string ⟨(Lib.itoa n).toArray⟩) ∧ Below w.heap.size w w' := by
  refine (Tryd.strconv_Itoa n h0 h1 w ht).mono ?_
  rintro e w' ⟨rfl, k, os, rfl⟩
  exact ⟨rfl, below_grow w k os⟩
theorem dd_len20 {u : Nat} (h : u < 18446744073709551616) : 1 ≤ (dd u).length ∧ (dd u).length ≤ 20 := ⟨dd_len1 u, dd_len10 19 (by omega)⟩
/-- A digit's byte. -/
def dgt (u : Nat) : UInt8 := UInt8.ofNat (48 + u)
theorem slice_digit {u : Nat} (h : u < 10) (W : World) : (Instr.slice 9 (.string ⟨#[48, 49, 50, 51, 52, 53, 54, 55, 56, 57]⟩) (some (.int .u64 (u : Int))) (some (.int .u64 ((u : Int) + 1))) none).run Tryd.prog W = .ok (.string ⟨#[dgt u]⟩) W :=
  match u, h with
  | 0, _ => by kernel_rfl
  | 1, _ => by kernel_rfl
  | 2, _ => by kernel_rfl
  | 3, _ => by kernel_rfl
  | 4, _ => by kernel_rfl
  | 5, _ => by kernel_rfl
  | 6, _ => by kernel_rfl
  | 7, _ => by kernel_rfl
  | 8, _ => by kernel_rfl
  | 9, _ => by kernel_rfl
  | n + 10, h => by omega
theorem cat_bytes (l m : List UInt8) : (⟨l.toArray⟩ : ByteArray) ++ (⟨m.toArray⟩ : ByteArray) = ⟨(l ++ m).toArray⟩ := by
  apply ByteArray.ext
  simp [ByteArray.data_append]
/-- Two texts put together. -/
theorem run_cat (l m : List UInt8) (h : l.length + m.length ≤ 9223372036854775807) (W : World) : (binOp .add 9 (.string ⟨l.toArray⟩) (.string ⟨m.toArray⟩)).run Tryd.prog W = .ok (.string ⟨(l ++ m).toArray⟩) W := by
  have h2 : ¬ 9223372036854775807 < (⟨l.toArray⟩ : ByteArray).size + (⟨m.toArray⟩ : ByteArray).size := by
    show ¬ 9223372036854775807 < l.toArray.size + m.toArray.size
    simp
    omega
  rw [← cat_bytes]
  go_simp
theorem dd_small' {u : Nat} (h : u < 10) : dd u = [dgt u] := dd_small h
theorem dd_big' {u q r : Nat} (h : ¬ u < 10) (hq : u / 10 = q) (hr : u % 10 = r) : dd u = dd q ++ [dgt r] := by subst hq hr; exact dd_big h
set_option maxHeartbeats 1600000 in
set_option maxRecDepth 100000 in
theorem long_small (u : Nat) (h : u < 10) (w : World) : Calls Tryd.prog 63 #[.int .u64 u] w fun e w' => e = .returned (.string ⟨(dd u).toArray⟩) ∧ Below w.heap.size w w' := by
  have h1 : (u : Int) < 10 := by omega
  have hw : IntKind.u64.wrap ((u : Int) + 1) = (u : Int) + 1 := by rw [IntKind.wrap_u64]; omega
  have hs := fun W => slice_digit h W
  have HE := Aside0.mk (dd_small' h)
  clear h
  go_enter Tryd.func63, Tryd.ntmps63
  go_wp2
  go_ret
  exact ⟨by rw [HE.out]; rfl, Below.refl _ _⟩
set_option maxHeartbeats 1600000 in
set_option maxRecDepth 100000 in
theorem long_calls (n : Nat) : ∀ (u : Nat), u < n → u < 18446744073709551616 → ∀ (w : World), Calls Tryd.prog 63 #[.int .u64 u] w fun e w' => e = .returned (.string ⟨(dd u).toArray⟩) ∧ Below w.heap.size w w' := by
  induction n with
  | zero => intro u h; omega
  | succ n ih =>
    intro u hn hu w
    by_cases h : u < 10
    · exact long_small u h w
    · have h1 : ¬ (u : Int) < 10 := by omega
      obtain ⟨q, hq⟩ : ∃ q, u / 10 = q := ⟨_, rfl⟩
      obtain ⟨r, hr⟩ : ∃ r, u % 10 = r := ⟨_, rfl⟩
      have e1 : IntKind.u64.wrap ((u : Int) / 10) = (q : Int) := by rw [IntKind.wrap_u64]; omega
      have e2 : (u : Int) % 10 = (r : Int) := by omega
      have e2' : Int.tmod (u : Int) 10 = (r : Int) := by rw [Int.tmod_eq_emod_of_nonneg (by omega)]; omega
      have hr10 : r < 10 := by omega
      have e3 : IntKind.u64.wrap ((r : Int) + 1) = (r : Int) + 1 := by rw [IntKind.wrap_u64]; omega
      have hs := fun W => slice_digit hr10 W
      have HI := Aside0.mk (ih q (by omega) (by omega))
      have HE := Aside0.mk (dd_big' h hq hr)
      have HL := Aside0.mk (dd_len20 (show q < 18446744073709551616 by omega))
      have hlen : ¬ 9223372036854775807 < (dd q).length + 1 := by have := HL.out.2; omega
      clear h hn hu ih hq hr hr10
      go_enter Tryd.func63, Tryd.ntmps63
      go_upto_region 4 with (fail)
      go_region_held3 (fun W => Aside0 (Below w.heap.size w W))
        ((first | (with_reducible assumption) | exact ⟨below_drew (Below.refl _ _)⟩ | exact ⟨Below.refl _ _⟩))
        (first | (go_at_call 63; refine (HI.out _).mono ?_; rintro e w' ⟨rfl, hb⟩; have hS' : Aside0 (Below w.heap.size w w') := ⟨below_step (by first | exact below_drew (Below.refl _ _) | exact Below.refl _ _) hb⟩))
      all_goals
        have HB := Aside0.mk hS'.out
        clear hS'
        go_wp2
        go_ret
        exact ⟨by rw [HE.out, ← cat_bytes]; rfl, HB.out⟩
theorem long_any (u : Nat) (hu : u < 18446744073709551616) (w : World) : Calls Tryd.prog 63 #[.int .u64 u] w fun e w' => e = .returned (.string ⟨(dd u).toArray⟩) ∧ Below w.heap.size w w' := long_calls (u + 1) u (by omega) hu w
abbrev it (n : Int) : List UInt8 := Lib.itoa n
theorem it_len {n : Int} (h0 : -9223372036854775808 ≤ n) (h1 : n ≤ 9223372036854775807) : 1 ≤ (it n).length ∧ (it n).length ≤ 21 := by
  unfold it Lib.itoa
  split
  · have := dd_len20 (show n.natAbs < 18446744073709551616 by omega)
    unfold dd at this
    simp only [List.length_cons]
    omega
  · have := dd_len20 (show n.toNat < 18446744073709551616 by omega)
    unfold dd at this
    omega
set_option maxHeartbeats 1600000 in
set_option maxRecDepth 100000 in
theorem digits_calls (n : Int) (h0 : -9223372036854775808 ≤ n) (h1 : n ≤ 9223372036854775807) (w : World) : Calls Tryd.prog 42 #[.int .i64 n] w fun e w' => e = .returned (.string ⟨(it n).toArray⟩) ∧ Below w.heap.size w w' := by
  by_cases hn : n < 0
  · obtain ⟨u, hu⟩ : ∃ u : Nat, n.natAbs = u := ⟨_, rfl⟩
    have HE : Aside0 (it n = 45 :: dd u) := ⟨by unfold it Lib.itoa; rw [if_pos hn, hu]⟩
    have HU : Aside0 (u < 18446744073709551616) := ⟨by omega⟩
    have hlen : ¬ 9223372036854775807 < 1 + (dd u).length := by have := dd_len20 HU.out; omega
    have e1 : wrap64 (n + 1) = n + 1 := by unfold wrap64; omega
    have HX : Aside0 (-(n + 1) + 1 = (u : Int)) := ⟨by omega⟩
    clear hu e1
    go_enter Tryd.func42, Tryd.ntmps42
    go_wp2_with fail
    rw [HX.out]
    refine (long_any u HU.out _).mono ?_
    rintro e w1 ⟨rfl, hb⟩
    have HB := Aside0.mk hb
    clear hb
    go_wp2
    go_ret
    exact ⟨by rw [HE.out, show (45 : UInt8) :: dd u = [45] ++ dd u from rfl, ← cat_bytes]; rfl, HB.out⟩
  · obtain ⟨u, rfl⟩ := Int.eq_ofNat_of_zero_le (show 0 ≤ n by omega)
    have HE : Aside0 (it (u : Int) = dd u) := ⟨by unfold it Lib.itoa; rw [if_neg hn]; simp⟩
    have HU : Aside0 (u < 18446744073709551616) := ⟨by omega⟩
    have e1 : IntKind.u64.wrap (u : Int) = (u : Int) := by rw [IntKind.wrap_u64]; omega
    clear h0
    go_enter Tryd.func42, Tryd.ntmps42
    go_wp2_with fail
    refine (long_any u HU.out _).mono ?_
    rintro e w1 ⟨rfl, hb⟩
    have HB := Aside0.mk hb
    clear hb
    go_wp2
    go_ret
    exact ⟨by rw [HE.out]; rfl, HB.out⟩
/-- A text. -/
abbrev Sv (l : List UInt8) : Value := .string ⟨l.toArray⟩
theorem sv_data (b : ByteArray) : Value.string b = Sv b.data.toList := by
  show Value.string b = Value.string ⟨b.data.toList.toArray⟩
  rw [Array.toArray_toList]
theorem bsize (l : List UInt8) : (⟨l.toArray⟩ : ByteArray).size = l.length := by simp [ByteArray.size]
theorem blist (l : List UInt8) : (⟨l.toArray⟩ : ByteArray).data.toList = l := by simp
theorem one_size (c : UInt8) : (⟨#[c]⟩ : ByteArray).size = 1 := rfl
theorem one_list (c : UInt8) : (⟨#[c]⟩ : ByteArray).data.toList = [c] := rfl
theorem split_eq (c : UInt8) (l : List UInt8) : (Lib.splitB ⟨#[c]⟩ 0 (Lib.countB ⟨l.toArray⟩ ⟨#[c]⟩) ⟨l.toArray⟩).map Value.string = (pieces c l).map Sv := by
  have h := Lib.splitB_data ⟨#[c]⟩ 0 (Lib.countB ⟨l.toArray⟩ ⟨#[c]⟩) ⟨l.toArray⟩
  have hc : Lib.count l [c] = Lib.countB ⟨l.toArray⟩ ⟨#[c]⟩ := by unfold Lib.countB; rw [blist]
  rw [one_list, blist l, split_pieces c _ l hc] at h
  rw [← h, List.map_map]
  apply List.map_congr_left
  intro b _
  exact sv_data b
theorem split_count (c : UInt8) (l : List UInt8) : Lib.countB ⟨l.toArray⟩ ⟨#[c]⟩ + 1 = (pieces c l).length := by
  have h := congrArg List.length (split_eq c l)
  rw [List.length_map, List.length_map, Lib.splitB_all ⟨#[c]⟩ (by rw [one_size]; omega) 0 _ _ rfl] at h
  exact h
/-- strings.Split at one byte. -/
theorem split_calls (l : List UInt8) (c : UInt8) (w : World) (hl : l.length ≤ 100000) (hg : Gl w) :
    Calls Tryd.prog 36 #[Sv l, .string ⟨#[c]⟩] w fun e w' => e = .returned (.slice (some ⟨w.heap.size, 0, none⟩) (pieces c l).length (pieces c l).length) ∧ w'.heap[w.heap.size]? = some (.cells ((pieces c l).map Sv).toArray 9 (0, 0)) ∧ Below w.heap.size w w' := by
  obtain ⟨m, hm⟩ := hg.ml
  refine (Tryd.strings_Split ⟨l.toArray⟩ ⟨#[c]⟩ m w (by rw [bsize]; omega) hm (by rw [one_size]; omega)).mono ?_
  rintro e w' ⟨rfl, rfl⟩
  rw [split_count, split_eq]
  exact ⟨rfl, blk_new w _, below_alloc (Below.refl _ _) _⟩
/-- strings.Cut at one byte. -/
theorem scut_calls (l : List UInt8) (c : UInt8) (w : World) (hl : l.length ≤ 100000) (hg : Gl w) :
    Calls Tryd.prog 34 #[Sv l, .string ⟨#[c]⟩] w fun e w' => (e = .returned (.tuple #[Sv (Lib.cut l [c]).1, Sv (Lib.cut l [c]).2.1, .bool (Lib.cut l [c]).2.2])) ∧ Below w.heap.size w w' := by
  obtain ⟨m, hm⟩ := hg.ml
  refine (Tryd.strings_Cut ⟨l.toArray⟩ ⟨#[c]⟩ m w (by rw [bsize]; omega) hm).mono ?_
  rintro e w' ⟨rfl, n, rfl⟩
  rw [blist, one_list]
  exact ⟨rfl, pw_below_drewN (Below.refl _ _) _⟩
theorem cut_none {l : List UInt8} {c : UInt8} (h : c ∉ l) : Lib.cut l [c] = (l, [], false) := by
  unfold Lib.cut
  rcases idx_cases c l with ⟨h1, _⟩ | ⟨a, r, e, _, _⟩
  · rw [h1, if_neg (by omega)]
  · exact absurd (by rw [e]; simp) h
theorem cut_some {l r : List UInt8} {c : UInt8} (h : c ∉ l) : Lib.cut (l ++ c :: r) [c] = (l, r, true) := by
  unfold Lib.cut
  rcases idx_cases c (l ++ c :: r) with ⟨_, h2⟩ | ⟨a, b, e, hn, hi⟩
  · exact absurd (by simp) h2
  · have hp := congrArg (pieces c) e
    rw [pieces_some h, pieces_some hn] at hp
    injection hp with e1 _
    subst e1
    rw [hi, if_pos (by omega)]
    simp
/-- strconv.Atoi: the number, or an error that is not nil. -/
theorem atoi_calls (l : List UInt8) (w : World) (hl : l.length ≤ 100000) (hg : Gl w) :
    Calls Tryd.prog 60 #[Sv l] w fun e w' => (∃ v er, e = .returned (.tuple #[.int .i64 v, er]) ∧ ((er = .nilIface ∧ Lib.atoiAll l = .ok v) ∨ (∃ N, er = .iface 135 (.pointer (some ⟨N, 0, none⟩)) ∧ ∀ u, Lib.atoiAll l ≠ .ok u))) ∧ Below w.heap.size w w' := by
  by_cases h : ∃ v, Lib.atoiAll l = .ok v
  · obtain ⟨v, hv⟩ := h
    refine (Tryd.strconv_Atoi_ok ⟨l.toArray⟩ (by rw [bsize]; omega) v (by rw [blist]; exact hv) w).mono ?_
    rintro e w' ⟨rfl, hw⟩
    refine ⟨⟨v, .nilIface, rfl, Or.inl ⟨rfl, hv⟩⟩, ?_⟩
    rcases hw with rfl | ⟨t, rfl⟩
    · exact Below.refl _ _
    · exact Lib.bytesWorld_below _ _ _
  · obtain ⟨t1, p1, h1⟩ := hg.es
    obtain ⟨t2, p2, h2⟩ := hg.er
    have h' : ∀ v, Lib.atoiAll l ≠ .ok v := fun v hv => h ⟨v, hv⟩
    refine (Tryd.strconv_Atoi_bad ⟨l.toArray⟩ (by rw [bsize]; omega) (by rw [blist]; exact h') t1 t2 p1 p2 w h1 h2).mono ?_
    rintro e w' ⟨v, N, _, rfl, hb⟩
    exact ⟨⟨v, _, rfl, Or.inr ⟨N, rfl, h'⟩⟩, hb⟩
end Go.Proofs.YtagpkphehkfjgaaDoor.Px
