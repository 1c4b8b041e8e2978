/- Events: their kind, equality, rows of one's own; slices.Grow of no events, slices.Concat of two rows. Contract of slices.Concat of two rows of events. Contracts of the chronicle's New and word: for every input. Contract of (*Chron).Tell: for every input. -/
import Derived.Test.YthimnnnfgangbaaDoorTsG
import Derived.Test.YthimnnnfgangbaaDoorWEqStruct
import Derived.Test.YthimnnnfgangbaaDoorWZeros
import Derived.Lib.ConvBytes
import Derived.Deep.RegionLaw
import Derived.Deep.AppendLies
set_option linter.unusedVariables false
set_option linter.unusedSimpArgs false
namespace Go.Proofs.YthimnnnfgangbaaDoor.Cn
open Go.RowKit Go.Proofs.YthimnnnfgangbaaDoorW.PrintWords Go.Proofs.YthimnnnfgangbaaDoorW.PrintLast Go.Proofs.YthimnnnfgangbaaDoorW.PrintMore Go.Proofs.YthimnnnfgangbaaDoor.Qr
/-- An event. -/
structure E where
  n : I64
  a : I64
  d : I64
  s : ByteArray
def zE : E := ⟨zI, zI, zI, ⟨#[]⟩⟩
instance : Inhabited E := ⟨zE⟩
def kE : Kd E := Kd.iso (Kd.pair kI (Kd.pair kI (Kd.pair kI Kd.string))) (fun x : E => (x.n, x.a, x.d, x.s))
abbrev cE (x : E) : List Value := [.int .i64 x.n.1, .int .i64 x.a.1, .int .i64 x.d.1, .string x.s]
theorem kE_open {w : World} {x : E} {cs : List Value} (h : kE.K w x cs) : cs = cE x := by
  obtain ⟨_, _, rfl, rfl, ⟨_, _, rfl, rfl, ⟨_, _, rfl, rfl, rfl⟩⟩⟩ := h
  exact rfl
theorem kE_mk (w : World) (x : E) : kE.K w x (cE x) := ⟨[.int .i64 x.n.1], [.int .i64 x.a.1, .int .i64 x.d.1, .string x.s], rfl, rfl, ⟨[.int .i64 x.a.1], [.int .i64 x.d.1, .string x.s], rfl, rfl, ⟨[.int .i64 x.d.1], [.string x.s], rfl, rfl, rfl⟩⟩⟩
theorem kE_openM {w : World} {base : Nat} {ok : Nat → Prop} {x : E} {cs : List Value} (h : kE.M w base ok x cs) : cs = cE x := by
  obtain ⟨_, _, rfl, rfl, ⟨_, _, rfl, rfl, ⟨_, _, rfl, rfl, rfl⟩⟩⟩ := h
  exact rfl
theorem kE_mkM (w : World) (base : Nat) (ok : Nat → Prop) (x : E) : kE.M w base ok x (cE x) := ⟨[.int .i64 x.n.1], [.int .i64 x.a.1, .int .i64 x.d.1, .string x.s], rfl, rfl, ⟨[.int .i64 x.a.1], [.int .i64 x.d.1, .string x.s], rfl, rfl, ⟨[.int .i64 x.d.1], [.string x.s], rfl, rfl, rfl⟩⟩⟩
theorem atE {w : World} {A : Option Addr} {xs : List E} (h : Kd.C kE w A xs.length xs) {k : Nat} (hk : k < xs.length) : ∃ ad x, A = some ad ∧ xs[k]? = some x ∧ w.cell? (ad.add (k * 4)) = some (.int .i64 x.n.1) ∧ w.cell? ⟨(ad.add (k * 4)).block, (ad.add (k * 4)).off + 1, none⟩ = some (.int .i64 x.a.1) ∧ w.cell? ⟨(ad.add (k * 4)).block, (ad.add (k * 4)).off + 2, none⟩ = some (.int .i64 x.d.1) ∧ w.cell? ⟨(ad.add (k * 4)).block, (ad.add (k * 4)).off + 3, none⟩ = some (.string x.s) := by
  obtain ⟨ad, x, c, e, hx, hK, hc0⟩ := el_at zE h hk
  have hc : ∀ j u, c[j]? = some u → w.cell? (ad.add (k * 4 + j)) = some u := hc0
  obtain rfl := kE_open hK
  exact ⟨ad, x, e, hx, hc 0 _ rfl, by rw [← add_field _ _ 1 (by omega)]; exact hc 1 _ rfl, by rw [← add_field _ _ 2 (by omega)]; exact hc 2 _ rfl, by rw [← add_field _ _ 3 (by omega)]; exact hc 3 _ rfl⟩
/-! '==' of events. -/
def eqb (n a d : Int) (s : ByteArray) (n2 a2 d2 : Int) (s2 : ByteArray) : Bool := n == n2 && (a == a2 && (d == d2 && (s.toList == s2.toList)))
theorem eqA93 (d : Nat) (w : World) (x0 y0 x1 y1 x2 y2 : Int) (x3 y3 : ByteArray) :
    (Op.equalIn (d + 2) 93 (.agg #[.int .i64 x0, .int .i64 x1, .int .i64 x2, .string x3]) (.agg #[.int .i64 y0, .int .i64 y1, .int .i64 y2, .string y3])).run Tryd.prog w = .ok (eqb x0 x1 x2 x3 y0 y1 y2 y3) w := by
  unfold eqb
  refine eqA_of Tryd.underlying93 (by kernel_rfl) ?_
  refine eqf_cons (by rfl) (by go_simp; rfl) (by go_simp; rfl) (by go_simp) ?_
  refine eqf_cons (by rfl) (by go_simp; rfl) (by go_simp; rfl) (by go_simp) ?_
  refine eqf_cons (by rfl) (by go_simp; rfl) (by go_simp; rfl) (by go_simp) ?_
  exact eqf_last (by rfl) (by go_simp; rfl) (by go_simp; rfl) (by go_simp)
theorem E_ext {x y : E} : x = y ↔ eqb x.n.1 x.a.1 x.d.1 x.s y.n.1 y.a.1 y.d.1 y.s = true := by
  obtain ⟨⟨n, _⟩, ⟨a, _⟩, ⟨d, _⟩, s⟩ := x
  obtain ⟨⟨n2, _⟩, ⟨a2, _⟩, ⟨d2, _⟩, s2⟩ := y
  unfold eqb
  rw [ByteArray.toList_eq, ByteArray.toList_eq]
  obtain ⟨⟨l⟩⟩ := s
  obtain ⟨⟨l2⟩⟩ := s2
  simp
theorem info93 : (Tryd.prog.info? 93).map (fun i => (i.zero, i.size, i.bytes)) = some (some (.agg #[(.int .i64 0), (.int .i64 0), (.int .i64 0), (.string ⟨#[]⟩)]), 4, 40) := by kernel_rfl
abbrev zV : Value := .agg #[(.int .i64 0), (.int .i64 0), (.int .i64 0), (.string ⟨#[]⟩)]
/-- A row of events of one's own. -/
abbrev RE (w : World) (B : Nat) (v : Value) (xs : List E) : Prop := Kd.R kE 93 w B (fun _ => True) v xs
theorem KM {W : World} {base : Nat} {okp : Nat → Prop} (x : E) (cs : List Value) (h : kE.K W x cs) : kE.M W base okp x cs := by rw [kE_open h]; exact kE_mkM _ _ _ _
set_option maxHeartbeats 800000 in
set_option maxRecDepth 100000 in
theorem grow_calls (n : Nat) (w : World) (hn : n ≤ 2000) :
    Calls Tryd.prog 84 #[.slice none 0 0, .int .i64 n] w fun e w' => ∃ v, e = .returned v ∧ RE w' w.heap.size v [] ∧ Below w.heap.size w w' := by
  have HN0 := Aside0.mk (Kd.R_nil kE 93 w w.heap.size (fun _ => True))
  have w0 : wrap64 (n : Int) = (n : Int) := by unfold wrap64; omega
  rcases Nat.eq_zero_or_pos n with h0 | h0
  · subst h0
    clear w0
    go_enter Tryd.func84, Tryd.ntmps84
    go_wp2
    go_ret
    exact ⟨_, rfl, HN0.out, Below.refl _ _⟩
  · have h1 : (0 : Int) < (n : Int) := by omega
    have HN := Aside0.mk hn
    have H1 := Aside0.mk h0
    clear hn h0
    go_enter Tryd.func84, Tryd.ntmps84
    go_upto_region 5 with (fail)
    rw [w0]
    go_wp2_with (first | ((with_reducible refine gate_dst (N := 22) rfl ?_); refine Kd.R_append_zeros kE (w0 := w) w.heap.size rfl (.tmp 20) (.tmp 21) 49 3 93 zV 40 rfl Tryd.underlying49 Tryd.underlying3 info93 rfl (by decide) (by omega) (.slice none 0 0) [] zE (n : Int) (fun _ => True) rfl rfl (kE_mkM _ _ _ zE) (fun _ _ => trivial) HN0.out (by omega) (Below.refl _ _) (Nat.le_refl _) (by have := HN.out; simp; omega) ?_; intro v1 w1 hN hb hg hat; have HN1 := Aside0.mk hN; have HB1 := Aside0.mk hb; obtain ⟨A, c, hv, hc, _⟩ := Kd.R_reads hN; subst hv; have hlc : n ≤ c := (by simpa using hc); clear hN hb hg hat hc))
    go_ret
    refine ⟨_, rfl, ?_, HB1.out⟩
    have := Kd.R_take (m := 0) HN1.out (Nat.zero_le _)
    rw [List.take_zero] at this
    exact this
end Go.Proofs.YthimnnnfgangbaaDoor.Cn

namespace Go.Proofs.YthimnnnfgangbaaDoor.Cn
open Go.RowKit Go.Proofs.YthimnnnfgangbaaDoorW.PrintWords Go.Proofs.YthimnnnfgangbaaDoorW.PrintLast Go.Proofs.YthimnnnfgangbaaDoorW.PrintMore Go.Proofs.YthimnnnfgangbaaDoor.Qr
theorem wrN (n : Nat) (h : n ≤ 2000) : wrap64 (n : Int) = (n : Int) := by unfold wrap64; omega
set_option maxHeartbeats 1600000 in
set_option maxRecDepth 100000 in
theorem concat_calls (gb : Nat) (A1 A2 : Option Addr) (c1 c2 : Nat) (xs ys : List E) (w : World) (hb : w.heap[gb]? = some (.cells #[.slice A1 xs.length c1, .slice A2 ys.length c2] 49 (0, 0)))
    (h1 : Kd.C kE w A1 xs.length xs) (h2 : Kd.C kE w A2 ys.length ys) (hn : xs.length + ys.length ≤ 2000) :
    Calls Tryd.prog 70 #[.slice (some ⟨gb, 0, none⟩) 2 2] w fun e w' => ∃ v, e = .returned v ∧ RE w' w.heap.size v (xs ++ ys) ∧ Below w.heap.size w w' := by
  have HB := Aside0.mk hb
  have HF1 := Aside0.mk h1
  have HF2 := Aside0.mk h2
  have HN := Aside0.mk hn
  have q0 := blk_cell hb 0
  have q1 := blk_cell hb 1
  simp at q0 q1
  obtain ⟨n1, hn1⟩ : ∃ n1, xs.length = n1 := ⟨_, rfl⟩
  obtain ⟨n2, hn2⟩ : ∃ n2, ys.length = n2 := ⟨_, rfl⟩
  rw [hn1] at q0
  rw [hn2] at q1
  have e1 : wrap64 (n1 : Int) = (n1 : Int) := by unfold wrap64; omega
  have hs : (n1 : Int) + (n2 : Int) = ((n1 + n2 : Nat) : Int) := by omega
  have hb2 : n1 + n2 ≤ 2000 := by omega
  have W2 : Aside0 (wrap64 (wrap64 (n1 : Int) + (n2 : Int)) = ((n1 + n2 : Nat) : Int)) := ⟨by rw [e1, hs]; exact wrN _ hb2⟩
  clear hb2
  have p1 : ¬ (n1 : Int) < 0 := by omega
  have N1 := Aside0.mk hn1
  have N2 := Aside0.mk hn2
  clear hb h1 h2 hn hn1 hn2 hs
  go_enter Tryd.func70, Tryd.ntmps70
  go_wp2_with fail
  refine wp_loop_rounds 3 ?_
  rw [rounds_succ]
  go_wp2_with fail
  have p3 : ¬ wrap64 (wrap64 (n1 : Int) + (n2 : Int)) < 0 := by rw [W2.out]; omega
  clear e1
  rw [rounds_succ]
  go_wp2_with fail
  rw [rounds_succ]
  go_wp2_with fail
  rw [W2.out]
  clear p3
  refine (grow_calls (n1 + n2) w (by have := HN.out; have := N1.out; have := N2.out; omega)).mono ?_
  rintro e w1 ⟨v6, rfl, ho, hb⟩
  have HO6 := Aside0.mk ho
  have HB1 := Aside0.mk hb
  have q0 := blk_cell (blk_below HB.out hb) 0
  have q1 := blk_cell (blk_below HB.out hb) 1
  simp at q0 q1
  rw [N1.out] at q0
  rw [N2.out] at q1
  clear ho hb
  go_wp2_with fail
  refine wp_loop_rounds 3 ?_
  rw [rounds_succ]
  go_wp2_with (first | ((with_reducible refine gate_dst (N := 33) rfl ?_); refine Kd.R_append_rows kE (w0 := w) w.heap.size rfl (.tmp 31) (.tmp 32) 49 93 zV 40 rfl Tryd.underlying49 info93 rfl (by decide) (by omega) v6 [] xs A1 n1 c1 (fun _ => True) (fun _ => False) rfl rfl HO6.out (by have := Kd.C_below HF1.out HB1.out; rw [N1.out] at this; exact this) KM (fun _ h => h.elim) (fun _ _ => trivial) HB1.out HB1.out.size (by have := HN.out; have := N1.out; simp; omega) ?_; intro v7 w2 hN2 hb2 hg2 hat2; rw [List.nil_append] at hN2; have HO7 := Aside0.mk hN2; have HB2 := Aside0.mk hb2; have Q1 := Aside0.mk (blk_grown (blk_below HB.out HB1.out) hg2 (fun e => by have := Kd.R_base HO6.out _ e.symm; have := blk_lt HB.out; omega)); clear hN2 hb2 hg2 hat2))
  have q1' := blk_cell Q1.out 1
  have q0' := blk_cell Q1.out 0
  simp at q0' q1'
  rw [N1.out] at q0'
  rw [N2.out] at q1'
  rw [rounds_succ]
  go_wp2_with (first | ((with_reducible refine gate_dst (N := 33) rfl ?_); refine Kd.R_append_rows kE (w0 := w) w.heap.size rfl (.tmp 31) (.tmp 32) 49 93 zV 40 rfl Tryd.underlying49 info93 rfl (by decide) (by omega) v7 xs ys A2 n2 c2 (fun _ => True) (fun _ => False) rfl rfl HO7.out (by have := Kd.C_below HF2.out HB2.out; rw [N2.out] at this; exact this) KM (fun _ h => h.elim) (fun _ _ => trivial) HB2.out HB2.out.size (by have := HN.out; have := N2.out; omega) ?_; intro v8 w3 hN3 hb3 hg3 hat3; have HO8 := Aside0.mk hN3; have HB3 := Aside0.mk hb3; clear hN3 hb3 hg3 hat3))
  rw [rounds_succ]
  go_wp2
  go_ret
  exact ⟨_, rfl, HO8.out, HB3.out⟩
end Go.Proofs.YthimnnnfgangbaaDoor.Cn

namespace Go.Proofs.YthimnnnfgangbaaDoor.Cn
open Go.RowKit Go.Proofs.YthimnnnfgangbaaDoorW.PrintWords Go.Proofs.YthimnnnfgangbaaDoorW.PrintLast Go.Proofs.YthimnnnfgangbaaDoorW.PrintMore Go.Proofs.YthimnnnfgangbaaDoor.Qr
/-- A chronicle in memory. -/
structure CH (B : Nat) (w : World) (g : Nat) (v : Value) (ring : List E) (room first many last : Int) : Prop where
  blk : w.heap[g]? = some (.cells #[v, .int .i64 room, .int .i64 first, .int .i64 many, .int .i64 last] 65 (0, 0))
  row : RE w B v ring
  hB : B ≤ g
theorem CH.below {B : Nat} {w w1 : World} {g : Nat} {v : Value} {ring : List E} {room first many last : Int} (h : CH B w g v ring room first many last) (hb : Below w.heap.size w w1) : CH B w1 g v ring room first many last := ⟨blk_below h.blk hb, Kd.R_below h.row hb, h.hB⟩
theorem CH.c0 {B : Nat} {w : World} {g : Nat} {v : Value} {ring : List E} {room first many last : Int} (h : CH B w g v ring room first many last) : w.cell? ⟨g, 0, none⟩ = some v := by rw [blk_cell h.blk]; rfl
theorem CH.c1 {B : Nat} {w : World} {g : Nat} {v : Value} {ring : List E} {room first many last : Int} (h : CH B w g v ring room first many last) : w.cell? ⟨g, 1, none⟩ = some (.int .i64 room) := by rw [blk_cell h.blk]; rfl
theorem CH.c2 {B : Nat} {w : World} {g : Nat} {v : Value} {ring : List E} {room first many last : Int} (h : CH B w g v ring room first many last) : w.cell? ⟨g, 2, none⟩ = some (.int .i64 first) := by rw [blk_cell h.blk]; rfl
theorem CH.c3 {B : Nat} {w : World} {g : Nat} {v : Value} {ring : List E} {room first many last : Int} (h : CH B w g v ring room first many last) : w.cell? ⟨g, 3, none⟩ = some (.int .i64 many) := by rw [blk_cell h.blk]; rfl
theorem CH.c4 {B : Nat} {w : World} {g : Nat} {v : Value} {ring : List E} {room first many last : Int} (h : CH B w g v ring room first many last) : w.cell? ⟨g, 4, none⟩ = some (.int .i64 last) := by rw [blk_cell h.blk]; rfl
theorem new_no (r : Int) (w : World) (h : r < 1 ∨ 1000 < r) : Calls Tryd.prog 18 #[.int .i64 r] w fun e w' => e = .returned (.tuple #[.pointer none, .int .i64 1]) ∧ w = w' := by
  by_cases h1 : r < 1
  · clear h
    go_enter Tryd.func18, Tryd.ntmps18
    go_wp2
    go_ret2
    exact ⟨rfl, rfl⟩
  · have h2 : 1000 < r := by omega
    clear h
    go_enter Tryd.func18, Tryd.ntmps18
    go_wp2
    go_ret2
    exact ⟨rfl, rfl⟩
theorem new_yes (r : Int) (w : World) (h1 : 1 ≤ r) (h2 : r ≤ 1000) : Calls Tryd.prog 18 #[.int .i64 r] w fun e w' => e = .returned (.tuple #[.pointer (some ⟨w.heap.size, 0, none⟩), .int .i64 0]) ∧ CH w.heap.size w' w.heap.size (.slice none 0 0) [] r 0 0 0 ∧ Below w.heap.size w w' := by
  have h3 : ¬ r < 1 := by omega
  have h4 : ¬ 1000 < r := by omega
  go_enter Tryd.func18, Tryd.ntmps18
  go_wp2
  go_ret2
  exact ⟨rfl, ⟨blk_new w _, Kd.R_nil _ _ _ _ _, Nat.le_refl _⟩, below_alloc (Below.refl _ _) _⟩
/-! word. -/
def chB (c : UInt8) : Bool := (97 ≤ c.toNat && c.toNat ≤ 122) || (48 ≤ c.toNat && c.toNat ≤ 57)
def wordB (s : ByteArray) : Bool := s.data.toList.all chB && !s.data.toList.isEmpty && decide (s.size ≤ 40)
theorem bytes_below (w : World) (s : ByteArray) : Below w.heap.size w (Lib.bytesWorld w 5 s) := ⟨rfl, rfl, rfl, by rw [Lib.bytesWorld_size]; omega, fun k hk => Lib.bytesWorld_at_old w 5 s k hk⟩
theorem wordB_no {s : ByteArray} {k : Nat} {c : UInt8} (hk : s.data.toList[k]? = some c) (h : chB c = false) : wordB s = false := by
  unfold wordB
  have : s.data.toList.all chB = false := by
    rw [List.all_eq_false]
    exact ⟨c, List.mem_of_getElem? hk, by simp [h]⟩
  rw [this]
  rfl
theorem wordB_end {s : ByteArray} (h : ∀ c ∈ s.data.toList, chB c = true) : wordB s = (!s.data.toList.isEmpty && decide (s.size ≤ 40)) := by
  unfold wordB
  have : s.data.toList.all chB = true := by rw [List.all_eq_true]; exact h
  rw [this]
  simp
set_option maxHeartbeats 3200000 in
set_option maxRecDepth 100000 in
theorem word_calls (s : ByteArray) (w : World) (hs : s.size ≤ 100) : Calls Tryd.prog 44 #[.string s] w fun e w' => e = .returned (.bool (wordB s)) ∧ Below w.heap.size w w' := by
  have hconv := Lib.run_convert_string_bytes (P := Tryd.prog) w 9 76 5 s Tryd.underlying9 Tryd.underlying76 Tryd.underlying5
  have HC : Aside0 (∀ j, j < s.size → (Lib.bytesWorld w 5 s).cell? ⟨w.heap.size, j, none⟩ = some (.int .u8 (s.data.toList.getD j 0).toNat)) := ⟨fun j hj => Lib.bytesWorld_cell w 5 s j hj⟩
  have HB := Aside0.mk (bytes_below w s)
  obtain ⟨W1, hW1⟩ : ∃ W1, Lib.bytesWorld w 5 s = W1 := ⟨_, rfl⟩
  obtain ⟨g, hg⟩ : ∃ g, w.heap.size = g := ⟨_, rfl⟩
  obtain ⟨cp, hcp⟩ : ∃ cp, grownCap w s.size 0 5 = cp := ⟨_, rfl⟩
  rw [hW1] at hconv HC HB
  rw [hcp] at hconv
  have HG := Aside0.mk hg
  rw [hg] at hconv HC HB
  have HS := Aside0.mk hs
  have hs5 : (s.size : Int) ≤ 100 := by omega
  clear hW1 hg hcp hs
  go_enter Tryd.func44, Tryd.ntmps44
  go_wp2_with fail
  clear hconv
  go_loop [8] (fun v8 => ∃ k : Nat, k ≤ s.size ∧ v8 = .int .i64 k ∧ Aside0 (∀ c ∈ s.data.toList.take k, chB c = true)) (fun v8 => s.size - (intOf v8).toNat)
  case atStart => exact ⟨0, Nat.zero_le _, rfl, ⟨by simp⟩⟩
  case round =>
    obtain ⟨k, hk, rfl, HA⟩ := hrel
    by_cases hlt : k < s.size
    · have hk2 : k < s.data.toList.length := by simpa using hlt
      obtain ⟨c, hc⟩ : ∃ c, s.data.toList[k]? = some c := ⟨_, List.getElem?_eq_getElem hk2⟩
      have hcell := HC.out k hlt
      rw [List.getD_eq_getElem?_getD, hc] at hcell
      simp only [Option.getD_some] at hcell
      have HCC := Aside0.mk hc
      have HLT := Aside0.mk hlt
      have hcu : (c.toNat : Int) ≤ 255 := by have := c.toNat_lt; omega
      have HSTEP : Aside0 (chB c = true → ∀ d ∈ s.data.toList.take (k + 1), chB d = true) := ⟨fun h d hd => by
        rw [List.take_add_one, hc] at hd
        rcases List.mem_append.1 hd with hd | hd
        · exact HA.out d hd
        · simp at hd
          rw [hd]
          exact h⟩
      obtain ⟨b, hb⟩ : ∃ b, c.toNat = b := ⟨_, rfl⟩
      have HBB := Aside0.mk hb
      rw [hb] at hcell hcu
      clear hc hb hk2 HA
      by_cases x1 : (97 : Int) ≤ b
      · by_cases x2 : (b : Int) ≤ 122
        · have HOK : Aside0 (chB c = true) := ⟨by unfold chB; rw [HBB.out]; simp; omega⟩
          have x3 : ¬ (b : Int) < 97 := by omega
          have x4 : ¬ (122 : Int) < b := by omega
          go_wp2
          go_round
          case rel => exact ⟨k + 1, HLT.out, by go_num, ⟨HSTEP.out HOK.out⟩⟩
          case measure => have := HLT.out; simp [intOf]; omega
        · have HNO : Aside0 (wordB s = false) := ⟨wordB_no HCC.out (by unfold chB; rw [HBB.out]; simp; omega)⟩
          have x3 : ¬ (b : Int) < 97 := by omega
          have x4 : (122 : Int) < b := by omega
          have x5 : ¬ (b : Int) < 48 := by omega
          have x6 : (57 : Int) < b := by omega
          go_wp2
          go_ret
          exact ⟨by rw [HNO.out]; rfl, by rw [HG.out]; exact HB.out⟩
      · have x3 : (b : Int) < 97 := by omega
        by_cases x2 : (48 : Int) ≤ b
        · have x5 : ¬ (b : Int) < 48 := by omega
          by_cases x4 : (b : Int) ≤ 57
          · have HOK : Aside0 (chB c = true) := ⟨by unfold chB; rw [HBB.out]; simp; omega⟩
            have x6 : ¬ (57 : Int) < b := by omega
            go_wp2
            go_round
            case rel => exact ⟨k + 1, HLT.out, by go_num, ⟨HSTEP.out HOK.out⟩⟩
            case measure => have := HLT.out; simp [intOf]; omega
          · have HNO : Aside0 (wordB s = false) := ⟨wordB_no HCC.out (by unfold chB; rw [HBB.out]; simp; omega)⟩
            have x6 : (57 : Int) < b := by omega
            go_wp2
            go_ret
            exact ⟨by rw [HNO.out]; rfl, by rw [HG.out]; exact HB.out⟩
        · have HNO : Aside0 (wordB s = false) := ⟨wordB_no HCC.out (by unfold chB; rw [HBB.out]; simp; omega)⟩
          have x5 : (b : Int) < 48 := by omega
          go_wp2
          go_ret
          exact ⟨by rw [HNO.out]; rfl, by rw [HG.out]; exact HB.out⟩
    · obtain rfl : k = s.size := by omega
      have HE : Aside0 (wordB s = (!s.data.toList.isEmpty && decide (s.size ≤ 40))) := ⟨wordB_end (by have := HA.out; rw [List.take_of_length_le (by simp)] at this; exact this)⟩
      clear HA
      have HE3 : Aside0 (wordB s = (!s.toList.isEmpty && decide ((s.size : Int) ≤ 40))) := ⟨by
        rw [HE.out, ByteArray.toList_eq]
        congr 1
        by_cases h : s.size ≤ 40
        · rw [decide_eq_true h, decide_eq_true (by omega)]
        · rw [decide_eq_false h, decide_eq_false (by omega)]⟩
      by_cases h0 : s.toList = []
      · have HE2 : Aside0 (wordB s = false) := ⟨by rw [HE3.out, h0]; rfl⟩
        clear HE
        go_wp2
        go_ret
        exact ⟨by rw [HE2.out]; rfl, by rw [HG.out]; exact HB.out⟩
      · clear HE
        go_wp2
        go_ret
        exact ⟨by rw [HE3.out]; rfl, by rw [HG.out]; exact HB.out⟩
end Go.Proofs.YthimnnnfgangbaaDoor.Cn

namespace Go.Proofs.YthimnnnfgangbaaDoor.Cn
open Go.RowKit Go.Proofs.YthimnnnfgangbaaDoorW.PrintWords Go.Proofs.YthimnnnfgangbaaDoorW.PrintLast Go.Proofs.YthimnnnfgangbaaDoorW.PrintMore Go.Proofs.YthimnnnfgangbaaDoor.Qr
theorem info93x : ∃ i, Tryd.prog.info? 93 = some i ∧ i.zero = some zV ∧ i.size = 4 ∧ i.bytes = 40 := by
  obtain ⟨i, h1, h2⟩ := Option.map_eq_some_iff.1 info93
  simp only [Prod.mk.injEq] at h2
  exact ⟨i, h1, h2⟩
theorem kE_sz : kE.sz = 4 := rfl
/-- append(list, event), a step of a region that draws. -/
theorem step_app93 {ops : Array Oper} {o : Oper} {a : Act} {K : Act → World → Prop} {Q : Exit → Act → World → Prop} {X : Prop} {W : World} (B : Nat) (v : Value) (xs : List E) (p : E) (bp : Nat) (hgd : o.guard = none) (s x : Operand)
    (ho : o.op = .call { callee := .builtin .append, args := #[s, x], argTypes := #[49, 49] }) (hs : a.eval s = v) (hx : a.eval x = .slice (some ⟨bp, 0, none⟩) 1 1)
    (hR : RE W B v xs) (hnew : W.heap[bp]? = some (.cells #[.int .i64 p.n.1, .int .i64 p.a.1, .int .i64 p.d.1, .string p.s] 93 (0, 0))) (hBs : B ≤ W.heap.size) (hl : xs.length ≤ 1000000)
    (h : ∀ g cap w', RE w' B (.slice (some ⟨g, 0, none⟩) (xs.length + 1) cap) (xs ++ [p]) → B ≤ g → W.grownBy w' v.ownBlock → (v.ownBlock = some g ∨ g = W.heap.size) → K (a.put o.dst (.slice (some ⟨g, 0, none⟩) (xs.length + 1) cap)) w') :
    if Region.wanted o (yielded ops a.tmps) = true then Oper.wp Tryd.prog o a W K Q else X := by
  obtain ⟨i, hi, hz, hsz, hby⟩ := info93x
  obtain ⟨h0, inner, hown, hr⟩ := hR
  refine step_append_lies _ hgd s x 49 ho B 93 i _ 4 40 Tryd.underlying49 hi hz hsz hby rfl (by decide) v xs.length inner hs (kE_sz ▸ hown) ⟨bp, 0, none⟩ 1 1 (cE p) hx rfl (World.news_of_block hnew) (by simp [cE, Value.oneCell']) (by decide) (by simp only [maxLen]; omega) (by omega) hBs _ rfl ?_
  intro g cap w' hown' hg hat hlt
  have hR' := Kd.R_appended (d := kE) (e := 93) (base := B) (ok := fun _ => True) (okp := fun _ => False) (v1 := .slice (some ⟨g, 0, none⟩) (xs.length + 1) cap) (cs := cE p) h0 hr (kE_mkM W B (fun _ => False) p) (fun _ hk => hk.elim) (fun _ _ => trivial) (kE_sz ▸ hown') hg (by
    rcases hat with hat | hat
    · exact .inl hat.symm
    · exact .inr ⟨g, rfl, by omega⟩)
  exact h g cap w' hR' (Kd.R_base hR' g rfl) hg hat
/-- A row, one of its events stored anew. -/
theorem RE_put {w : World} {B g n cap : Nat} {xs : List E} (h : RE w B (.slice (some ⟨g, 0, none⟩) n cap) xs) {k : Nat} (hk : k < xs.length) (p : E) :
    RE ((((w.setCell ⟨g, k * 4, none⟩ (.int .i64 p.n.1)).setCell ⟨g, k * 4 + 1, none⟩ (.int .i64 p.a.1)).setCell ⟨g, k * 4 + 2, none⟩ (.int .i64 p.d.1)).setCell ⟨g, k * 4 + 3, none⟩ (.string p.s)) B (.slice (some ⟨g, 0, none⟩) n cap) (xs.set k p) := by
  obtain ⟨hn, _, hC⟩ := Kd.R_reads' h
  obtain ⟨ad, x, c, he, hx, hK, hc0⟩ := el_at zE hC hk
  injection he with he
  subst he
  have h1 := Kd.R_seg h (k : Int) (by omega) (by omega) (seg := cE p) (j := 0) (x' := p) (c := c) (okp := fun _ => False) (by rw [kE_open hK]; rfl) (fun j u hu => by
    have := hc0 j u hu
    rw [Addr.add_mid, Nat.zero_add] at this
    exact this) (by rw [kE_sz]; exact Nat.le_refl 4) (by
    have : c.length = 4 := by rw [kE_open hK]; rfl
    rw [List.take_zero, List.nil_append, List.drop_of_length_le (by simp [this]), List.append_nil]
    exact kE_mkM _ _ _ p) (fun _ h => h.elim)
  have h2 := h1.1
  rw [show ((k : Int)).toNat = k from rfl] at h2
  exact h2
/-- What Tell may turn: the chronicle's block, and its row. -/
structure KR (g : Nat) (v : Value) (w w' : World) : Prop where
  os : w'.os = w.os
  tape : w'.tape = w.tape
  output : w'.output = w.output
  size : w.heap.size ≤ w'.heap.size
  other : ∀ k, k < w.heap.size → k ≠ g → v.ownBlock ≠ some k → w'.heap[k]? = w.heap[k]?
theorem KR.refl (g : Nat) (v : Value) (w : World) : KR g v w w := ⟨rfl, rfl, rfl, Nat.le_refl _, fun _ _ _ _ => rfl⟩
theorem KR.trans {g : Nat} {v : Value} {w w1 w2 : World} (h : KR g v w w1) (k : KR g v w1 w2) : KR g v w w2 :=
  ⟨k.os.trans h.os, k.tape.trans h.tape, k.output.trans h.output, Nat.le_trans h.size k.size, fun i hi hn hv => (k.other i (Nat.lt_of_lt_of_le hi h.size) hn hv).trans (h.other i hi hn hv)⟩
theorem KR.of_below {g : Nat} {v : Value} {w w1 : World} (h : Below w.heap.size w w1) : KR g v w w1 := ⟨h.os, h.tape, h.output, h.size, fun i hi _ _ => h.block i hi⟩
theorem KR.set {g : Nat} {v : Value} {w : World} (j : Nat) (u : Value) : KR g v w (w.setCell ⟨g, j, none⟩ u) :=
  ⟨rfl, rfl, rfl, by simp [World.setCell], fun i hi hn _ => Below.heap_setCell w ⟨g, j, none⟩ u i hn⟩
theorem KR.setv {g gv n cap : Nat} {w : World} (j : Nat) (u : Value) : KR g (.slice (some ⟨gv, 0, none⟩) n cap) w (w.setCell ⟨gv, j, none⟩ u) :=
  ⟨rfl, rfl, rfl, by simp [World.setCell], fun i hi _ hn => Below.heap_setCell w ⟨gv, j, none⟩ u i (fun e => hn (by rw [e]; rfl))⟩
theorem KR.grown {g : Nat} {v : Value} {w w1 : World} (h : w.grownBy w1 v.ownBlock) : KR g v w w1 := ⟨h.os, h.tape, h.output, h.size, fun i hi _ hv => h.block i hi (Ne.symm hv)⟩
theorem KR.below {g B : Nat} {v : Value} {w w1 : World} (h : KR g v w w1) (hB : B ≤ g) (hv : ∀ k, v.ownBlock = some k → B ≤ k) (hw : B ≤ w.heap.size) : Below B w w1 :=
  ⟨h.os, h.tape, h.output, h.size, fun i hi => h.other i (by omega) (by omega) (fun e => by have := hv i e; omega)⟩
theorem tell_nil (a n : Int) (s : ByteArray) (w : World) : Calls Tryd.prog 20 #[.pointer none, .int .i64 a, .int .i64 n, .string s] w fun e w' => e = .returned (.int .i64 6) ∧ w = w' := by
  go_enter Tryd.func20, Tryd.ntmps20
  go_wp2
  go_ret
  exact ⟨rfl, rfl⟩
theorem tell_zero (B g : Nat) (v : Value) (ring : List E) (first many last a n : Int) (s : ByteArray) (w : World) (h : CH B w g v ring 0 first many last) : Calls Tryd.prog 20 #[.pointer (some ⟨g, 0, none⟩), .int .i64 a, .int .i64 n, .string s] w fun e w' => e = .returned (.int .i64 6) ∧ w = w' := by
  have c1 := h.c1
  clear h
  go_enter Tryd.func20, Tryd.ntmps20
  go_wp2
  go_ret
  exact ⟨rfl, rfl⟩
/-- Is an event one that may be told? -/
def mayB (a n : Int) (s : ByteArray) : Bool := decide (0 ≤ a) && decide (1 ≤ n) && decide (n ≤ 64) && wordB s
set_option maxHeartbeats 3200000 in
set_option maxRecDepth 100000 in
theorem tell_arg (B g : Nat) (v : Value) (ring : List E) (room first many last a n : Int) (s : ByteArray) (w : World) (h : CH B w g v ring room first many last) (hr : 0 < room) (hs : s.size ≤ 100) (hm : mayB a n s = false) :
    Calls Tryd.prog 20 #[.pointer (some ⟨g, 0, none⟩), .int .i64 a, .int .i64 n, .string s] w fun e w' => e = .returned (.int .i64 1) ∧ Below w.heap.size w w' := by
  have c1 := h.c1
  have r0 : ((room : Int) == 0) = false := by simp; omega
  clear h
  by_cases h1 : a < 0
  · clear hm hs
    go_enter Tryd.func20, Tryd.ntmps20
    go_wp2
    go_ret
    exact ⟨rfl, Below.refl _ _⟩
  by_cases h2 : n < 1
  · clear hm hs
    go_enter Tryd.func20, Tryd.ntmps20
    go_wp2
    go_ret
    exact ⟨rfl, Below.refl _ _⟩
  by_cases h3 : 64 < n
  · clear hm hs
    go_enter Tryd.func20, Tryd.ntmps20
    go_wp2
    go_ret
    exact ⟨rfl, Below.refl _ _⟩
  have HW : Aside0 (wordB s = false) := ⟨by
    unfold mayB at hm
    rw [decide_eq_true (by omega : 0 ≤ a), decide_eq_true (by omega : 1 ≤ n), decide_eq_true (by omega : n ≤ 64)] at hm
    simpa using hm⟩
  have HS := Aside0.mk hs
  clear hm hs
  go_enter Tryd.func20, Tryd.ntmps20
  go_wp2_with fail
  refine (word_calls s w HS.out).mono ?_
  rintro e w1 ⟨rfl, hb⟩
  rw [HW.out]
  go_wp2
  go_ret
  exact ⟨rfl, hb⟩
set_option maxHeartbeats 3200000 in
set_option maxRecDepth 100000 in
theorem tell_old (B g : Nat) (v : Value) (ring : List E) (room first many last a n : Int) (s : ByteArray) (w : World) (h : CH B w g v ring room first many last) (hr : 0 < room) (hs : s.size ≤ 100) (hm : mayB a n s = true) (ho : a < last) :
    Calls Tryd.prog 20 #[.pointer (some ⟨g, 0, none⟩), .int .i64 a, .int .i64 n, .string s] w fun e w' => e = .returned (.int .i64 10) ∧ Below w.heap.size w w' := by
  have H := Aside0.mk h
  have c1 := h.c1
  have r0 : ((room : Int) == 0) = false := by simp; omega
  have HS := Aside0.mk hs
  unfold mayB at hm
  simp only [Bool.and_eq_true, decide_eq_true_eq] at hm
  obtain ⟨⟨⟨h1, h2⟩, h3⟩, h4⟩ := hm
  have k1 : ¬ a < 0 := by omega
  have k2 : ¬ n < 1 := by omega
  have k3 : ¬ 64 < n := by omega
  have HW := Aside0.mk h4
  clear h hs h4
  go_enter Tryd.func20, Tryd.ntmps20
  go_wp2_with fail
  refine (word_calls s w HS.out).mono ?_
  rintro e w1 ⟨rfl, hb⟩
  rw [HW.out]
  have c4 := (H.out.below hb).c4
  go_wp2
  go_ret
  exact ⟨rfl, hb⟩
end Go.Proofs.YthimnnnfgangbaaDoor.Cn
