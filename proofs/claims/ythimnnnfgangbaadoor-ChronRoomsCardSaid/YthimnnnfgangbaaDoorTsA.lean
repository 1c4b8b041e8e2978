/- Contracts of the tally's own functions: for every input. -/
import Derived.Test.YthimnnnfgangbaaDoorQrN
import Derived.Shelf.Spec.BitsCarry
import Derived.IntWalk
set_option linter.unusedVariables false
set_option linter.unusedSimpArgs false
namespace Go.Proofs.YthimnnnfgangbaaDoor.Ts
open Go.RowKit Go.Proofs.YthimnnnfgangbaaDoorW.PrintWords Go.Proofs.YthimnnnfgangbaaDoorW.PrintLast Go.Proofs.YthimnnnfgangbaaDoorW.PrintMore Go.Proofs.YthimnnnfgangbaaDoor.Qr
/-- What a call on the state at block g may turn: that block alone, and what it makes. -/
structure KB (g : Nat) (w w' : World) : Prop where
  os : w'.os = w.os
  tape : w'.tape = w.tape
  output : w'.output = w.output
  size : w.heap.size ≤ w'.heap.size
  other : ∀ k, k < w.heap.size → k ≠ g → w'.heap[k]? = w.heap[k]?
theorem KB.refl (g : Nat) (w : World) : KB g w w := ⟨rfl, rfl, rfl, Nat.le_refl _, fun _ _ _ => rfl⟩
theorem KB.trans {g : Nat} {w w1 w2 : World} (h : KB g w w1) (k : KB g w1 w2) : KB g w w2 :=
  ⟨k.os.trans h.os, k.tape.trans h.tape, k.output.trans h.output, Nat.le_trans h.size k.size, fun i hi hn => (k.other i (Nat.lt_of_lt_of_le hi h.size) hn).trans (h.other i hi hn)⟩
theorem KB.of_below {g : Nat} {w w1 : World} (h : Below w.heap.size w w1) : KB g w w1 := ⟨h.os, h.tape, h.output, h.size, fun i hi _ => h.block i hi⟩
theorem KB.below {g B : Nat} {w w1 : World} (h : KB g w w1) (hB : B ≤ g) (hw : B ≤ w.heap.size) : Below B w w1 := ⟨h.os, h.tape, h.output, h.size, fun i hi => h.other i (by omega) (by omega)⟩
theorem KB.set {g : Nat} {w : World} (j : Nat) (u : Value) : KB g w (w.setCell ⟨g, j, none⟩ u) :=
  ⟨rfl, rfl, rfl, by simp [World.setCell], fun i hi hn => Below.heap_setCell w ⟨g, j, none⟩ u i hn⟩
theorem KB.drew {g : Nat} {w w1 : World} (h : KB g w w1) (n : Nat) : KB g w (w1.drewN n) := h.trans (.of_below (pw_below_drewN (Below.refl _ _) _))
theorem KB.blk {g k : Nat} {w w1 : World} {o : Obj} (h : KB g w w1) (hb : w.heap[k]? = some o) (hn : k ≠ g) : w1.heap[k]? = some o := (h.other k (blk_lt hb) hn).trans hb
/-- A tally. -/
structure T where
  c : Nat
  s : Nat
  l : Nat
  m : Nat
  st : List Nat
def U (n : Nat) : Value := .int .u64 n
def T.cells (t : T) : Array Value := (U t.c :: U t.s :: U t.l :: U t.m :: t.st.map U).toArray
/-- A tally in memory. -/
structure TL (w : World) (g : Nat) (t : T) : Prop where
  blk : w.heap[g]? = some (.cells t.cells 108 (0, 0))
  len : t.st.length = 65
theorem TL.below {w w1 : World} {g : Nat} {t : T} (h : TL w g t) (hb : Below w.heap.size w w1) : TL w1 g t := ⟨blk_below h.blk hb, h.len⟩
theorem TL.kb {w w1 : World} {g k : Nat} {t : T} (h : TL w g t) (hb : KB k w w1) (hn : g ≠ k) : TL w1 g t := ⟨hb.blk h.blk hn, h.len⟩
theorem TL.c0 {w : World} {g : Nat} {t : T} (h : TL w g t) : w.cell? ⟨g, 0, none⟩ = some (.int .u64 t.c) := by rw [blk_cell h.blk]; rfl
theorem TL.c1 {w : World} {g : Nat} {t : T} (h : TL w g t) : w.cell? ⟨g, 1, none⟩ = some (.int .u64 t.s) := by rw [blk_cell h.blk]; rfl
theorem TL.c2 {w : World} {g : Nat} {t : T} (h : TL w g t) : w.cell? ⟨g, 2, none⟩ = some (.int .u64 t.l) := by rw [blk_cell h.blk]; rfl
theorem TL.c3 {w : World} {g : Nat} {t : T} (h : TL w g t) : w.cell? ⟨g, 3, none⟩ = some (.int .u64 t.m) := by rw [blk_cell h.blk]; rfl
theorem TL.ck {w : World} {g : Nat} {t : T} (h : TL w g t) {k : Nat} (hk : k < 65) : w.cell? ⟨g, 4 + k, none⟩ = some (.int .u64 (t.st.getD k 0)) := by
  rw [blk_cell h.blk]
  have h2 : k < t.st.length := by rw [h.len]; exact hk
  unfold T.cells
  rw [List.getElem?_toArray, show 4 + k = k + 1 + 1 + 1 + 1 by omega]
  simp [U, h2]
theorem TL.set {w : World} {g : Nat} {t t2 : T} (h : TL w g t) (j : Nat) (u : Value) (he : t.cells.setIfInBounds j u = t2.cells) (hl : t2.st.length = 65) : TL (w.setCell ⟨g, j, none⟩ u) g t2 :=
  ⟨by rw [blk_set h.blk, he], hl⟩
theorem TL.s0 {w : World} {g : Nat} {t : T} (h : TL w g t) (n : Nat) : TL (w.setCell ⟨g, 0, none⟩ (.int .u64 n)) g { t with c := n } := h.set 0 _ (by simp [T.cells, U]) h.len
theorem TL.s1 {w : World} {g : Nat} {t : T} (h : TL w g t) (n : Nat) : TL (w.setCell ⟨g, 1, none⟩ (.int .u64 n)) g { t with s := n } := h.set 1 _ (by simp [T.cells, U]) h.len
theorem TL.s2 {w : World} {g : Nat} {t : T} (h : TL w g t) (n : Nat) : TL (w.setCell ⟨g, 2, none⟩ (.int .u64 n)) g { t with l := n } := h.set 2 _ (by simp [T.cells, U]) h.len
theorem TL.s3 {w : World} {g : Nat} {t : T} (h : TL w g t) (n : Nat) : TL (w.setCell ⟨g, 3, none⟩ (.int .u64 n)) g { t with m := n } := h.set 3 _ (by simp [T.cells, U]) h.len
theorem TL.sk {w : World} {g : Nat} {t : T} (h : TL w g t) (k n : Nat) : TL (w.setCell ⟨g, 4 + k, none⟩ (.int .u64 n)) g { t with st := t.st.set k n } := h.set (4 + k) _ (by
  apply Array.ext'
  simp [T.cells, U, show 4 + k = k + 1 + 1 + 1 + 1 by omega, List.map_set]) (by simp [h.len])
def t0 : T := ⟨0, 0, 0, 0, List.replicate 65 0⟩
theorem new_calls (w : World) : Calls Tryd.prog 59 #[] w fun e w' => e = .returned (.pointer (some ⟨w.heap.size, 0, none⟩)) ∧ TL w' w.heap.size t0 ∧ Below w.heap.size w w' := by
  go_enter Tryd.func59, Tryd.ntmps59
  go_wp2
  go_ret
  exact ⟨rfl, ⟨blk_new w _, rfl⟩, below_alloc (Below.refl _ _) _⟩
/-- Two numbers together, that do not go over. -/
def plus (a b : Nat) : Nat := if 18446744073709551616 ≤ a + b then 18446744073709551615 else a + b
theorem add64 (x y : Nat) (hx : x < 18446744073709551616) (hy : y < 18446744073709551616) (w : World) :
    (callFunc 76 #[.int .u64 x, .int .u64 y, .int .u64 (0 : Int)]).run Tryd.prog w =
      .ok (.value (.tuple #[.int .u64 (((x + y) % 18446744073709551616 : Nat) : Int), .int .u64 (((x + y) / 18446744073709551616 : Nat) : Int)])) w := by
  rw [run_callFunc_extern Tryd.func76 (by kernel_rfl) (by kernel_rfl) (by kernel_rfl) (e := add64Entry) (by kernel_rfl)]
  rw [run_add64 (x : Int) (y : Int) 0 (by omega) (by omega) (by omega) (by omega)]
  simp only [Result.andThen]
  congr 5 <;> omega
theorem plus_calls (a b : Nat) (ha : a < 18446744073709551616) (hb : b < 18446744073709551616) (w : World) : Calls Tryd.prog 57 #[.int .u64 a, .int .u64 b] w fun e w' => e = .returned (.int .u64 (plus a b)) ∧ w = w' := by
  by_cases h : 18446744073709551616 ≤ a + b
  · have h1 : plus a b = 18446744073709551615 := if_pos h
    have h2 : (a + b) / 18446744073709551616 = 1 := by omega
    have h3 := add64 a b ha hb
    rw [h2] at h3
    rw [h1]
    clear h h1 h2 ha hb
    go_enter Tryd.func57, Tryd.ntmps57
    go_wp2_with (simp only [h3])
    go_ret
    exact ⟨rfl, rfl⟩
  · have h1 : plus a b = a + b := if_neg h
    have h2 : (a + b) / 18446744073709551616 = 0 := by omega
    have h4 : (a + b) % 18446744073709551616 = a + b := by omega
    have h3 := add64 a b ha hb
    rw [h2, h4] at h3
    rw [h1]
    clear h h1 h2 h4 ha hb
    go_enter Tryd.func57, Tryd.ntmps57
    go_wp2_with (simp only [h3])
    go_ret
    exact ⟨rfl, rfl⟩
end Go.Proofs.YthimnnnfgangbaaDoor.Ts
