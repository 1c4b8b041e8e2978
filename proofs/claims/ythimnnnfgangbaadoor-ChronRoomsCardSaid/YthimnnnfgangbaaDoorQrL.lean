/- A reply's line, as plain lists; the structs of a reply, read. -/
import Derived.Test.YthimnnnfgangbaaDoorQrK
import Derived.Laws.Slices
import Derived.RowKit3
set_option linter.unusedVariables false
set_option linter.unusedSimpArgs false
namespace Go.Proofs.YthimnnnfgangbaaDoor.Qr
open Go.RowKit Go.Proofs.YthimnnnfgangbaaDoorW.PrintWords Go.Proofs.YthimnnnfgangbaaDoorW.PrintLast Go.Proofs.YthimnnnfgangbaaDoorW.PrintMore
/-- Whole numbers of 64 bits, as a type of their own. -/
abbrev I64 := {n : Int // i64 n}
/-- Those that are not below 0. -/
abbrev U64 := {u : Nat // u < 18446744073709551616}
def zI : I64 := ⟨0, by unfold i64; omega⟩
def zU : U64 := ⟨0, by omega⟩
def kI : Kd I64 := Kd.iso (Kd.int .i64) Subtype.val
def kU : Kd U64 := Kd.iso (Kd.int .u64) (fun u => ((u.1 : Nat) : Int))
/-- A route. -/
structure S41 where
  a : I64
  b : I64
  c : U64
def z41 : S41 := ⟨zI, zI, zU⟩
def k41 : Kd S41 := Kd.iso (Kd.pair kI (Kd.pair kI kU)) (fun x : S41 => (x.a, x.b, x.c))
theorem k41_open {w : World} {x : S41} {cs : List Value} (h : k41.K w x cs) : cs = [.int .i64 x.a.1, .int .i64 x.b.1, .int .u64 x.c.1] := by
  obtain ⟨_, _, rfl, rfl, ⟨_, _, rfl, rfl, rfl⟩⟩ := h
  exact rfl
theorem k41_mk (w : World) (x : S41) : k41.K w x [.int .i64 x.a.1, .int .i64 x.b.1, .int .u64 x.c.1] := ⟨[.int .i64 x.a.1], [.int .i64 x.b.1, .int .u64 x.c.1], rfl, rfl, ⟨[.int .i64 x.b.1], [.int .u64 x.c.1], rfl, rfl, rfl⟩⟩
/-- A link. -/
structure S43 where
  a : I64
  b : I64
def z43 : S43 := ⟨zI, zI⟩
def k43 : Kd S43 := Kd.iso (Kd.pair kI kI) (fun x : S43 => (x.a, x.b))
theorem k43_open {w : World} {x : S43} {cs : List Value} (h : k43.K w x cs) : cs = [.int .i64 x.a.1, .int .i64 x.b.1] := by
  obtain ⟨_, _, rfl, rfl, rfl⟩ := h
  exact rfl
theorem k43_mk (w : World) (x : S43) : k43.K w x [.int .i64 x.a.1, .int .i64 x.b.1] := ⟨[.int .i64 x.a.1], [.int .i64 x.b.1], rfl, rfl, rfl⟩
/-- What one tells of its links. -/
structure S31 where
  a : I64
  b : I64
  l : List S43
def z31 : S31 := ⟨zI, zI, []⟩
def k31 : Kd S31 := Kd.iso (Kd.pair kI (Kd.pair kI (Kd.slice 43 k43))) (fun x : S31 => (x.a, x.b, x.l))
theorem k31_open {w : World} {x : S31} {cs : List Value} (h : k31.K w x cs) : ∃ A2 c2, cs = [.int .i64 x.a.1, .int .i64 x.b.1, .slice A2 x.l.length c2] ∧ x.l.length ≤ c2 ∧ k43.C w A2 x.l.length x.l := by
  obtain ⟨_, _, rfl, rfl, ⟨_, _, rfl, rfl, ⟨A2, c2, rfl, l2, g2⟩⟩⟩ := h
  exact ⟨A2, c2, rfl, l2, g2⟩
theorem k31_mk (w : World) (x : S31) {A2 : Option Addr} {c2 : Nat} (l2 : x.l.length ≤ c2) (g2 : k43.C w A2 x.l.length x.l) : k31.K w x [.int .i64 x.a.1, .int .i64 x.b.1, .slice A2 x.l.length c2] := ⟨[.int .i64 x.a.1], [.int .i64 x.b.1, .slice A2 x.l.length c2], rfl, rfl, ⟨[.int .i64 x.b.1], [.slice A2 x.l.length c2], rfl, rfl, ⟨A2, c2, rfl, l2, g2⟩⟩⟩
/-- A neighbour. -/
structure S85 where
  a : I64
  b : I64
  c : I64
  d : I64
  h : Bool
  f : Bool
  g : I64
  t : Bool
def z85 : S85 := ⟨zI, zI, zI, zI, false, false, zI, false⟩
def k85 : Kd S85 := Kd.iso (Kd.pair kI (Kd.pair kI (Kd.pair kI (Kd.pair kI (Kd.pair Kd.bool (Kd.pair Kd.bool (Kd.pair kI Kd.bool))))))) (fun x : S85 => (x.a, x.b, x.c, x.d, x.h, x.f, x.g, x.t))
def cs85 (x : S85) : List Value := [.int .i64 x.a.1, .int .i64 x.b.1, .int .i64 x.c.1, .int .i64 x.d.1, .bool x.h, .bool x.f, .int .i64 x.g.1, .bool x.t]
theorem k85_open {w : World} {x : S85} {cs : List Value} (h : k85.K w x cs) : cs = [.int .i64 x.a.1, .int .i64 x.b.1, .int .i64 x.c.1, .int .i64 x.d.1, .bool x.h, .bool x.f, .int .i64 x.g.1, .bool x.t] := by
  obtain ⟨_, _, rfl, rfl, ⟨_, _, rfl, rfl, ⟨_, _, rfl, rfl, ⟨_, _, rfl, rfl, ⟨_, _, rfl, rfl, ⟨_, _, rfl, rfl, ⟨_, _, rfl, rfl, rfl⟩⟩⟩⟩⟩⟩⟩ := h
  exact rfl
theorem k85_mk (w : World) (x : S85) : k85.K w x [.int .i64 x.a.1, .int .i64 x.b.1, .int .i64 x.c.1, .int .i64 x.d.1, .bool x.h, .bool x.f, .int .i64 x.g.1, .bool x.t] :=
  ⟨[.int .i64 x.a.1], _, rfl, rfl, ⟨[.int .i64 x.b.1], _, rfl, rfl, ⟨[.int .i64 x.c.1], _, rfl, rfl, ⟨[.int .i64 x.d.1], _, rfl, rfl, ⟨[.bool x.h], _, rfl, rfl, ⟨[.bool x.f], _, rfl, rfl, ⟨[.int .i64 x.g.1], [.bool x.t], rfl, rfl, rfl⟩⟩⟩⟩⟩⟩⟩

/-- An element of a slice, and its cells. -/
theorem el_at {α : Type} {d : Kd α} {w : World} {A : Option Addr} {xs : List α} (z : α) (h : Kd.C d w A xs.length xs) {k : Nat} (hk : k < xs.length) :
    ∃ ad x c, A = some ad ∧ xs[k]? = some x ∧ d.K w x c ∧ ∀ j u, c[j]? = some u → w.cell? (ad.add (k * d.sz + j)) = some u := by
  obtain ⟨ad, c, e, _, hK, hc0⟩ := Kd.C_get h z (k : Int) (by omega) (by omega)
  rw [show ((k : Int)).toNat = k from by omega] at hK hc0
  obtain ⟨x, hx⟩ : ∃ x, xs[k]? = some x := ⟨xs[k], List.getElem?_eq_getElem hk⟩
  have hg : xs.getD k z = x := by rw [List.getD_eq_getElem?_getD, hx]; rfl
  rw [hg] at hK
  exact ⟨ad, x, c, e, hx, hK, hc0⟩
theorem at41 {w : World} {A : Option Addr} {xs : List S41} (h : Kd.C k41 w A xs.length xs) {k : Nat} (hk : k < xs.length) : ∃ ad x, A = some ad ∧ xs[k]? = some x ∧ w.cell? (ad.add (k * 3)) = some (.int .i64 x.a.1) ∧ w.cell? ⟨(ad.add (k * 3)).block, (ad.add (k * 3)).off + 1, none⟩ = some (.int .i64 x.b.1) ∧ w.cell? ⟨(ad.add (k * 3)).block, (ad.add (k * 3)).off + 2, none⟩ = some (.int .u64 x.c.1) := by
  obtain ⟨ad, x, c, e, hx, hK, hc0⟩ := el_at z41 h hk
  have hc : ∀ j u, c[j]? = some u → w.cell? (ad.add (k * 3 + j)) = some u := hc0
  obtain rfl := k41_open hK
  exact ⟨ad, x, e, hx, hc 0 _ rfl, by rw [← add_field _ _ 1 (by omega)]; exact hc 1 _ rfl, by rw [← add_field _ _ 2 (by omega)]; exact hc 2 _ rfl⟩
theorem at43 {w : World} {A : Option Addr} {xs : List S43} (h : Kd.C k43 w A xs.length xs) {k : Nat} (hk : k < xs.length) : ∃ ad x, A = some ad ∧ xs[k]? = some x ∧ w.cell? (ad.add (k * 2)) = some (.int .i64 x.a.1) ∧ w.cell? ⟨(ad.add (k * 2)).block, (ad.add (k * 2)).off + 1, none⟩ = some (.int .i64 x.b.1) := by
  obtain ⟨ad, x, c, e, hx, hK, hc0⟩ := el_at z43 h hk
  have hc : ∀ j u, c[j]? = some u → w.cell? (ad.add (k * 2 + j)) = some u := hc0
  obtain rfl := k43_open hK
  exact ⟨ad, x, e, hx, hc 0 _ rfl, by rw [← add_field _ _ 1 (by omega)]; exact hc 1 _ rfl⟩
theorem at31 {w : World} {A : Option Addr} {xs : List S31} (h : Kd.C k31 w A xs.length xs) {k : Nat} (hk : k < xs.length) : ∃ ad x A2 c2, A = some ad ∧ xs[k]? = some x ∧ w.cell? (ad.add (k * 3)) = some (.int .i64 x.a.1) ∧ w.cell? ⟨(ad.add (k * 3)).block, (ad.add (k * 3)).off + 1, none⟩ = some (.int .i64 x.b.1) ∧ w.cell? ⟨(ad.add (k * 3)).block, (ad.add (k * 3)).off + 2, none⟩ = some (.slice A2 x.l.length c2) ∧ x.l.length ≤ c2 ∧ k43.C w A2 x.l.length x.l := by
  obtain ⟨ad, x, c, e, hx, hK, hc0⟩ := el_at z31 h hk
  have hc : ∀ j u, c[j]? = some u → w.cell? (ad.add (k * 3 + j)) = some u := hc0
  obtain ⟨A2, c2, rfl, l2, g2⟩ := k31_open hK
  exact ⟨ad, x, A2, c2, e, hx, hc 0 _ rfl, by rw [← add_field _ _ 1 (by omega)]; exact hc 1 _ rfl, by rw [← add_field _ _ 2 (by omega)]; exact hc 2 _ rfl, l2, g2⟩
theorem at85 {w : World} {A : Option Addr} {xs : List S85} (h : Kd.C k85 w A xs.length xs) {k : Nat} (hk : k < xs.length) : ∃ ad x, A = some ad ∧ xs[k]? = some x ∧ w.cell? (ad.add (k * 8)) = some (.int .i64 x.a.1) ∧ w.cell? ⟨(ad.add (k * 8)).block, (ad.add (k * 8)).off + 1, none⟩ = some (.int .i64 x.b.1) ∧ w.cell? ⟨(ad.add (k * 8)).block, (ad.add (k * 8)).off + 2, none⟩ = some (.int .i64 x.c.1) ∧ w.cell? ⟨(ad.add (k * 8)).block, (ad.add (k * 8)).off + 3, none⟩ = some (.int .i64 x.d.1) ∧ w.cell? ⟨(ad.add (k * 8)).block, (ad.add (k * 8)).off + 4, none⟩ = some (.bool x.h) ∧ w.cell? ⟨(ad.add (k * 8)).block, (ad.add (k * 8)).off + 5, none⟩ = some (.bool x.f) ∧ w.cell? ⟨(ad.add (k * 8)).block, (ad.add (k * 8)).off + 6, none⟩ = some (.int .i64 x.g.1) ∧ w.cell? ⟨(ad.add (k * 8)).block, (ad.add (k * 8)).off + 7, none⟩ = some (.bool x.t) := by
  obtain ⟨ad, x, c, e, hx, hK, hc0⟩ := el_at z85 h hk
  have hc : ∀ j u, c[j]? = some u → w.cell? (ad.add (k * 8 + j)) = some u := hc0
  obtain rfl := k85_open hK
  exact ⟨ad, x, e, hx, hc 0 _ rfl, by rw [← add_field _ _ 1 (by omega)]; exact hc 1 _ rfl, by rw [← add_field _ _ 2 (by omega)]; exact hc 2 _ rfl, by rw [← add_field _ _ 3 (by omega)]; exact hc 3 _ rfl, by rw [← add_field _ _ 4 (by omega)]; exact hc 4 _ rfl, by rw [← add_field _ _ 5 (by omega)]; exact hc 5 _ rfl, by rw [← add_field _ _ 6 (by omega)]; exact hc 6 _ rfl, by rw [← add_field _ _ 7 (by omega)]; exact hc 7 _ rfl⟩

/-- A reply. -/
structure S27 where
  e : Int
  n : I64
  r : List S41
  b : List S31
  s : List S85
/-! The pieces of a line. -/
def headL (x : S27) : List UInt8 := if x.n.1 = 0 then wd [] (wordL x.e) else nw (wd (wd [] (wordL x.e)) [110]) [x.n.1]
def routeL (l : List UInt8) (x : S41) : List UInt8 := wd (nw (wd l [114, 111, 117, 116, 101]) [x.a.1, x.b.1]) (dd x.c.1)
def linkL (l : List UInt8) (x : S43) : List UInt8 := nw l [x.a.1, x.b.1]
def lsaHead (l : List UInt8) (x : S31) : List UInt8 := nw (wd l [108, 115, 97]) [x.a.1, x.b.1, (x.l.length : Int)]
def lsaL (l : List UInt8) (x : S31) : List UInt8 := x.l.foldl linkL (lsaHead l x)
def howL (x : S85) : List UInt8 := if x.f = true then [102, 117, 108, 108] else if x.h = true then [104, 101, 97, 114, 100] else [115, 105, 108, 101, 110, 116]
def nearL (l : List UInt8) (x : S85) : List UInt8 := nw (wd (nw (wd l [110, 101, 97, 114]) [x.a.1, x.b.1, x.c.1]) (howL x)) [x.g.1]
def lineL (x : S27) : List UInt8 := x.s.foldl nearL (x.b.foldl lsaL (x.r.foldl routeL (headL x)))

/-! A line grows. -/
theorem wd_grow (l s : List UInt8) : l.length ≤ (wd l s).length := by
  unfold wd
  split
  · rename_i h
    rw [h]
    exact Nat.zero_le _
  · rw [List.length_append]
    exact Nat.le_add_right _ _
theorem nw_grow (l : List UInt8) (ns : List Int) : l.length ≤ (nw l ns).length := by
  induction ns generalizing l with
  | nil => exact Nat.le_refl _
  | cons n ns ih => exact Nat.le_trans (wd_grow l (it n)) (ih _)
theorem fold_grow {α : Type} {f : List UInt8 → α → List UInt8} (h : ∀ l x, l.length ≤ (f l x).length) (l : List UInt8) (xs : List α) : l.length ≤ (xs.foldl f l).length := by
  induction xs generalizing l with
  | nil => exact Nat.le_refl _
  | cons x xs ih => exact Nat.le_trans (h l x) (ih _)
/-- One step of a fold, ahead of what is left. -/
theorem fold_take {α : Type} {f : List UInt8 → α → List UInt8} {l : List UInt8} {xs : List α} {k : Nat} {x : α} (hx : xs[k]? = some x) : (xs.take (k + 1)).foldl f l = f ((xs.take k).foldl f l) x := by
  rw [List.take_add_one, List.foldl_append, hx]
  rfl
theorem fold_part {α : Type} {f : List UInt8 → α → List UInt8} (h : ∀ l x, l.length ≤ (f l x).length) (l : List UInt8) (xs : List α) (k : Nat) : ((xs.take k).foldl f l).length ≤ (xs.foldl f l).length := by
  conv => rhs; rw [← List.take_append_drop k xs, List.foldl_append]
  exact fold_grow h _ _
theorem route_grow (l : List UInt8) (x : S41) : l.length ≤ (routeL l x).length := Nat.le_trans (wd_grow l _) (Nat.le_trans (nw_grow _ _) (wd_grow _ _))
theorem link_grow (l : List UInt8) (x : S43) : l.length ≤ (linkL l x).length := nw_grow _ _
theorem lsaHead_grow (l : List UInt8) (x : S31) : l.length ≤ (lsaHead l x).length := Nat.le_trans (wd_grow l _) (nw_grow _ _)
theorem lsa_grow (l : List UInt8) (x : S31) : l.length ≤ (lsaL l x).length := Nat.le_trans (lsaHead_grow l x) (fold_grow link_grow _ _)
theorem near_grow (l : List UInt8) (x : S85) : l.length ≤ (nearL l x).length := Nat.le_trans (wd_grow l _) (Nat.le_trans (nw_grow _ _) (Nat.le_trans (wd_grow _ _) (nw_grow _ _)))

/-! A line is not empty. -/
theorem fold_ne {α : Type} {f : List UInt8 → α → List UInt8} (h : ∀ l x, l.length ≤ (f l x).length) {l : List UInt8} (xs : List α) (hl : l ≠ []) : xs.foldl f l ≠ [] := by
  have h1 := fold_grow h l xs
  have h2 := List.length_pos_iff.2 hl
  exact List.length_pos_iff.1 (by omega)
theorem wordL_ne (e : Int) : wordL e ≠ [] := List.length_pos_iff.1 (by have := wordL_len e; omega)
theorem head_ne (x : S27) : headL x ≠ [] := by
  unfold headL
  split
  · exact wd_ne _ (wordL_ne _)
  · exact nw_ne (wd_ne _ (by simp))
theorem line_ne (x : S27) : lineL x ≠ [] := fold_ne near_grow _ (fold_ne lsa_grow _ (fold_ne route_grow _ (head_ne x)))

/-! How long it may be. -/
theorem fold_long {α : Type} {f : List UInt8 → α → List UInt8} {c : Nat} (xs : List α) (h : ∀ l, ∀ x ∈ xs, (f l x).length ≤ l.length + c) (l : List UInt8) : (xs.foldl f l).length ≤ l.length + c * xs.length := by
  induction xs generalizing l with
  | nil => simp
  | cons x xs ih =>
    have h1 := h l x (by simp)
    have h2 := ih (fun l y hy => h l y (by simp [hy])) (f l x)
    simp only [List.length_cons, Nat.mul_add, List.foldl_cons]
    omega
theorem three_i64 {a b c : Int} (ha : i64 a) (hb : i64 b) (hc : i64 c) : ∀ n ∈ [a, b, c], i64 n := by
  intro n hn
  simp at hn
  rcases hn with rfl | rfl | rfl
  · exact ha
  · exact hb
  · exact hc
theorem one_i64 {a : Int} (ha : i64 a) : ∀ n ∈ [a], i64 n := by
  intro n hn
  simp at hn
  rcases hn with rfl
  exact ha
theorem head_long (x : S27) : (headL x).length ≤ 40 := by
  have h1 := wordL_len x.e
  have h2 := wd_length [] (wordL x.e)
  unfold headL
  split
  · simp at h2; omega
  · have h3 := nw_length (one_i64 x.n.2) (wd (wd [] (wordL x.e)) [110])
    have h4 := wd_length (wd [] (wordL x.e)) [110]
    simp at h2 h3 h4
    omega
theorem route_long (l : List UInt8) (x : S41) : (routeL l x).length ≤ l.length + 80 := by
  have h1 := wd_length l [114, 111, 117, 116, 101]
  have h2 := nw_length (two_i64 x.a.2 x.b.2) (wd l [114, 111, 117, 116, 101])
  have h3 := wd_length (nw (wd l [114, 111, 117, 116, 101]) [x.a.1, x.b.1]) (dd x.c.1)
  have h4 := (dd_len x.c.2).2
  simp at h1 h2
  unfold routeL
  omega
theorem link_long (l : List UInt8) (x : S43) : (linkL l x).length ≤ l.length + 44 := nw_length (two_i64 x.a.2 x.b.2) l
theorem lsaHead_long (l : List UInt8) (x : S31) (h : x.l.length ≤ 1000000000) : (lsaHead l x).length ≤ l.length + 80 := by
  have h1 := wd_length l [108, 115, 97]
  have h2 := nw_length (three_i64 x.a.2 x.b.2 (show i64 (x.l.length : Int) by unfold i64; omega)) (wd l [108, 115, 97])
  simp at h1 h2
  unfold lsaHead
  omega
theorem lsa_long (l : List UInt8) (x : S31) (h : x.l.length ≤ 1000000000) : (lsaL l x).length ≤ l.length + 80 + 44 * x.l.length := by
  have h1 := lsaHead_long l x h
  have h2 := fold_long (f := linkL) (c := 44) x.l (fun l y _ => link_long l y) (lsaHead l x)
  unfold lsaL
  omega
theorem near_long (l : List UInt8) (x : S85) : (nearL l x).length ≤ l.length + 110 := by
  have h1 := wd_length l [110, 101, 97, 114]
  have h2 := nw_length (three_i64 x.a.2 x.b.2 x.c.2) (wd l [110, 101, 97, 114])
  have h3 := wd_length (nw (wd l [110, 101, 97, 114]) [x.a.1, x.b.1, x.c.1]) (howL x)
  have h4 := nw_length (one_i64 x.g.2) (wd (nw (wd l [110, 101, 97, 114]) [x.a.1, x.b.1, x.c.1]) (howL x))
  have h5 : (howL x).length ≤ 6 := by unfold howL; split <;> (try split) <;> decide
  simp at h1 h2 h4
  unfold nearL
  omega
/-- How many values a reply's parts hold. -/
def linksOf (bs : List S31) : Nat := (bs.map (fun x => x.l.length)).sum
theorem lsas_long (bs : List S31) (h : ∀ x ∈ bs, x.l.length ≤ 1000000000) (l : List UInt8) : (bs.foldl lsaL l).length ≤ l.length + 80 * bs.length + 44 * linksOf bs := by
  induction bs generalizing l with
  | nil => simp [linksOf]
  | cons x bs ih =>
    have h1 := lsa_long l x (h x (by simp))
    have h2 := ih (fun y hy => h y (by simp [hy])) (lsaL l x)
    unfold linkL linksOf at *
    simp only [List.length_cons, List.foldl_cons, List.map_cons, List.sum_cons] at *
    omega
theorem links_le {bs : List S31} {x : S31} (h : x ∈ bs) : x.l.length ≤ linksOf bs := by
  induction bs with
  | nil => simp at h
  | cons y bs ih =>
    unfold linksOf at *
    simp only [List.mem_cons, List.map_cons, List.sum_cons] at *
    rcases h with rfl | h
    · omega
    · have := ih h; omega
theorem line_long (x : S27) (h : linksOf x.b ≤ 1000000000) : (lineL x).length ≤ 40 + 80 * x.r.length + 80 * x.b.length + 44 * linksOf x.b + 110 * x.s.length := by
  have h1 := head_long x
  have h2 := fold_long (f := routeL) (c := 80) x.r (fun l y _ => route_long l y) (headL x)
  have h3 := lsas_long x.b (fun y hy => Nat.le_trans (links_le hy) h) (x.r.foldl routeL (headL x))
  have h4 := fold_long (f := nearL) (c := 110) x.s (fun l y _ => near_long l y) (x.b.foldl lsaL (x.r.foldl routeL (headL x)))
  unfold lineL
  omega
end Go.Proofs.YthimnnnfgangbaaDoor.Qr
