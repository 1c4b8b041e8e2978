/- Unlike replies (without neighbours) have unlike lines, as plain lists. -/
import Derived.Test.YthimnnnfgangbaaDoorQrL
set_option linter.unusedVariables false
set_option linter.unusedSimpArgs false
namespace Go.Proofs.YthimnnnfgangbaaDoor.Qr
/-! A number's digits tell the number. -/
def valD (l : List UInt8) : Nat := l.foldl (fun a c => 10 * a + (c.toNat - 48)) 0
theorem valD_snoc (l : List UInt8) (c : UInt8) : valD (l ++ [c]) = 10 * valD l + (c.toNat - 48) := by unfold valD; rw [List.foldl_append]; rfl
theorem dgt_val {r : Nat} (h : r < 10) : (UInt8.ofNat (48 + r)).toNat = 48 + r := by
  rw [UInt8.toNat_ofNat']
  omega
theorem dd_val (n : Nat) : ∀ u, u < n → valD (dd u) = u := by
  induction n with
  | zero => intro u h; omega
  | succ n ih =>
    intro u h
    by_cases hu : u < 10
    · rw [dd_small hu]
      show 10 * 0 + ((UInt8.ofNat (48 + u)).toNat - 48) = u
      rw [dgt_val hu]; omega
    · rw [dd_big hu, valD_snoc, ih (u / 10) (by omega), dgt_val (Nat.mod_lt _ (by omega))]
      omega
theorem dd_inj {u v : Nat} (h : dd u = dd v) : u = v := by
  rw [← dd_val (u + 1) u (by omega), ← dd_val (v + 1) v (by omega), h]
def isDg (c : UInt8) : Prop := 48 ≤ c.toNat ∧ c.toNat ≤ 57
theorem dd_dg (n : Nat) : ∀ u, u < n → ∀ c ∈ dd u, isDg c := by
  induction n with
  | zero => intro u h; omega
  | succ n ih =>
    intro u h c hc
    by_cases hu : u < 10
    · rw [dd_small hu] at hc
      obtain rfl := List.mem_singleton.1 hc
      unfold isDg
      rw [dgt_val hu]; omega
    · rw [dd_big hu] at hc
      rcases List.mem_append.1 hc with hc | hc
      · exact ih (u / 10) (by omega) c hc
      · obtain rfl := List.mem_singleton.1 hc
        unfold isDg
        rw [dgt_val (Nat.mod_lt _ (by omega))]; omega
theorem dd_dg' (u : Nat) : ∀ c ∈ dd u, isDg c := dd_dg (u + 1) u (by omega)
theorem dd_ne (u : Nat) : dd u ≠ [] := by
  by_cases hu : u < 10
  · rw [dd_small hu]; simp
  · rw [dd_big hu]; simp
theorem it_neg {n : Int} (h : n < 0) : it n = 45 :: dd n.natAbs := by unfold it Lib.itoa; rw [if_pos h]
theorem it_pos {n : Int} (h : ¬ n < 0) : it n = dd n.toNat := by unfold it Lib.itoa; rw [if_neg h]
theorem dd_not45 (u : Nat) (r : List UInt8) : dd u ≠ 45 :: r := by
  intro e
  have h := dd_dg' u 45 (by rw [e]; simp)
  have : (45 : UInt8).toNat = 45 := by decide
  unfold isDg at h
  omega
theorem it_inj {n m : Int} (h : it n = it m) : n = m := by
  by_cases hn : n < 0 <;> by_cases hm : m < 0
  · rw [it_neg hn, it_neg hm] at h
    injection h with _ h
    have := dd_inj h
    omega
  · rw [it_neg hn, it_pos hm] at h
    exact absurd h.symm (dd_not45 _ _)
  · rw [it_pos hn, it_neg hm] at h
    exact absurd h (dd_not45 _ _)
  · rw [it_pos hn, it_pos hm] at h
    have := dd_inj h
    omega
/-- A good word: letters, and no blank. -/
def Tok (t : List UInt8) : Prop := t ≠ [] ∧ (32 : UInt8) ∉ t
theorem tok_dd (u : Nat) : Tok (dd u) := ⟨dd_ne u, fun h => by
  have h := dd_dg' u 32 h
  have : (32 : UInt8).toNat = 32 := by decide
  unfold isDg at h
  omega⟩
theorem tok_it (n : Int) : Tok (it n) := ⟨it_ne n, fun h => by
  by_cases hn : n < 0
  · rw [it_neg hn] at h
    rcases List.mem_cons.1 h with h | h
    · exact absurd h (by decide)
    · exact (tok_dd _).2 h
  · rw [it_pos hn] at h
    exact (tok_dd _).2 h⟩
/-- A number's first letter is none of a word's. -/
theorem it_word (n : Int) {c : UInt8} {r : List UInt8} (h : 58 ≤ c.toNat) : it n ≠ c :: r := by
  intro e
  by_cases hn : n < 0
  · rw [it_neg hn] at e
    injection e with e _
    subst e
    have : (45 : UInt8).toNat = 45 := by decide
    omega
  · rw [it_pos hn] at e
    have h := dd_dg' n.toNat c (by rw [e]; simp)
    unfold isDg at h
    omega
/-! Words that are joined tell the words. -/
def spaced (ts : List (List UInt8)) : List UInt8 := ts.flatMap (fun t => 32 :: t)
theorem wds_ne {l : List UInt8} (ts : List (List UInt8)) (h : l ≠ []) : ts.foldl wd l = l ++ spaced ts := by
  induction ts generalizing l with
  | nil => simp [spaced]
  | cons t ts ih =>
    rw [List.foldl_cons, show wd l t = l ++ 32 :: t by unfold wd; rw [if_neg h], ih (by simp)]
    simp [spaced]
theorem until_blank {t a b : List UInt8} (h : (32 : UInt8) ∉ t) : ∀ {u : List UInt8}, (32 : UInt8) ∉ u → (a = [] ∨ ∃ r, a = 32 :: r) → (b = [] ∨ ∃ r, b = 32 :: r) → t ++ a = u ++ b → t = u ∧ a = b := by
  induction t with
  | nil =>
    intro u hu ha hb e
    cases u with
    | nil => exact ⟨rfl, by simpa using e⟩
    | cons c u =>
      exfalso
      rcases ha with rfl | ⟨r, rfl⟩
      · simp at e
      · simp at e
        exact hu (by rw [← e.1]; simp)
  | cons c t ih =>
    intro u hu ha hb e
    cases u with
    | nil =>
      exfalso
      rcases hb with rfl | ⟨r, rfl⟩
      · simp at e
      · simp at e
        exact h (by rw [e.1]; simp)
    | cons d u =>
      simp only [List.cons_append, List.cons.injEq] at e
      obtain ⟨rfl, e⟩ := e
      obtain ⟨rfl, e2⟩ := ih (fun x => h (List.mem_cons_of_mem _ x)) (fun x => hu (List.mem_cons_of_mem _ x)) ha hb e
      exact ⟨rfl, e2⟩
theorem spaced_start (ts : List (List UInt8)) : spaced ts = [] ∨ ∃ r, spaced ts = 32 :: r := by
  cases ts with
  | nil => exact .inl rfl
  | cons t ts => exact .inr ⟨t ++ spaced ts, by simp [spaced]⟩
theorem spaced_inj {ts us : List (List UInt8)} (h1 : ∀ t ∈ ts, Tok t) (h2 : ∀ t ∈ us, Tok t) (e : spaced ts = spaced us) : ts = us := by
  induction ts generalizing us with
  | nil =>
    cases us with
    | nil => rfl
    | cons u us => simp [spaced] at e
  | cons t ts ih =>
    cases us with
    | nil => simp [spaced] at e
    | cons u us =>
      have e' : t ++ spaced ts = u ++ spaced us := by
        have : (32 : UInt8) :: (t ++ spaced ts) = 32 :: (u ++ spaced us) := e
        injection this
      obtain ⟨rfl, e2⟩ := until_blank (h1 t (by simp)).2 (h2 u (by simp)).2 (spaced_start ts) (spaced_start us) e'
      rw [ih (fun x hx => h1 x (List.mem_cons_of_mem _ hx)) (fun x hx => h2 x (List.mem_cons_of_mem _ hx)) e2]
theorem wds_inj {t u : List UInt8} {ts us : List (List UInt8)} (ht : Tok t) (hu : Tok u) (h1 : ∀ t ∈ ts, Tok t) (h2 : ∀ t ∈ us, Tok t) (e : ts.foldl wd t = us.foldl wd u) : t = u ∧ ts = us := by
  rw [wds_ne ts ht.1, wds_ne us hu.1] at e
  obtain ⟨e1, e2⟩ := until_blank ht.2 hu.2 (spaced_start ts) (spaced_start us) e
  exact ⟨e1, spaced_inj h1 h2 e2⟩
/-! A reply's words. -/
def headT (x : S27) : List (List UInt8) := if x.n.1 = 0 then [] else [[110], it x.n.1]
def routeT (x : S41) : List (List UInt8) := [[114, 111, 117, 116, 101], it x.a.1, it x.b.1, dd x.c.1]
def linkT (x : S43) : List (List UInt8) := [it x.a.1, it x.b.1]
def lsaT (x : S31) : List (List UInt8) := [[108, 115, 97], it x.a.1, it x.b.1, it (x.l.length : Int)] ++ x.l.flatMap linkT
theorem fold_toks {α : Type} {f : List UInt8 → α → List UInt8} {g : α → List (List UInt8)} (h : ∀ l x, f l x = (g x).foldl wd l) (l : List UInt8) (xs : List α) : xs.foldl f l = (xs.flatMap g).foldl wd l := by
  induction xs generalizing l with
  | nil => rfl
  | cons x xs ih => rw [List.foldl_cons, ih, h, List.flatMap_cons, List.foldl_append]
theorem nw_toks (l : List UInt8) (ns : List Int) : nw l ns = (ns.map it).foldl wd l := by
  unfold nw
  rw [List.foldl_map]
theorem route_toks (l : List UInt8) (x : S41) : routeL l x = (routeT x).foldl wd l := rfl
theorem link_toks (l : List UInt8) (x : S43) : linkL l x = (linkT x).foldl wd l := rfl
theorem lsa_toks (l : List UInt8) (x : S31) : lsaL l x = (lsaT x).foldl wd l := by
  unfold lsaL lsaT
  rw [fold_toks link_toks, List.foldl_append]
  rfl
theorem wd_nil (s : List UInt8) : wd [] s = s := rfl
theorem head_toks (x : S27) : headL x = (headT x).foldl wd (wordL x.e) := by
  unfold headL headT
  split
  · rfl
  · rfl
theorem line_toks (x : S27) (h : x.s = []) : lineL x = (headT x ++ (x.r.flatMap routeT ++ x.b.flatMap lsaT)).foldl wd (wordL x.e) := by
  unfold lineL
  rw [h, List.foldl_nil, fold_toks lsa_toks, fold_toks route_toks, head_toks, List.foldl_append, List.foldl_append]
theorem tok_word {e : Int} (h0 : 0 ≤ e) (h1 : e ≤ 10) : Tok (wordL e) := by
  have h : ∀ k : Fin 11, wordL (k.1 : Int) ≠ [] ∧ (32 : UInt8) ∉ wordL (k.1 : Int) := by decide
  have := h ⟨e.toNat, by omega⟩
  rw [show ((e.toNat : Nat) : Int) = e by omega] at this
  exact this
theorem word_inj {a b : Int} (h0 : 0 ≤ a) (h1 : a ≤ 10) (h2 : 0 ≤ b) (h3 : b ≤ 10) (h : wordL a = wordL b) : a = b := by
  have k : ∀ k m : Fin 11, wordL (k.1 : Int) = wordL (m.1 : Int) → k.1 = m.1 := by decide
  have := k ⟨a.toNat, by omega⟩ ⟨b.toNat, by omega⟩ (by
    show wordL ((a.toNat : Nat) : Int) = wordL ((b.toNat : Nat) : Int)
    rw [show ((a.toNat : Nat) : Int) = a by omega, show ((b.toNat : Nat) : Int) = b by omega, h])
  simp at this
  omega
theorem toks_route (x : S41) : ∀ t ∈ routeT x, Tok t := by
  intro t ht
  simp only [routeT, List.mem_cons, List.not_mem_nil, or_false] at ht
  rcases ht with rfl | rfl | rfl | rfl
  · exact ⟨by decide, by decide⟩
  · exact tok_it _
  · exact tok_it _
  · exact tok_dd _
theorem toks_link (x : S43) : ∀ t ∈ linkT x, Tok t := by
  intro t ht
  simp only [linkT, List.mem_cons, List.not_mem_nil, or_false] at ht
  rcases ht with rfl | rfl
  · exact tok_it _
  · exact tok_it _
theorem toks_lsa (x : S31) : ∀ t ∈ lsaT x, Tok t := by
  intro t ht
  rcases List.mem_append.1 ht with ht | ht
  · simp only [List.mem_cons, List.not_mem_nil, or_false] at ht
    rcases ht with rfl | rfl | rfl | rfl
    · exact ⟨by decide, by decide⟩
    · exact tok_it _
    · exact tok_it _
    · exact tok_it _
  · obtain ⟨y, _, hy⟩ := List.mem_flatMap.1 ht
    exact toks_link y t hy
theorem toks_head (x : S27) : ∀ t ∈ headT x, Tok t := by
  intro t ht
  unfold headT at ht
  split at ht
  · cases ht
  · simp only [List.mem_cons, List.not_mem_nil, or_false] at ht
    rcases ht with rfl | rfl
    · exact ⟨by decide, by decide⟩
    · exact tok_it _
theorem toks_all (x : S27) : ∀ t ∈ headT x ++ (x.r.flatMap routeT ++ x.b.flatMap lsaT), Tok t := by
  intro t ht
  rcases List.mem_append.1 ht with ht | ht
  · exact toks_head x t ht
  · rcases List.mem_append.1 ht with ht | ht
    · obtain ⟨y, _, hy⟩ := List.mem_flatMap.1 ht
      exact toks_route y t hy
    · obtain ⟨y, _, hy⟩ := List.mem_flatMap.1 ht
      exact toks_lsa y t hy
/-! The words tell the reply. -/
theorem links_inj {xs ys : List S43} (hl : xs.length = ys.length) {a b : List (List UInt8)} (e : xs.flatMap linkT ++ a = ys.flatMap linkT ++ b) : xs = ys ∧ a = b := by
  induction xs generalizing ys with
  | nil =>
    obtain rfl : ys = [] := List.length_eq_zero_iff.1 hl.symm
    exact ⟨rfl, by simpa using e⟩
  | cons x xs ih =>
    cases ys with
    | nil => simp at hl
    | cons y ys =>
      simp only [List.flatMap_cons, linkT, List.cons_append, List.nil_append, List.cons.injEq] at e
      obtain ⟨e1, e2, e3⟩ := e
      obtain ⟨rfl, e4⟩ := ih (by simpa using hl) e3
      obtain ⟨⟨xa, _⟩, ⟨xb, _⟩⟩ := x
      obtain ⟨⟨ya, _⟩, ⟨yb, _⟩⟩ := y
      obtain rfl := it_inj e1
      obtain rfl := it_inj e2
      exact ⟨rfl, e4⟩
theorem lsas_inj {xs ys : List S31} (e : xs.flatMap lsaT = ys.flatMap lsaT) : xs = ys := by
  induction xs generalizing ys with
  | nil =>
    cases ys with
    | nil => rfl
    | cons y ys => simp [lsaT] at e
  | cons x xs ih =>
    cases ys with
    | nil => simp [lsaT] at e
    | cons y ys =>
      simp only [List.flatMap_cons, lsaT, List.cons_append, List.nil_append, List.cons.injEq, List.append_assoc] at e
      obtain ⟨_, e1, e2, e3, e4⟩ := e
      obtain ⟨⟨xa, _⟩, ⟨xb, _⟩, xl⟩ := x
      obtain ⟨⟨ya, _⟩, ⟨yb, _⟩, yl⟩ := y
      obtain rfl := it_inj e1
      obtain rfl := it_inj e2
      have hl : xl.length = yl.length := Int.ofNat.inj (it_inj e3)
      obtain ⟨rfl, e5⟩ := links_inj hl e4
      rw [ih e5]
theorem routes_inj {xs ys : List S41} {a b : List S31} (e : xs.flatMap routeT ++ a.flatMap lsaT = ys.flatMap routeT ++ b.flatMap lsaT) : xs = ys ∧ a = b := by
  induction xs generalizing ys with
  | nil =>
    cases ys with
    | nil => exact ⟨rfl, lsas_inj (by simpa using e)⟩
    | cons y ys =>
      exfalso
      cases a with
      | nil => simp [routeT] at e
      | cons a as_ => simp [routeT, lsaT] at e
  | cons x xs ih =>
    cases ys with
    | nil =>
      exfalso
      cases b with
      | nil => simp [routeT] at e
      | cons b bs => simp [routeT, lsaT] at e
    | cons y ys =>
      simp only [List.flatMap_cons, routeT, List.cons_append, List.nil_append, List.cons.injEq, List.append_assoc] at e
      obtain ⟨_, e1, e2, e3, e4⟩ := e
      obtain ⟨⟨xa, _⟩, ⟨xb, _⟩, ⟨xc, _⟩⟩ := x
      obtain ⟨⟨ya, _⟩, ⟨yb, _⟩, ⟨yc, _⟩⟩ := y
      obtain rfl := it_inj e1
      obtain rfl := it_inj e2
      obtain rfl := dd_inj e3
      obtain ⟨rfl, rfl⟩ := ih e4
      exact ⟨rfl, rfl⟩
theorem rest_not_n (rs : List S41) (bs : List S31) (r : List (List UInt8)) : rs.flatMap routeT ++ bs.flatMap lsaT ≠ [110] :: r := by
  cases rs with
  | nil =>
    cases bs with
    | nil => simp
    | cons b bs => simp [lsaT]
  | cons x rs => simp [routeT]
theorem line_apart {x y : S27} (hx : x.s = []) (hy : y.s = []) (x0 : 0 ≤ x.e) (x1 : x.e ≤ 10) (y0 : 0 ≤ y.e) (y1 : y.e ≤ 10) (e : lineL x = lineL y) : x = y := by
  rw [line_toks x hx, line_toks y hy] at e
  obtain ⟨e1, e2⟩ := wds_inj (tok_word x0 x1) (tok_word y0 y1) (toks_all x) (toks_all y) e
  have h0 := word_inj x0 x1 y0 y1 e1
  obtain ⟨xe, ⟨xn, hxn⟩, xr, xb, xs⟩ := x
  obtain ⟨ye, ⟨yn, hyn⟩, yr, yb, ys⟩ := y
  simp only at hx hy h0
  subst hx hy h0
  simp only [headT] at e2
  by_cases h1 : xn = 0 <;> by_cases h2 : yn = 0
  · rw [if_pos h1, if_pos h2] at e2
    obtain ⟨rfl, rfl⟩ := routes_inj (by simpa using e2)
    subst h1 h2
    rfl
  · rw [if_pos h1, if_neg h2] at e2
    exact absurd (by simpa using e2) (rest_not_n xr xb _)
  · rw [if_neg h1, if_pos h2] at e2
    exact absurd (by simpa using e2.symm) (rest_not_n yr yb _)
  · rw [if_neg h1, if_neg h2] at e2
    simp only [List.cons_append, List.nil_append, List.cons.injEq] at e2
    obtain rfl := it_inj e2.2.1
    obtain ⟨rfl, rfl⟩ := routes_inj e2.2.2
    rfl
end Go.Proofs.YthimnnnfgangbaaDoor.Qr
