/- Plain laws on scripts: acts, their words and lines; a line is of one act alone; what the reference guesses. Without conditions. Plain laws on scripts: a line is of one act alone; what the reference guesses; the acts of a text. Without conditions. -/
import Derived.Test.YtagpkphehkfjgaaDoorPxP
import Derived.Test.YtagpkphehkfjgaaDoorPxN
set_option linter.unusedVariables false
set_option linter.unusedSimpArgs false
namespace Go.Proofs.YtagpkphehkfjgaaDoor.Sc
open Go.Proofs.YtagpkphehkfjgaaDoor.Px
/-- A tear. -/
structure Tear where
  k : Int
  b : List UInt8
/-- An act. -/
structure Act where
  k : Int
  a : Int
  b : Int
  n : Int
  x : Int
  y : Int
  t : List Tear
def zAct : Act := ⟨0, 0, 0, 0, 0, 0, []⟩
def zTear : Tear := ⟨0, []⟩
instance : Inhabited Tear := ⟨zTear⟩
instance : Inhabited Act := ⟨zAct⟩
/-- A line's first word, and the letters of what stands behind. -/
def form (k : Int) : List UInt8 × List UInt8 :=
  if k = 1 then ([115, 116, 97, 114, 116], [97])
  else if k = 2 then ([108, 105, 110, 107], [97, 98, 120, 121])
  else if k = 3 then ([99, 117, 116], [97, 98])
  else if k = 4 then ([116, 105, 99, 107], [97])
  else if k = 5 then ([103, 105, 118, 101], [97, 98, 110])
  else if k = 6 then ([99, 111, 112, 121], [97, 98, 110])
  else if k = 7 then ([108, 111, 115, 101], [97, 98, 110])
  else if k = 8 then ([97, 114, 109], [97, 110])
  else if k = 9 then ([99, 114, 97, 115, 104], [97, 116])
  else if k = 10 then ([114, 111, 117, 116, 101, 115], [97])
  else if k = 11 then ([98, 97, 115, 101], [97])
  else if k = 12 then ([110, 101, 97, 114], [97])
  else ([], [])
theorem kinds {k : Int} (h : 1 ≤ k ∧ k ≤ 12) : k = 1 ∨ k = 2 ∨ k = 3 ∨ k = 4 ∨ k = 5 ∨ k = 6 ∨ k = 7 ∨ k = 8 ∨ k = 9 ∨ k = 10 ∨ k = 11 ∨ k = 12 := by omega
theorem form_inj {k j : Int} (hk : 1 ≤ k ∧ k ≤ 12) (hj : 1 ≤ j ∧ j ≤ 12) (h : (form k).1 = (form j).1) : k = j := by
  rcases kinds hk with rfl | rfl | rfl | rfl | rfl | rfl | rfl | rfl | rfl | rfl | rfl | rfl <;>
    rcases kinds hj with rfl | rfl | rfl | rfl | rfl | rfl | rfl | rfl | rfl | rfl | rfl | rfl <;> first | rfl | (exact absurd h (by decide))
/-- What a letter names. -/
def Act.get (a : Act) (c : UInt8) : Int := if c = 97 then a.a else if c = 98 then a.b else if c = 110 then a.n else if c = 120 then a.x else a.y
def Act.set (a : Act) (c : UInt8) (v : Int) : Act := if c = 97 then { a with a := v } else if c = 98 then { a with b := v } else if c = 110 then { a with n := v } else if c = 120 then { a with x := v } else { a with y := v }
/-- A digit of sixteen. -/
def hexD (d : Nat) : UInt8 := if d < 10 then UInt8.ofNat (48 + d) else UInt8.ofNat (87 + d)
theorem hexD_fin : ∀ d : Fin 16, (hexD d.1).toNat = if d.1 < 10 then 48 + d.1 else 87 + d.1 := by decide
theorem hexD_nat {d : Nat} (h : d < 16) : (hexD d).toNat = if d < 10 then 48 + d else 87 + d := hexD_fin ⟨d, h⟩
theorem hexD_inj {d e : Nat} (hd : d < 16) (he : e < 16) (h : hexD d = hexD e) : d = e := by
  have := congrArg UInt8.toNat h
  rw [hexD_nat hd, hexD_nat he] at this
  split at this <;> split at this <;> omega
/-- Bytes as digits. -/
def hexs (l : List UInt8) : List UInt8 := l.flatMap fun c => [hexD (c.toNat / 16), hexD (c.toNat % 16)]
theorem hexs_cons (c : UInt8) (l : List UInt8) : hexs (c :: l) = hexD (c.toNat / 16) :: hexD (c.toNat % 16) :: hexs l := rfl
theorem hexs_len (l : List UInt8) : (hexs l).length = 2 * l.length := by
  induction l with
  | nil => rfl
  | cons c l ih => rw [hexs_cons, List.length_cons, List.length_cons, List.length_cons, ih]; omega
theorem hexs_inj : ∀ {l m : List UInt8}, hexs l = hexs m → l = m
  | [], [], _ => rfl
  | [], _ :: _, h => by simp [hexs] at h
  | _ :: _, [], h => by simp [hexs] at h
  | c :: l, d :: m, h => by
    rw [hexs_cons, hexs_cons] at h
    injection h with h1 h
    injection h with h2 h
    have hc := c.toNat_lt
    have hd := d.toNat_lt
    have e1 := hexD_inj (by omega) (by omega) h1
    have e2 := hexD_inj (by omega) (by omega) h2
    rw [hexs_inj h, UInt8.toNat_inj.1 (show c.toNat = d.toNat by omega)]
theorem hexs_mem {l : List UInt8} {x : UInt8} (h : x ∈ hexs l) : 48 ≤ x.toNat ∧ x.toNat ≤ 102 := by
  unfold hexs at h
  obtain ⟨c, _, hx⟩ := List.mem_flatMap.1 h
  have hc := c.toNat_lt
  simp at hx
  rcases hx with rfl | rfl
  · rw [hexD_nat (by omega)]; split <;> omega
  · rw [hexD_nat (by omega)]; split <;> omega
/-- A tear's word. -/
def tearW (t : Tear) : List UInt8 := if t.k = 0 then [108, 111, 115, 116] else if t.k = 1 then [107, 101, 112, 116] else 61 :: hexs t.b
/-- May a tear be? -/
def TearOk (t : Tear) : Prop := (t.k = 0 ∧ t.b = []) ∨ (t.k = 1 ∧ t.b = []) ∨ (t.k = 2 ∧ t.b ≠ [] ∧ t.b.length ≤ 40)
theorem tearW_inj {t u : Tear} (ht : TearOk t) (hu : TearOk u) (h : tearW t = tearW u) : t = u := by
  obtain ⟨k, b⟩ := t
  obtain ⟨j, c⟩ := u
  unfold tearW at h
  rcases ht with ⟨rfl, rfl⟩ | ⟨rfl, rfl⟩ | ⟨rfl, h1, _⟩ <;> rcases hu with ⟨rfl, rfl⟩ | ⟨rfl, rfl⟩ | ⟨rfl, h2, _⟩ <;> simp at h <;> first | rfl | (rw [hexs_inj h])
theorem tearW_no {t : Tear} {x : UInt8} (h : x ∈ tearW t) : x.toNat ≠ 32 ∧ x.toNat ≠ 10 := by
  unfold tearW at h
  split at h
  · simp at h; rcases h with rfl | rfl | rfl | rfl <;> decide
  · split at h
    · simp at h; rcases h with rfl | rfl | rfl | rfl <;> decide
    · rcases List.mem_cons.1 h with rfl | h
      · decide
      · have := hexs_mem h; omega
/-- A number's word. -/
abbrev itw (n : Int) : List UInt8 := Lib.itoa n
/-- The words behind the first one. -/
def pw (a : Act) (ps : List UInt8) : List (List UInt8) := ps.flatMap fun c => if c = 116 then a.t.map tearW else [itw (a.get c)]
def wordsOf (a : Act) : List (List UInt8) := (form a.k).1 :: pw a (form a.k).2
/-- Is a number one that may be? -/
def In (n : Int) : Prop := 0 ≤ n ∧ n ≤ 1073741824
/-- An act with just what its line names. -/
def bare (a : Act) : Act :=
  if a.k = 2 then { zAct with k := a.k, a := a.a, b := a.b, x := a.x, y := a.y }
  else if a.k = 3 then { zAct with k := a.k, a := a.a, b := a.b }
  else if a.k = 5 ∨ a.k = 6 ∨ a.k = 7 then { zAct with k := a.k, a := a.a, b := a.b, n := a.n }
  else if a.k = 8 then { zAct with k := a.k, a := a.a, n := a.n }
  else if a.k = 9 then { zAct with k := a.k, a := a.a, t := a.t }
  else { zAct with k := a.k, a := a.a }
/-- May an act be? -/
structure MayA (a : Act) : Prop where
  ik : 1 ≤ a.k ∧ a.k ≤ 12
  ia : In a.a
  ib : In a.b
  ic : In a.n
  ix : In a.x
  iy : In a.y
  il : a.t.length ≤ 8
  it : ∀ t ∈ a.t, TearOk t
  ie : a = bare a
/-- A line's text. -/
def lineT (a : Act) : List UInt8 := glue 32 (wordsOf a)
def IsLine (l : List UInt8) (a : Act) : Prop := MayA a ∧ l = lineT a
theorem in_get {a : Act} (h : MayA a) (c : UInt8) : In (a.get c) := by
  unfold Act.get
  split
  · exact h.ia
  · split
    · exact h.ib
    · split
      · exact h.ic
      · split
        · exact h.ix
        · exact h.iy
theorem itw_in {n : Int} (h : In n) : itw n = dd n.toNat ∧ n.toNat ≤ 1073741824 := by
  obtain ⟨m, rfl⟩ := Int.eq_ofNat_of_zero_le h.1
  exact ⟨itoa_nat m, by have := h.2; omega⟩
theorem itw_no {n : Int} (h : In n) {x : UInt8} (hx : x ∈ itw n) : x.toNat ≠ 32 ∧ x.toNat ≠ 10 := by
  rw [(itw_in h).1] at hx
  have := dd_digits _ x hx
  omega
theorem form_no {k : Int} {x : UInt8} (h : x ∈ (form k).1) : x.toNat ≠ 32 ∧ x.toNat ≠ 10 := by
  by_cases hk : 1 ≤ k ∧ k ≤ 12
  · rcases kinds hk with rfl | rfl | rfl | rfl | rfl | rfl | rfl | rfl | rfl | rfl | rfl | rfl <;>
      (simp [form] at h; rcases h with rfl | rfl | rfl | rfl | rfl | rfl <;> decide)
  · have e : form k = ([], []) := by
      unfold form
      repeat rw [if_neg (by omega)]
    rw [e] at h
    simp at h
theorem words_no {a : Act} (h : MayA a) : ∀ w ∈ wordsOf a, ∀ x ∈ w, x.toNat ≠ 32 ∧ x.toNat ≠ 10 := by
  intro w hw x hx
  unfold wordsOf at hw
  rcases List.mem_cons.1 hw with rfl | hw
  · exact form_no hx
  · unfold pw at hw
    obtain ⟨c, _, hc⟩ := List.mem_flatMap.1 hw
    split at hc
    · obtain ⟨t, _, rfl⟩ := List.mem_map.1 hc
      exact tearW_no hx
    · obtain rfl := List.mem_singleton.1 hc
      exact itw_no (in_get h c) hx
/-- Words with no parting byte in them are parted as they were. -/
theorem pieces_glue {c : UInt8} : ∀ {ws : List (List UInt8)}, ws ≠ [] → (∀ w ∈ ws, c ∉ w) → pieces c (glue c ws) = ws
  | [], h, _ => absurd rfl h
  | [w], _, h => pieces_none (h w (by simp))
  | w :: x :: r, _, h => by
    rw [glue_cons c w _ (by simp), pieces_some (h w (by simp)), pieces_glue (by simp) (fun y hy => h y (List.mem_cons_of_mem _ hy))]
theorem line_pieces {a : Act} (h : MayA a) : pieces 32 (lineT a) = wordsOf a :=
  pieces_glue (by unfold wordsOf; simp) (fun w hw hc => (words_no h w hw 32 hc).1 (by decide))
theorem isLine_iff {l : List UInt8} {a : Act} : IsLine l a ↔ MayA a ∧ wordsOf a = pieces 32 l := by
  constructor
  · rintro ⟨h, rfl⟩
    exact ⟨h, (line_pieces h).symm⟩
  · rintro ⟨h, e⟩
    refine ⟨h, ?_⟩
    unfold lineT
    rw [e, glue_pieces]
theorem line_ne {a : Act} (h : MayA a) : lineT a ≠ [] ∧ ∀ x ∈ lineT a, x ≠ 10 := by
  have hf : (form a.k).1 ≠ [] := by
    rcases kinds h.ik with e | e | e | e | e | e | e | e | e | e | e | e <;> rw [e] <;> decide
  refine ⟨fun e => ?_, fun x hx e => ?_⟩
  · have h2 := line_pieces h
    rw [e] at h2
    unfold wordsOf at h2
    injection h2 with h2 _
    exact hf h2.symm
  · subst e
    have key : ∀ (ws : List (List UInt8)) (x : UInt8), x ∈ glue 32 ws → x = 32 ∨ ∃ w ∈ ws, x ∈ w := by
      intro ws
      induction ws with
      | nil => intro x hx; cases hx
      | cons w r ih =>
        intro x hx
        cases r with
        | nil => exact Or.inr ⟨w, by simp, hx⟩
        | cons y r =>
          rw [glue_cons 32 w _ (by simp)] at hx
          rcases List.mem_append.1 hx with hx | hx
          · exact Or.inr ⟨w, by simp, hx⟩
          · rcases List.mem_cons.1 hx with rfl | hx
            · exact Or.inl rfl
            · rcases ih x hx with h | ⟨v, hv, hx⟩
              · exact Or.inl h
              · exact Or.inr ⟨v, List.mem_cons_of_mem _ hv, hx⟩
    rcases key _ _ hx with h | ⟨w, hw, hx⟩
    · exact absurd h (by decide)
    · exact (words_no h w hw 10 hx).2 (by decide)
end Go.Proofs.YtagpkphehkfjgaaDoor.Sc

namespace Go.Proofs.YtagpkphehkfjgaaDoor.Sc
open Go.Proofs.YtagpkphehkfjgaaDoor.Px
theorem itw_inj {n m : Int} (hn : In n) (hm : In m) (h : itw n = itw m) : n = m := by
  rw [(itw_in hn).1, (itw_in hm).1] at h
  have := dd_inj h
  have := hn.1
  have := hm.1
  omega
theorem tears_inj : ∀ {l m : List Tear}, (∀ t ∈ l, TearOk t) → (∀ t ∈ m, TearOk t) → l.map tearW = m.map tearW → l = m
  | [], [], _, _, _ => rfl
  | [], _ :: _, _, _, h => by simp at h
  | _ :: _, [], _, _, h => by simp at h
  | t :: l, u :: m, hl, hm, h => by
    rw [List.map_cons, List.map_cons] at h
    injection h with h1 h2
    rw [tearW_inj (hl t (by simp)) (hm u (by simp)) h1, tears_inj (fun x hx => hl x (List.mem_cons_of_mem _ hx)) (fun x hx => hm x (List.mem_cons_of_mem _ hx)) h2]
theorem pw_inj {a b : Act} (ha : MayA a) (hb : MayA b) (hk : a.k = b.k) (h : pw a (form a.k).2 = pw b (form b.k).2) : a = b := by
  rw [ha.ie, hb.ie]
  unfold bare
  rw [← hk] at h ⊢
  rcases kinds ha.ik with e | e | e | e | e | e | e | e | e | e | e | e <;> rw [e] at h ⊢ <;> simp [form, pw, Act.get] at h ⊢
  case inl => exact itw_inj ha.ia hb.ia h
  case inr.inl => exact ⟨itw_inj ha.ia hb.ia h.1, itw_inj ha.ib hb.ib h.2.1, itw_inj ha.ix hb.ix h.2.2.1, itw_inj ha.iy hb.iy h.2.2.2⟩
  case inr.inr.inl => exact ⟨itw_inj ha.ia hb.ia h.1, itw_inj ha.ib hb.ib h.2⟩
  case inr.inr.inr.inl => exact itw_inj ha.ia hb.ia h
  case inr.inr.inr.inr.inl => exact ⟨itw_inj ha.ia hb.ia h.1, itw_inj ha.ib hb.ib h.2.1, itw_inj ha.ic hb.ic h.2.2⟩
  case inr.inr.inr.inr.inr.inl => exact ⟨itw_inj ha.ia hb.ia h.1, itw_inj ha.ib hb.ib h.2.1, itw_inj ha.ic hb.ic h.2.2⟩
  case inr.inr.inr.inr.inr.inr.inl => exact ⟨itw_inj ha.ia hb.ia h.1, itw_inj ha.ib hb.ib h.2.1, itw_inj ha.ic hb.ic h.2.2⟩
  case inr.inr.inr.inr.inr.inr.inr.inl => exact ⟨itw_inj ha.ia hb.ia h.1, itw_inj ha.ic hb.ic h.2⟩
  case inr.inr.inr.inr.inr.inr.inr.inr.inl => exact ⟨itw_inj ha.ia hb.ia h.1, tears_inj ha.it hb.it h.2⟩
  all_goals exact itw_inj ha.ia hb.ia h
theorem words_inj {a b : Act} (ha : MayA a) (hb : MayA b) (h : wordsOf a = wordsOf b) : a = b := by
  unfold wordsOf at h
  injection h with h1 h2
  exact pw_inj ha hb (form_inj ha.ik hb.ik h1) h2
theorem line_unique {l : List UInt8} {a b : Act} (ha : IsLine l a) (hb : IsLine l b) : a = b :=
  words_inj ha.1 hb.1 ((isLine_iff.1 ha).2.trans (isLine_iff.1 hb).2.symm)
/-- The act of a line. -/
noncomputable def lineA (l : List UInt8) : Option Act := open Classical in if h : ∃ a, IsLine l a then some (Classical.choose h) else none
theorem lineA_some {l : List UInt8} {a : Act} (h : IsLine l a) : lineA l = some a := by
  unfold lineA
  rw [dif_pos ⟨a, h⟩]
  exact congrArg some (line_unique (Classical.choose_spec (⟨a, h⟩ : ∃ a, IsLine l a)) h)
theorem lineA_none {l : List UInt8} (h : ∀ a, ¬ IsLine l a) : lineA l = none := by
  unfold lineA
  rw [dif_neg (fun ⟨a, ha⟩ => h a ha)]
theorem lineA_is {l : List UInt8} {a : Act} (h : lineA l = some a) : IsLine l a := by
  by_cases hh : ∃ b, IsLine l b
  · obtain ⟨b, hb⟩ := hh
    rw [lineA_some hb] at h
    injection h with h
    rw [← h]; exact hb
  · rw [lineA_none (fun a ha => hh ⟨a, ha⟩)] at h
    cases h
/-! What the reference guesses. -/
def gnum (ws : List (List UInt8)) (i : Nat) : Nat := match ws[i]? with
  | none => 0
  | some w => rnum 11 w
def dg (c : UInt8) : UInt8 := if 97 ≤ c.toNat then c - 87 else c - 48
def unhex : List UInt8 → List UInt8
  | x :: y :: r => (dg x * 16 + dg y) :: unhex r
  | _ => []
set_option maxRecDepth 100000 in
theorem dg_fin : ∀ c : Fin 256, dg (hexD (c.1 / 16)) * 16 + dg (hexD (c.1 % 16)) = UInt8.ofNat c.1 := by decide
theorem dg_byte (c : UInt8) : dg (hexD (c.toNat / 16)) * 16 + dg (hexD (c.toNat % 16)) = c := by
  have := dg_fin ⟨c.toNat, c.toNat_lt⟩
  rw [this]
  exact UInt8.ofNat_toNat
theorem unhex_hexs (l : List UInt8) : unhex (hexs l) = l := by
  induction l with
  | nil => rfl
  | cons c l ih =>
    rw [hexs_cons]
    unfold unhex
    rw [ih, dg_byte]
def tearG (s : List UInt8) : Tear := if s = [108, 111, 115, 116] then ⟨0, []⟩ else if s = [107, 101, 112, 116] then ⟨1, []⟩ else ⟨2, unhex (s.drop 1)⟩
theorem tearG_ok {t : Tear} (h : TearOk t) : tearG (tearW t) = t := by
  obtain ⟨k, b⟩ := t
  unfold tearW tearG
  rcases h with ⟨rfl, rfl⟩ | ⟨rfl, rfl⟩ | ⟨rfl, h1, _⟩
  · simp
  · simp
  · simp [unhex_hexs]
def guessL (ws : List (List UInt8)) (k : Int) : Act :=
  if k = 2 then { zAct with k := k, a := gnum ws 1, b := gnum ws 2, x := gnum ws 3, y := gnum ws 4 }
  else if k = 3 then { zAct with k := k, a := gnum ws 1, b := gnum ws 2 }
  else if k = 5 ∨ k = 6 ∨ k = 7 then { zAct with k := k, a := gnum ws 1, b := gnum ws 2, n := gnum ws 3 }
  else if k = 8 then { zAct with k := k, a := gnum ws 1, n := gnum ws 2 }
  else if k = 9 then { zAct with k := k, a := gnum ws 1, t := ((ws.drop 2).take 9).map tearG }
  else { zAct with k := k, a := gnum ws 1 }
theorem gnum_in {ws : List (List UInt8)} {i : Nat} {n : Int} (h : In n) (hw : ws[i]? = some (itw n)) : (gnum ws i : Int) = n := by
  unfold gnum
  rw [hw]
  simp only []
  rw [(itw_in h).1, rnum_dd (dd_len10 10 (by have := (itw_in h).2; omega))]
  have := h.1
  omega
theorem tears_back {l : List Tear} (h : ∀ t ∈ l, TearOk t) (hl : l.length ≤ 8) : ((l.map tearW).take 9).map tearG = l := by
  rw [List.take_of_length_le (by simp; omega), List.map_map]
  conv => rhs; rw [← List.map_id l]
  exact List.map_congr_left fun t ht => tearG_ok (h t ht)
theorem guess_words {a : Act} (h : MayA a) : guessL (wordsOf a) a.k = a := by
  conv => rhs; rw [h.ie]
  unfold bare guessL
  rcases kinds h.ik with e | e | e | e | e | e | e | e | e | e | e | e <;> rw [e] <;> simp
  case inl => exact gnum_in h.ia (by simp [wordsOf, e, form, pw, Act.get])
  case inr.inl => exact ⟨gnum_in h.ia (by simp [wordsOf, e, form, pw, Act.get]), gnum_in h.ib (by simp [wordsOf, e, form, pw, Act.get]), gnum_in h.ix (by simp [wordsOf, e, form, pw, Act.get]), gnum_in h.iy (by simp [wordsOf, e, form, pw, Act.get])⟩
  case inr.inr.inl => exact ⟨gnum_in h.ia (by simp [wordsOf, e, form, pw, Act.get]), gnum_in h.ib (by simp [wordsOf, e, form, pw, Act.get])⟩
  case inr.inr.inr.inl => exact gnum_in h.ia (by simp [wordsOf, e, form, pw, Act.get])
  case inr.inr.inr.inr.inl => exact ⟨gnum_in h.ia (by simp [wordsOf, e, form, pw, Act.get]), gnum_in h.ib (by simp [wordsOf, e, form, pw, Act.get]), gnum_in h.ic (by simp [wordsOf, e, form, pw, Act.get])⟩
  case inr.inr.inr.inr.inr.inl => exact ⟨gnum_in h.ia (by simp [wordsOf, e, form, pw, Act.get]), gnum_in h.ib (by simp [wordsOf, e, form, pw, Act.get]), gnum_in h.ic (by simp [wordsOf, e, form, pw, Act.get])⟩
  case inr.inr.inr.inr.inr.inr.inl => exact ⟨gnum_in h.ia (by simp [wordsOf, e, form, pw, Act.get]), gnum_in h.ib (by simp [wordsOf, e, form, pw, Act.get]), gnum_in h.ic (by simp [wordsOf, e, form, pw, Act.get])⟩
  case inr.inr.inr.inr.inr.inr.inr.inl => exact ⟨gnum_in h.ia (by simp [wordsOf, e, form, pw, Act.get]), gnum_in h.ic (by simp [wordsOf, e, form, pw, Act.get])⟩
  case inr.inr.inr.inr.inr.inr.inr.inr.inl =>
    refine ⟨gnum_in h.ia (by simp [wordsOf, e, form, pw, Act.get]), ?_⟩
    have hw : (wordsOf a).drop 2 = a.t.map tearW := by simp [wordsOf, e, form, pw, Act.get]
    rw [← List.map_drop, hw, ← List.map_take]
    exact tears_back h.it h.il
  all_goals exact gnum_in h.ia (by simp [wordsOf, e, form, pw, Act.get])
/-! The acts of a text, line by line: the acts, or none; the line that is none first; the error. -/
noncomputable def getF : List (List UInt8) → List Act → List Act × Nat × Nat
  | [], done => (done, 0, 0)
  | [l], done => if l = [] then (done, 0, 0) else ([], done.length + 1, 2)
  | l :: m :: r, done => match lineA l with
    | none => ([], done.length + 1, 2)
    | some a => if done.length = 400 then ([], done.length + 1, 2) else getF (m :: r) (done ++ [a])
end Go.Proofs.YtagpkphehkfjgaaDoor.Sc
