/- A cable with its two queues, and two lists of the law's own: what each call leaves of them. -/
import Derived.Test.YthimnnnfgangbaaCbD
set_option linter.unusedVariables false
set_option linter.unusedSimpArgs false
namespace Go.Proofs.Ythimnnnfgangbaa.Cb
open Go.RowKit Go.Proofs.YthimnnnfgangbaaW.PrintWords Go.Proofs.YthimnnnfgangbaaW.PrintLast Go.Proofs.YthimnnnfgangbaaW.PrintMore Go.Proofs.Ythimnnnfgangbaa.Qu

theorem QL.recast {B : Nat} {w w' : World} {g : Nat} {v : Value} {xs : List (List Int)} {ok ok' : Nat → Prop} (h : QL B w g v xs ok) (hg : w'.heap[g]? = w.heap[g]?) (hm : ∀ k, ok k → k < w.heap.size → w'.heap[k]? = w.heap[k]?) (ho : ∀ k, ok k → k < w.heap.size → ok' k) (hn : ∀ k, ok' k → k ≠ g) : QL B w' g v xs ok' :=
  ⟨hg.trans h.1, h.2.1, Kd.N_mono (Kd.N_step (Kd.N_bound h.2.2.1) (fun k hk hlt => hm k hk.1 hlt)) (fun k hk => ho k hk.1 hk.2), hn⟩
theorem N_recast {B : Nat} {w w' : World} {v : Value} {xs : List (List Int)} {ok ok' : Nat → Prop} (h : Kd.N kT 22 w B ok v xs) (hm : ∀ k, ok k → k < w.heap.size → w'.heap[k]? = w.heap[k]?) (ho : ∀ k, ok k → k < w.heap.size → ok' k) : Kd.N kT 22 w' B ok' v xs :=
  Kd.N_mono (Kd.N_step (Kd.N_bound h) (fun k hk hlt => hm k hk.1 hlt)) (fun k hk => ho k hk.1 hk.2)

/-- The cable at g with queues at q0 and q1 (texts xA, xB), and the lists lA, lB (texts yA, yB). A block's colour says whose it is: 1, 2 the queues', 3, 4 the lists'. -/
structure St (B : Nat) (W : World) (g : Nat) (a b : Int) (up : Bool) (c0 c1 : Int) (q0 q1 : Nat) (v0 v1 lA lB : Value) (xA xB yA yB : List (List Int)) (col : Nat → Nat) : Prop where
  cb : CB W g a b up c0 c1 (some ⟨q0, 0, none⟩) (some ⟨q1, 0, none⟩)
  h0 : QL B W q0 v0 xA (fun k => col k = 1)
  h1 : QL B W q1 v1 xB (fun k => col k = 2)
  nA : Kd.N kT 22 W B (fun k => col k = 3 ∨ k < B) lA yA
  nB : Kd.N kT 22 W B (fun k => col k = 4 ∨ k < B) lB yB
  cg : col g = 0
  e0 : col q0 = 0
  e1 : col q1 = 0
  bg : B ≤ g
  ne : q0 ≠ q1

section
variable {B : Nat} {W W' : World} {g : Nat} {a b : Int} {up : Bool} {c0 c1 : Int} {q0 q1 : Nat} {v0 v1 lA lB : Value} {xA xB yA yB : List (List Int)} {col : Nat → Nat}
theorem St.below (h : St B W g a b up c0 c1 q0 q1 v0 v1 lA lB xA xB yA yB col) (hb : Below W.heap.size W W') : St B W' g a b up c0 c1 q0 q1 v0 v1 lA lB xA xB yA yB col :=
  ⟨h.cb.below hb, h.h0.below hb, h.h1.below hb, Kd.N_below h.nA hb, Kd.N_below h.nB hb, h.cg, h.e0, h.e1, h.bg, h.ne⟩
theorem St.gq0 (h : St B W g a b up c0 c1 q0 q1 v0 v1 lA lB xA xB yA yB col) : g ≠ q0 := by
  intro e
  have h1 := h.h0.1
  rw [← e, show W.heap[g]? = _ from h.cb] at h1
  simp at h1
theorem St.gq1 (h : St B W g a b up c0 c1 q0 q1 v0 v1 lA lB xA xB yA yB col) : g ≠ q1 := by
  intro e
  have h1 := h.h1.1
  rw [← e, show W.heap[g]? = _ from h.cb] at h1
  simp at h1
/-- Blocks that are new take a colour. -/
def recol (W : World) (col : Nat → Nat) (c : Nat) : Nat → Nat := fun k => if k < W.heap.size then col k else c
theorem recol_old {c k : Nat} (h : k < W.heap.size) : recol W col c k = col k := if_pos h
theorem recol_new {c k : Nat} (h : W.heap.size ≤ k) : recol W col c k = c := if_neg (by omega)
theorem St.lt0 (h : St B W g a b up c0 c1 q0 q1 v0 v1 lA lB xA xB yA yB col) : q0 < W.heap.size := blk_lt h.h0.1
theorem St.lt1 (h : St B W g a b up c0 c1 q0 q1 v0 v1 lA lB xA xB yA yB col) : q1 < W.heap.size := blk_lt h.h1.1
theorem St.ltg (h : St B W g a b up c0 c1 q0 q1 v0 v1 lA lB xA xB yA yB col) : g < W.heap.size := blk_lt h.cb

/-- The first queue has turned. -/
theorem St.queue0 {v0' : Value} {xA' : List (List Int)} {ok' : Nat → Prop} (h : St B W g a b up c0 c1 q0 q1 v0 v1 lA lB xA xB yA yB col) (hq : QL B W' q0 v0' xA' ok') (ho : ∀ k, ok' k → col k = 1 ∨ W.heap.size ≤ k) (hk : Kq B W W' q0 v0 v0') :
    St B W' g a b up c0 c1 q0 q1 v0' v1 lA lB xA' xB yA yB (recol W col 1) := by
  have own : ∀ k, v0.ownBlock = some k → col k = 1 ∧ B ≤ k := fun k e => ⟨h.h0.2.2.1.1 k e, Kd.N_base h.h0.2.2.1 k e⟩
  have keep : ∀ k, k < W.heap.size → k ≠ q0 → v0.ownBlock ≠ some k → W'.heap[k]? = W.heap[k]? := fun k h1 h2 h3 => hk.2.1.2 k h1 h2 (fun e => h3 e.symm)
  have hq0B := h.h0.2.1
  refine ⟨(keep g h.ltg h.gq0 (fun e => by have := (own g e).1; have := h.cg; omega)).trans h.cb, ⟨hq.1, hq.2.1, Kd.N_mono hq.2.2.1 (fun k hk' => ?_), fun k hk' e => ?_⟩, ?_, ?_, ?_, (recol_old h.ltg).trans h.cg, (recol_old h.lt0).trans h.e0, (recol_old h.lt1).trans h.e1, h.bg, h.ne⟩
  · rcases Nat.lt_or_ge k W.heap.size with hlt | hge
    · rw [recol_old hlt]
      rcases ho k hk' with e | e
      · exact e
      · omega
    · exact recol_new hge
  · subst e
    have h2 : recol W col 1 k = 1 := hk'
    rw [recol_old h.lt0, h.e0] at h2
    omega
  · refine QL.recast h.h1 (keep q1 h.lt1 h.ne.symm (fun e => by have := (own q1 e).1; have := h.e1; omega)) (fun k hk' hlt => keep k hlt (fun e => by subst e; have := h.e0; omega) (fun e => by have := (own k e).1; omega)) (fun k hk' hlt => (recol_old hlt).trans hk') (fun k hk' e => ?_)
    subst e
    rw [recol_old h.lt1, h.e1] at hk'
    omega
  · refine N_recast h.nA (fun k hk' hlt => keep k hlt (fun e => ?_) (fun e => ?_)) (fun k hk' hlt => ?_)
    · subst e
      rcases hk' with hk' | hk'
      · have := h.e0; omega
      · omega
    · have := own k e
      rcases hk' with hk' | hk' <;> omega
    · rw [recol_old hlt]; exact hk'
  · refine N_recast h.nB (fun k hk' hlt => keep k hlt (fun e => ?_) (fun e => ?_)) (fun k hk' hlt => ?_)
    · subst e
      rcases hk' with hk' | hk'
      · have := h.e0; omega
      · omega
    · have := own k e
      rcases hk' with hk' | hk' <;> omega
    · rw [recol_old hlt]; exact hk'
/-- The second queue has turned. -/
theorem St.queue1 {v1' : Value} {xB' : List (List Int)} {ok' : Nat → Prop} (h : St B W g a b up c0 c1 q0 q1 v0 v1 lA lB xA xB yA yB col) (hq : QL B W' q1 v1' xB' ok') (ho : ∀ k, ok' k → col k = 2 ∨ W.heap.size ≤ k) (hk : Kq B W W' q1 v1 v1') :
    St B W' g a b up c0 c1 q0 q1 v0 v1' lA lB xA xB' yA yB (recol W col 2) := by
  have own : ∀ k, v1.ownBlock = some k → col k = 2 ∧ B ≤ k := fun k e => ⟨h.h1.2.2.1.1 k e, Kd.N_base h.h1.2.2.1 k e⟩
  have keep : ∀ k, k < W.heap.size → k ≠ q1 → v1.ownBlock ≠ some k → W'.heap[k]? = W.heap[k]? := fun k h1 h2 h3 => hk.2.1.2 k h1 h2 (fun e => h3 e.symm)
  have hq1B := h.h1.2.1
  refine ⟨(keep g h.ltg h.gq1 (fun e => by have := (own g e).1; have := h.cg; omega)).trans h.cb, ?_, ⟨hq.1, hq.2.1, Kd.N_mono hq.2.2.1 (fun k hk' => ?_), fun k hk' e => ?_⟩, ?_, ?_, (recol_old h.ltg).trans h.cg, (recol_old h.lt0).trans h.e0, (recol_old h.lt1).trans h.e1, h.bg, h.ne⟩
  · refine QL.recast h.h0 (keep q0 h.lt0 h.ne (fun e => by have := (own q0 e).1; have := h.e0; omega)) (fun k hk' hlt => keep k hlt (fun e => by subst e; have := h.e1; omega) (fun e => by have := (own k e).1; omega)) (fun k hk' hlt => (recol_old hlt).trans hk') (fun k hk' e => ?_)
    subst e
    rw [recol_old h.lt0, h.e0] at hk'
    omega
  · rcases Nat.lt_or_ge k W.heap.size with hlt | hge
    · rw [recol_old hlt]
      rcases ho k hk' with e | e
      · exact e
      · omega
    · exact recol_new hge
  · subst e
    have h2 : recol W col 2 k = 2 := hk'
    rw [recol_old h.lt1, h.e1] at h2
    omega
  · refine N_recast h.nA (fun k hk' hlt => keep k hlt (fun e => ?_) (fun e => ?_)) (fun k hk' hlt => ?_)
    · subst e
      rcases hk' with hk' | hk'
      · have := h.e1; omega
      · omega
    · have := own k e
      rcases hk' with hk' | hk' <;> omega
    · rw [recol_old hlt]; exact hk'
  · refine N_recast h.nB (fun k hk' hlt => keep k hlt (fun e => ?_) (fun e => ?_)) (fun k hk' hlt => ?_)
    · subst e
      rcases hk' with hk' | hk'
      · have := h.e1; omega
      · omega
    · have := own k e
      rcases hk' with hk' | hk' <;> omega
    · rw [recol_old hlt]; exact hk'
theorem St.recolor {col' : Nat → Nat} (h : St B W g a b up c0 c1 q0 q1 v0 v1 lA lB xA xB yA yB col) (hc : ∀ k, k < W.heap.size → col' k = col k) (h1 : ∀ k, W.heap.size ≤ k → col' k ≠ 0) : St B W g a b up c0 c1 q0 q1 v0 v1 lA lB xA xB yA yB col' := by
  refine ⟨h.cb, QL.recast h.h0 rfl (fun _ _ _ => rfl) (fun k hk hlt => (hc k hlt).trans hk) (fun k hk e => ?_), QL.recast h.h1 rfl (fun _ _ _ => rfl) (fun k hk hlt => (hc k hlt).trans hk) (fun k hk e => ?_), N_recast h.nA (fun _ _ _ => rfl) (fun k hk hlt => by rw [hc k hlt]; exact hk), N_recast h.nB (fun _ _ _ => rfl) (fun k hk hlt => by rw [hc k hlt]; exact hk), (hc g h.ltg).trans h.cg, (hc q0 h.lt0).trans h.e0, (hc q1 h.lt1).trans h.e1, h.bg, h.ne⟩
  · subst e
    have := hc k h.lt0
    have := h.e0
    omega
  · subst e
    have := hc k h.lt1
    have := h.e1
    omega
theorem St.B_le (h : St B W g a b up c0 c1 q0 q1 v0 v1 lA lB xA xB yA yB col) : B ≤ W.heap.size := Nat.le_trans h.bg (Nat.le_of_lt h.ltg)
/-- The first list has turned. -/
theorem St.listA {lA' : Value} {yA' : List (List Int)} {ok' : Nat → Prop} (h : St B W g a b up c0 c1 q0 q1 v0 v1 lA lB xA xB yA yB col) (hb : Below W.heap.size W W') (hn : Kd.N kT 22 W' W.heap.size ok' lA' yA') (ho : ∀ k, ok' k → (col k = 3 ∨ k < B) ∨ W.heap.size ≤ k) :
    St B W' g a b up c0 c1 q0 q1 v0 v1 lA' lB xA xB yA' yB (recol W col 3) := by
  have h' := (h.recolor (col' := recol W col 3) (fun k hk => recol_old hk) (fun k hk => by rw [recol_new hk]; decide)).below hb
  have hB := h.B_le
  refine ⟨h'.cb, h'.h0, h'.h1, Kd.N_mono (Kd.N_lower hn hB) (fun k hk => ?_), h'.nB, h'.cg, h'.e0, h'.e1, h'.bg, h'.ne⟩
  rcases Nat.lt_or_ge k W.heap.size with hlt | hge
  · rw [recol_old hlt]
    rcases ho k hk with e | e
    · exact e
    · omega
  · exact .inl (recol_new hge)
/-- The second list has turned. -/
theorem St.listB {lB' : Value} {yB' : List (List Int)} {ok' : Nat → Prop} (h : St B W g a b up c0 c1 q0 q1 v0 v1 lA lB xA xB yA yB col) (hb : Below W.heap.size W W') (hn : Kd.N kT 22 W' W.heap.size ok' lB' yB') (ho : ∀ k, ok' k → (col k = 4 ∨ k < B) ∨ W.heap.size ≤ k) :
    St B W' g a b up c0 c1 q0 q1 v0 v1 lA lB' xA xB yA yB' (recol W col 4) := by
  have h' := (h.recolor (col' := recol W col 4) (fun k hk => recol_old hk) (fun k hk => by rw [recol_new hk]; decide)).below hb
  have hB := h.B_le
  refine ⟨h'.cb, h'.h0, h'.h1, h'.nA, Kd.N_mono (Kd.N_lower hn hB) (fun k hk => ?_), h'.cg, h'.e0, h'.e1, h'.bg, h'.ne⟩
  rcases Nat.lt_or_ge k W.heap.size with hlt | hge
  · rw [recol_old hlt]
    rcases ho k hk with e | e
    · exact e
    · omega
  · exact .inl (recol_new hge)
/-- The cable's own block has turned. -/
theorem St.head {up' : Bool} {c0' c1' : Int} (h : St B W g a b up c0 c1 q0 q1 v0 v1 lA lB xA xB yA yB col) (hc : CB W' g a b up' c0' c1' (some ⟨q0, 0, none⟩) (some ⟨q1, 0, none⟩)) (hk : KeepBut W W' g none) : St B W' g a b up' c0' c1' q0 q1 v0 v1 lA lB xA xB yA yB col := by
  have keep : ∀ k, k < W.heap.size → k ≠ g → W'.heap[k]? = W.heap[k]? := fun k h1 h2 => hk.2 k h1 h2 (by simp)
  have hbg := h.bg
  refine ⟨hc, QL.recast h.h0 (keep q0 h.lt0 h.gq0.symm) (fun k hk hlt => keep k hlt (fun e => by subst e; have := h.cg; omega)) (fun k hk _ => hk) h.h0.2.2.2, QL.recast h.h1 (keep q1 h.lt1 h.gq1.symm) (fun k hk hlt => keep k hlt (fun e => by subst e; have := h.cg; omega)) (fun k hk _ => hk) h.h1.2.2.2, ?_, ?_, h.cg, h.e0, h.e1, h.bg, h.ne⟩
  · refine N_recast h.nA (fun k hk' hlt => keep k hlt (fun e => ?_)) (fun k hk' _ => hk')
    subst e
    have := h.cg
    rcases hk' with hk' | hk' <;> omega
  · refine N_recast h.nB (fun k hk' hlt => keep k hlt (fun e => ?_)) (fun k hk' _ => hk')
    subst e
    have := h.cg
    rcases hk' with hk' | hk' <;> omega
/-- All is emptied. -/
theorem St.empty {up' : Bool} {c0' c1' : Int} (h : St B W g a b up c0 c1 q0 q1 v0 v1 lA lB xA xB yA yB col) (hc : CB W' g a b up' c0' c1' (some ⟨q0, 0, none⟩) (some ⟨q1, 0, none⟩)) (h0 : W'.heap[q0]? = some (.cells #[.slice none 0 0] 63 (0, 0))) (h1 : W'.heap[q1]? = some (.cells #[.slice none 0 0] 63 (0, 0))) :
    St B W' g a b up' c0' c1' q0 q1 (.slice none 0 0) (.slice none 0 0) (.slice none 0 0) (.slice none 0 0) [] [] [] [] col :=
  ⟨hc, ⟨h0, h.h0.2.1, Kd.N_nil _ _ _ _ _, h.h0.2.2.2⟩, ⟨h1, h.h1.2.1, Kd.N_nil _ _ _ _ _, h.h1.2.2.2⟩, Kd.N_nil _ _ _ _ _, Kd.N_nil _ _ _ _ _, h.cg, h.e0, h.e1, h.bg, h.ne⟩
/-- A block of another kind is no queue's and no row's. -/
theorem St.other {g2 : Nat} {t : Nat} {cs : Array Value} (h : St B W g a b up c0 c1 q0 q1 v0 v1 lA lB xA xB yA yB col) (hb : W.heap[g2]? = some (.cells cs t (0, 0))) (h1 : t ≠ 63) (h2 : 22 ≠ t) : g2 ≠ q0 ∧ g2 ≠ q1 ∧ some g2 ≠ v0.ownBlock ∧ some g2 ≠ v1.ownBlock := by
  refine ⟨fun e => ?_, fun e => ?_, Kd.N_ne h.h0.2.2.1 hb h2, Kd.N_ne h.h1.2.2.1 hb h2⟩
  · subst e
    rw [h.h0.1] at hb
    simp at hb
    exact h1 hb.2.symm
  · subst e
    rw [h.h1.1] at hb
    simp at hb
    exact h1 hb.2.symm
end
end Go.Proofs.Ythimnnnfgangbaa.Cb
