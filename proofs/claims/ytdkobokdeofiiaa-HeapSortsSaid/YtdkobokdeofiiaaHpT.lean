/- Heaps in memory, and the contracts of their methods, for every input. -/
import Derived.Test.YtdkobokdeofiiaaHpB
import Derived.Test.YtdkobokdeofiiaaHpP
import Derived.Test.YtdkobokdeofiiaaDmF
import Derived.WalkSpells
import Derived.LoopTactic
import Derived.BigRegion
set_option linter.unusedVariables false
set_option linter.unusedSimpArgs false
namespace Go.Proofs.Ytdkobokdeofiiaa.Hp
open Go.RowKit Go.Proofs.YtdkobokdeofiiaaW.PrintWords Go.Proofs.YtdkobokdeofiiaaW.PrintLast Go.Proofs.YtdkobokdeofiiaaW.PrintMore

export Go.Proofs.Ytdkobokdeofiiaa.Dm (wp_world)

/-- A block of room for cap spots holds these spots, one behind the other. -/
def SB (w : World) (g cap : Nat) (xs : List S30) : Prop := ∃ cur : Array Value, w.heap[g]? = some (.cells cur 30 (0, 0)) ∧ cur.size = cap * 2 ∧ xs.length ≤ cap ∧ cap ≤ maxLen ∧
  ∀ j x, xs[j]? = some x → cur[j * 2]? = some (.int .u64 x.f0) ∧ cur[j * 2 + 1]? = some (.int .i64 x.f1)
theorem k30_sz : k30.sz = 2 := rfl
theorem SB.below {w w' : World} {g cap : Nat} {xs : List S30} (h : SB w g cap xs) (hb : Below w.heap.size w w') : SB w' g cap xs := by
  obtain ⟨cur, h1, h2⟩ := h
  exact ⟨cur, blk_below h1 hb, h2⟩
theorem SB.lt {w : World} {g cap : Nat} {xs : List S30} (h : SB w g cap xs) : g < w.heap.size := by
  obtain ⟨cur, h1, h2⟩ := h
  exact blk_lt h1
theorem SB.C {w : World} {g cap : Nat} {xs : List S30} (h : SB w g cap xs) : Kd.C k30 w (some ⟨g, 0, none⟩) xs.length xs := by
  obtain ⟨cur, hb, _, hl, hm, hc⟩ := h
  refine ⟨rfl, by have : maxLen = 9223372036854775807 := rfl
                  omega, fun _ => ⟨_, rfl, fun j p hp => ?_⟩⟩
  obtain ⟨h0, h1⟩ := hc j p hp
  refine ⟨_, rfl, k30_mk w p, fun i u hu => ?_⟩
  rw [add_plain, blk_cell hb]
  match i, hu with
  | 0, hu => injection hu with hu; subst hu; exact h0
  | 1, hu => injection hu with hu; subst hu; exact h1
theorem SB.of_R {w : World} {base : Nat} {v : Value} {xs : List S30} (h : Kd.R k30 30 w base (fun _ => True) v xs) : (xs = [] ∧ v = .slice none 0 0) ∨ ∃ g cap, v = .slice (some ⟨g, 0, none⟩) xs.length cap ∧ base ≤ g ∧ SB w g cap xs := by
  obtain ⟨_, inner, ⟨hl, ho⟩, hr⟩ := h
  rcases ho with ⟨rfl, hn⟩ | ⟨g, cap, cur, rfl, hb, hh, hnc, hcm, hcs, htk⟩
  · exact .inl ⟨List.eq_nil_of_length_eq_zero hn, rfl⟩
  · refine .inr ⟨g, cap, rfl, hb, cur, hh, hcs, hnc, hcm, fun j x hx => ?_⟩
    have hq := hr.2 j x hx
    have hq' := k30_openM hq
    rw [k30_sz] at hq' htk hl
    have hj : j < xs.length := (List.getElem?_eq_some_iff.1 hx).1
    have get : ∀ i, i < 2 → inner[j * 2 + i]? = ((inner.drop (j * 2)).take 2)[i]? := by
      intro i hi
      rw [List.getElem?_take, if_pos hi, List.getElem?_drop]
    have cur_get : ∀ i, i < 2 → cur[j * 2 + i]? = inner[j * 2 + i]? := by
      intro i hi
      rw [← htk, List.getElem?_take, if_pos (by omega)]
      simp
    refine ⟨?_, ?_⟩
    · have := cur_get 0 (by omega); rw [get 0 (by omega), hq'] at this; simpa using this
    · have := cur_get 1 (by omega); rw [get 1 (by omega), hq'] at this; simpa using this
/-- The cells of spots. -/
def cells30 : List S30 → List Value
  | [] => []
  | x :: xs => .int .u64 x.f0 :: .int .i64 x.f1 :: cells30 xs
theorem cells30_len : ∀ xs : List S30, (cells30 xs).length = xs.length * 2
  | [] => rfl
  | x :: xs => by simp only [cells30, List.length_cons, cells30_len xs]; omega
theorem cells30_drop : ∀ (xs : List S30) (j : Nat) (x : S30), xs[j]? = some x → ((cells30 xs).drop (j * 2)).take 2 = [.int .u64 x.f0, .int .i64 x.f1]
  | y :: ys, 0, x, h => by injection h with h; subst h; rfl
  | y :: ys, j + 1, x, h => by
    have := cells30_drop ys j x h
    rw [show (j + 1) * 2 = j * 2 + 2 from by omega]
    simpa [cells30] using this
theorem cells30_get : ∀ (xs : List S30) (j : Nat), j < xs.length → ∃ x, xs[j]? = some x ∧ (cells30 xs)[j * 2]? = some (.int .u64 x.f0) ∧ (cells30 xs)[j * 2 + 1]? = some (.int .i64 x.f1)
  | y :: ys, 0, _ => ⟨y, rfl, rfl, rfl⟩
  | y :: ys, j + 1, h => by
    obtain ⟨x, h1, h2, h3⟩ := cells30_get ys j (by simpa using h)
    refine ⟨x, h1, ?_, ?_⟩
    · rw [show (j + 1) * 2 = j * 2 + 2 from by omega]; simpa [cells30] using h2
    · rw [show (j + 1) * 2 + 1 = j * 2 + 1 + 2 from by omega]; simpa [cells30] using h3
theorem SB.R {w : World} {g cap : Nat} {xs : List S30} (h : SB w g cap xs) {base : Nat} (hb : base ≤ g) : Kd.R k30 30 w base (fun _ => True) (.slice (some ⟨g, 0, none⟩) xs.length cap) xs := by
  obtain ⟨cur, h1, h2, h3, h4, h5⟩ := h
  refine ⟨fun _ _ => trivial, cells30 xs, ⟨by rw [cells30_len, k30_sz], .inr ⟨g, cap, cur, rfl, hb, h1, h3, h4, by rw [h2, k30_sz], ?_⟩⟩, ?_⟩
  · rw [k30_sz]
    apply List.ext_getElem?
    intro i
    by_cases hi : i < xs.length * 2
    · rw [List.getElem?_take, if_pos hi]
      obtain ⟨x, e1, e2, e3⟩ := cells30_get xs (i / 2) (by omega)
      obtain ⟨f0, f1⟩ := h5 _ _ e1
      rcases Nat.mod_two_eq_zero_or_one i with hm | hm
      · have : i / 2 * 2 = i := by omega
        rw [this] at e2 f0
        rw [e2, ← f0]
        simp
      · have : i / 2 * 2 + 1 = i := by omega
        rw [this] at e3 f1
        rw [e3, ← f1]
        simp
    · rw [List.getElem?_eq_none (by rw [List.length_take]; omega), List.getElem?_eq_none (by rw [cells30_len]; omega)]
  · refine ⟨by rw [cells30_len, k30_sz], fun j x hx => ?_⟩
    rw [k30_sz, cells30_drop xs j x hx]
    exact k30_mkM _ _ _ x
theorem SB.set1 {w : World} {g cap : Nat} {ys : List S30} (h : SB w g cap ys) {k : Nat} (hk : k < ys.length) (s : S30) :
    SB ((w.setCell ⟨g, k * 2, none⟩ (.int .u64 s.f0)).setCell ⟨g, k * 2 + 1, none⟩ (.int .i64 s.f1)) g cap (ys.set k s) := by
  obtain ⟨cur, hb, hs, hl, hm, hc⟩ := h
  refine ⟨_, blk_set (blk_set hb (k * 2) (.int .u64 s.f0)) (k * 2 + 1) (.int .i64 s.f1), by simpa using hs, by simpa using hl, hm, fun j p hp => ?_⟩
  rw [List.getElem?_set] at hp
  have ne1 : ∀ i u, i ≠ k * 2 → i ≠ k * 2 + 1 → cur[i]? = some u → ((cur.setIfInBounds (k * 2) (.int .u64 s.f0)).setIfInBounds (k * 2 + 1) (.int .i64 s.f1))[i]? = some u := by
    intro i u h1 h2 h3
    rw [Array.getElem?_setIfInBounds_ne (Ne.symm h2), Array.getElem?_setIfInBounds_ne (Ne.symm h1)]
    exact h3
  by_cases hjk : k = j
  · subst hjk
    rw [if_pos rfl, if_pos hk] at hp
    injection hp with hp
    subst hp
    refine ⟨?_, ?_⟩
    · rw [Array.getElem?_setIfInBounds_ne (by omega), Array.getElem?_setIfInBounds_self_of_lt (by omega)]
    · rw [Array.getElem?_setIfInBounds_self_of_lt (by simp; omega)]
  · rw [if_neg hjk] at hp
    obtain ⟨h0, h1⟩ := hc j p hp
    exact ⟨ne1 _ _ (by omega) (by omega) h0, ne1 _ _ (by omega) (by omega) h1⟩
theorem SB.far {w : World} {g cap : Nat} {ys : List S30} (h : SB w g cap ys) {p : Addr} (hp : g ≠ p.block) (u : Value) : SB (w.setCell p u) g cap ys := by
  obtain ⟨cur, hb, r⟩ := h
  exact ⟨cur, blk_far hb hp u, r⟩
theorem SB.drewN {w : World} {g cap : Nat} {ys : List S30} (h : SB w g cap ys) (n : Nat) : SB (w.drewN n) g cap ys := h

/-- A heap: the block gh holds the value v of its list; the spots are xs. -/
def HL (B : Nat) (w : World) (gh : Nat) (v : Value) (xs : List S30) : Prop := w.heap[gh]? = some (.cells #[v] 94 (0, 0)) ∧ B ≤ gh ∧ Kd.R k30 30 w B (fun _ => True) v xs
theorem HL.below {B : Nat} {w w' : World} {gh : Nat} {v : Value} {xs : List S30} (h : HL B w gh v xs) (hb : Below w.heap.size w w') : HL B w' gh v xs :=
  ⟨blk_below h.1 hb, h.2.1, Kd.R_below h.2.2 hb⟩
theorem HL.v {B : Nat} {w : World} {gh : Nat} {v : Value} {xs : List S30} (h : HL B w gh v xs) : ∃ A c, v = .slice A xs.length c := Kd.R_slice h.2.2
/-- What is kept: all but the heap's two blocks. -/
def Kp (B : Nat) (w w' : World) (gh : Nat) (v v' : Value) : Prop := Below B w w' ∧ KeepBut w w' gh v.ownBlock ∧ (v'.ownBlock = v.ownBlock ∨ ∃ b, v'.ownBlock = some b ∧ w.heap.size ≤ b)

set_option maxHeartbeats 400000 in
set_option maxRecDepth 100000 in
theorem len_calls (B gh : Nat) (v : Value) (xs : List S30) (w : World) (h : HL B w gh v xs) :
    Calls Try.prog 39 #[.pointer (some ⟨gh, 0, none⟩)] w fun e w' => e = .returned (.int .i64 xs.length) ∧ Below w.heap.size w w' := by
  obtain ⟨A, c, rfl⟩ := h.v
  have c0 := blk_cell h.1 0
  clear h
  simp at c0
  go_enter Try.func39, Try.ntmps39
  go_wp2
  go_ret
  exact ⟨rfl, Below.refl _ _⟩
set_option maxHeartbeats 400000 in
set_option maxRecDepth 100000 in
theorem len_none (w : World) : Calls Try.prog 39 #[.pointer none] w fun e w' => e = .returned (.int .i64 0) ∧ Below w.heap.size w w' := by
  go_enter Try.func39, Try.ntmps39
  go_wp2
  go_ret
  exact ⟨rfl, Below.refl _ _⟩
end Go.Proofs.Ytdkobokdeofiiaa.Hp
