/- Contract of the reference's Tell: for every input. The ring as a plain law; Tell of a chronicle that holds what was told. Chronicle and reference side by side. Contract of awake: for every input. The law ChronTells, walked. -/
import Derived.Test.YthimnnnfgangbaaDoorCmD
import Derived.Test.YthimnnnfgangbaaDoorCmB
set_option linter.unusedVariables false
set_option linter.unusedSimpArgs false
namespace Go.Proofs.YthimnnnfgangbaaDoor.Cn
open Go.Proofs.YthimnnnfgangbaaDoor.Ts (cell_lt)
open Go.RowKit Go.Proofs.YthimnnnfgangbaaDoorW.PrintWords Go.Proofs.YthimnnnfgangbaaDoorW.PrintLast Go.Proofs.YthimnnnfgangbaaDoorW.PrintMore Go.Proofs.YthimnnnfgangbaaDoor.Qr
/-- Do the numbers and the length serve? -/
def okB (a n : Int) (s : ByteArray) : Bool := decide (0 ≤ a) && (decide (1 ≤ n) && (decide (n ≤ 64) && (decide (1 ≤ (s.size : Int)) && decide ((s.size : Int) ≤ 40))))
theorem okB_may (a n : Int) (s : ByteArray) : (okB a n s && s.data.toList.all chB) = mayB a n s := by
  unfold okB mayB wordB
  have h1 : (!s.data.toList.isEmpty) = decide (1 ≤ (s.size : Int)) := by
    obtain ⟨⟨l⟩⟩ := s
    cases l with
    | nil => rfl
    | cons x r =>
      show true = decide (1 ≤ (((x :: r).length : Nat) : Int))
      simp
      omega
  have h2 : decide (s.size ≤ 40) = decide ((s.size : Int) ≤ 40) := by
    by_cases h : s.size ≤ 40
    · rw [decide_eq_true h, decide_eq_true (by omega)]
    · rw [decide_eq_false h, decide_eq_false (by omega)]
  rw [h1, h2]
  cases decide (0 ≤ a) <;> cases decide (1 ≤ n) <;> cases decide (n ≤ 64) <;> cases decide (1 ≤ (s.size : Int)) <;> cases decide ((s.size : Int) ≤ 40) <;> cases s.data.toList.all chB <;> rfl
theorem all_snoc {l : List UInt8} {k : Nat} {c : UInt8} (h : l[k]? = some c) : (l.take (k + 1)).all chB = ((l.take k).all chB && chB c) := by
  rw [List.take_add_one, h, List.all_append]
  simp
/-- What the reference's Tell answers. -/
def TellP (A : Option Addr) (c : Nat) (xs : List E) (a n : Int) (s : ByteArray) (w : World) (e : Ending) (w' : World) : Prop :=
  (mayB a n s = false ∧ e = .returned (.tuple #[.slice A xs.length c, .int .i64 1]) ∧ Below w.heap.size w w') ∨
  (mayB a n s = true ∧ (∃ x, xs[xs.length - 1]? = some x ∧ a < x.a.1) ∧ e = .returned (.tuple #[.slice A xs.length c, .int .i64 10]) ∧ Below w.heap.size w w') ∨
  (mayB a n s = true ∧ (∀ x, xs[xs.length - 1]? = some x → x.a.1 ≤ a) ∧ ∃ v', e = .returned (.tuple #[v', .int .i64 0]) ∧ (∀ (h1 : i64 ((xs.length : Int) + 1)) (h2 : i64 a) (h3 : i64 n), RE w' w.heap.size v' (xs ++ [mkE ((xs.length : Int) + 1) a n h1 h2 h3 s])) ∧ Below w.heap.size w w')
set_option maxHeartbeats 6400000 in
set_option maxRecDepth 100000 in
theorem refTell_calls (A : Option Addr) (c : Nat) (xs : List E) (a n : Int) (s : ByteArray) (w : World) (hC : Kd.C kE w A xs.length xs) (hl : xs.length ≤ 1000) (hs : s.size ≤ 100) (ha : i64 a) (hn : i64 n) :
    Calls Tryd.prog 19 #[.slice A xs.length c, .int .i64 a, .int .i64 n, .string s] w (TellP A c xs a n s w) := by
  have HC := Aside0.mk hC
  have HL := Aside0.mk hl
  have HS := Aside0.mk hs
  have HA := Aside0.mk ha
  have HN := Aside0.mk hn
  have hs5 : (s.size : Int) ≤ 100 := by omega
  have hl5 : (xs.length : Int) ≤ 1000 := by omega
  obtain ⟨ok0, hok0⟩ : ∃ ok0, okB a n s = ok0 := ⟨_, rfl⟩
  have HOK := Aside0.mk hok0
  clear hC hl hs ha hn hok0
  go_enter Tryd.func19, Tryd.ntmps19
  go_upto_region 1 with (fail)
  go_cut [10] (fun v10 wx => v10 = .bool ok0 ∧ Aside0 (w = wx))
  case first =>
    by_cases h1 : 0 ≤ a
    · by_cases h2 : 1 ≤ n
      · by_cases h3 : n ≤ 64
        · by_cases h4 : 1 ≤ (s.size : Int)
          · have HF : Aside0 (ok0 = decide ((s.size : Int) ≤ 40)) := ⟨by rw [← HOK.out]; unfold okB; simp [h1, h2, h3, h4]⟩
            go_wp2_with fail
            go_meet
            exact ⟨by rw [HF.out], ⟨rfl⟩⟩
          · have HF : Aside0 (ok0 = false) := ⟨by rw [← HOK.out]; unfold okB; simp [h4]⟩
            go_wp2_with fail
            go_meet
            exact ⟨by rw [HF.out], ⟨rfl⟩⟩
        · have HF : Aside0 (ok0 = false) := ⟨by rw [← HOK.out]; unfold okB; simp [h3]⟩
          go_wp2_with fail
          go_meet
          exact ⟨by rw [HF.out], ⟨rfl⟩⟩
      · have HF : Aside0 (ok0 = false) := ⟨by rw [← HOK.out]; unfold okB; simp [h2]⟩
        go_wp2_with fail
        go_meet
        exact ⟨by rw [HF.out], ⟨rfl⟩⟩
    · have HF : Aside0 (ok0 = false) := ⟨by rw [← HOK.out]; unfold okB; simp [h1]⟩
      go_wp2_with fail
      go_meet
      exact ⟨by rw [HF.out], ⟨rfl⟩⟩
  case rest =>
    obtain ⟨rfl, ⟨rfl⟩⟩ := hcut
    go_wp2_with fail
    go_loop [11, 10] (fun v11 v10 => ∃ (k : Nat) (b : Bool), k ≤ s.size ∧ v11 = .int .i64 k ∧ v10 = .bool b ∧ Aside0 (b = (ok0 && (s.data.toList.take k).all chB))) (fun v11 _ => s.size - (intOf v11).toNat)
    case atStart => exact ⟨0, ok0, Nat.zero_le _, rfl, rfl, ⟨by simp⟩⟩
    case round =>
      obtain ⟨k, b, hk, rfl, rfl, HB⟩ := hrel
      by_cases hlt : k < s.size
      · have hk2 : k < s.data.toList.length := by simpa using hlt
        obtain ⟨ch, hc⟩ : ∃ c, s.data.toList[k]? = some c := ⟨_, List.getElem?_eq_getElem hk2⟩
        have HSTEP := Aside0.mk (all_snoc hc)
        have HLT := Aside0.mk hlt
        have HCH := Aside0.mk hc
        have hk5 : (k : Int) < (s.size : Int) := by omega
        have hcu : (ch.toNat : Int) ≤ 255 := by have := ch.toNat_lt; omega
        clear hk2 hc
        cases b
        · have HB2 : Aside0 (false = (ok0 && (s.data.toList.take (k + 1)).all chB)) := ⟨by rw [HSTEP.out, ← Bool.and_assoc, ← HB.out]; rfl⟩
          clear HB
          go_wp2
          go_round
          case rel => exact ⟨k + 1, false, HLT.out, by go_num, rfl, HB2⟩
          case measure => have := HLT.out; simp [intOf]; omega
        · have HSK : Aside0 (∀ h : k < s.size, s[k]'h = ch) := ⟨fun h => by
            have h1 := HCH.out
            rw [Array.getElem?_toList] at h1
            exact (Array.getElem?_eq_some_iff.1 h1).2⟩
          go_upto_region 6 with (fail)
          rw [HSK.out]
          obtain ⟨q, hq⟩ : ∃ q, ch.toNat = q := ⟨_, rfl⟩
          have HQ := Aside0.mk hq
          rw [hq] at hcu ⊢
          clear hq HSK
          by_cases x1 : (97 : Int) ≤ q
          · by_cases x2 : (q : Int) ≤ 122
            · have HB2 : Aside0 (true = (ok0 && (s.data.toList.take (k + 1)).all chB)) := ⟨by rw [HSTEP.out, ← Bool.and_assoc, ← HB.out]; unfold chB; rw [HQ.out]; simp; omega⟩
              clear HB
              go_wp2
              go_round
              case rel => exact ⟨k + 1, true, HLT.out, by go_num, rfl, HB2⟩
              case measure => have := HLT.out; simp [intOf]; omega
            · have HB2 : Aside0 (false = (ok0 && (s.data.toList.take (k + 1)).all chB)) := ⟨by rw [HSTEP.out, ← Bool.and_assoc, ← HB.out]; unfold chB; rw [HQ.out]; simp; omega⟩
              have x5 : (48 : Int) ≤ q := by omega
              have x6 : ¬ (q : Int) ≤ 57 := by omega
              clear HB
              go_wp2
              go_round
              case rel => exact ⟨k + 1, false, HLT.out, by go_num, rfl, HB2⟩
              case measure => have := HLT.out; simp [intOf]; omega
          · by_cases x2 : (48 : Int) ≤ q
            · by_cases x3 : (q : Int) ≤ 57
              · have HB2 : Aside0 (true = (ok0 && (s.data.toList.take (k + 1)).all chB)) := ⟨by rw [HSTEP.out, ← Bool.and_assoc, ← HB.out]; unfold chB; rw [HQ.out]; simp; omega⟩
                clear HB
                go_wp2
                go_round
                case rel => exact ⟨k + 1, true, HLT.out, by go_num, rfl, HB2⟩
                case measure => have := HLT.out; simp [intOf]; omega
              · have HB2 : Aside0 (false = (ok0 && (s.data.toList.take (k + 1)).all chB)) := ⟨by rw [HSTEP.out, ← Bool.and_assoc, ← HB.out]; unfold chB; rw [HQ.out]; simp; omega⟩
                clear HB
                go_wp2
                go_round
                case rel => exact ⟨k + 1, false, HLT.out, by go_num, rfl, HB2⟩
                case measure => have := HLT.out; simp [intOf]; omega
            · have HB2 : Aside0 (false = (ok0 && (s.data.toList.take (k + 1)).all chB)) := ⟨by rw [HSTEP.out, ← Bool.and_assoc, ← HB.out]; unfold chB; rw [HQ.out]; simp; omega⟩
              clear HB
              go_wp2
              go_round
              case rel => exact ⟨k + 1, false, HLT.out, by go_num, rfl, HB2⟩
              case measure => have := HLT.out; simp [intOf]; omega
      · obtain rfl : k = s.size := by omega
        have HM : Aside0 (b = mayB a n s) := ⟨by
          rw [HB.out, ← okB_may, HOK.out]
          congr 1
          rw [List.take_of_length_le (by simp)]⟩
        clear HB
        cases b
        · go_wp2
          go_ret2
          exact .inl ⟨HM.out.symm, rfl, Below.refl _ _⟩
        · have HMT : Aside0 (mayB a n s = true) := ⟨HM.out.symm⟩
          clear HM
          have h1 : i64 ((xs.length : Int) + 1) := by unfold i64; omega
          have HH1 := Aside0.mk h1
          clear h1
          by_cases h0 : xs.length = 0
          · have HNO : Aside0 (∀ x, xs[xs.length - 1]? = some x → x.a.1 ≤ a) := ⟨fun x hx => by
              rw [List.length_eq_zero_iff.1 h0] at hx
              simp at hx⟩
            obtain rfl := List.length_eq_zero_iff.1 h0
            clear h0
            go_wp2_with (first | ((with_reducible refine gate_builtin (b := .append) (xs := #[.tmp 77, .tmp 78]) rfl ?_); at_builtin; refine Kd.R_append_rows kE (w0 := w) w.heap.size rfl (.tmp 77) (.tmp 78) 49 93 zV 40 rfl Tryd.underlying49 info93 rfl (by decide) (by omega) (.slice (some ⟨w.heap.size, 0, none⟩) 0 0) [] ([] : List E) A 0 c (fun _ => True) (fun _ => False) rfl rfl (RE_none w _ (Nat.le_refl _)) (Kd.C_below HC.out (below_alloc (Below.refl _ _) _)) KM (fun _ h => h.elim) (fun _ _ => trivial) (below_alloc (Below.refl _ _) _) (by have := (below_alloc (Below.refl w.heap.size w) (.cells #[] 93)).size; exact this) (by have := HL.out; first | omega | (simp; done) | (simp; omega)) ?_; intro v7 w2 hN2 hb2 hg2 hat2; rw [List.nil_append] at hN2; have HO7 := Aside0.mk hN2; have HB2 := Aside0.mk hb2; clear hN2 hb2 hg2 hat2) | ((with_reducible refine gate_builtin (b := .append) (xs := #[.tmp 79, .tmp 87]) rfl ?_); at_builtin; refine Kd.R_append kE (w0 := w) w.heap.size rfl (.tmp 79) (.tmp 87) 49 93 zV 40 rfl Tryd.underlying49 info93 rfl (by decide) (by omega) v7 ([] : List E) (mkE (((([] : List E).length : Nat) : Int) + 1) a n HH1.out HA.out HN.out s) (cE (mkE (((([] : List E).length : Nat) : Int) + 1) a n HH1.out HA.out HN.out s)) (fun _ => True) (fun _ => False) rfl rfl (kE_mkM _ _ _ (mkE (((([] : List E).length : Nat) : Int) + 1) a n HH1.out HA.out HN.out s)) (fun _ hk => hk.elim) (fun _ _ => trivial) HO7.out HB2.out HB2.out.size (by have := HL.out; first | omega | (simp; done) | (simp; omega)) ?_; intro v1 w3 hN hb hg hat))
            have HR9 := Aside0.mk hN
            have HB9 := Aside0.mk hb
            clear hN hb hg hat HO7 HB2
            go_wp2
            go_ret2
            exact .inr (.inr ⟨HMT.out, HNO.out, v1, rfl, fun _ _ _ => HR9.out, HB9.out⟩)
          · obtain ⟨m, hm⟩ : ∃ m, xs.length - 1 = m := ⟨_, rfl⟩
            have hml : m < xs.length := by omega
            have HM := Aside0.mk hm
            obtain ⟨ad, x, rfl, hx, b0, b1, b2, b3⟩ := atE HC.out hml
            have hm5 : (xs.length : Int) - 1 = (m : Int) := by omega
            have jw : wrap64 ((m : Nat) : Int) = (m : Int) := wrN m (by have := HL.out; omega)
            have hpos : (0 : Int) < (xs.length : Int) := by omega
            have hmi : (m : Int) < (xs.length : Int) := by omega
            have HX := Aside0.mk hx
            clear b0 b2 b3 hx hm h0
            by_cases hlt : a < x.a.1
            · go_wp2
              go_ret2
              exact .inr (.inl ⟨HMT.out, ⟨x, by rw [HM.out]; exact HX.out, hlt⟩, rfl, Below.refl _ _⟩)
            · have HNO : Aside0 (∀ y, xs[xs.length - 1]? = some y → y.a.1 ≤ a) := ⟨fun y hy => by
                rw [HM.out, HX.out] at hy
                injection hy with hy
                rw [← hy]
                omega⟩
              go_wp2_with (first | ((with_reducible refine gate_builtin (b := .append) (xs := #[.tmp 77, .tmp 78]) rfl ?_); at_builtin; refine Kd.R_append_rows kE (w0 := w) w.heap.size rfl (.tmp 77) (.tmp 78) 49 93 zV 40 rfl Tryd.underlying49 info93 rfl (by decide) (by omega) (.slice (some ⟨w.heap.size, 0, none⟩) 0 0) [] xs (some ad) xs.length c (fun _ => True) (fun _ => False) rfl rfl (RE_none w _ (Nat.le_refl _)) (Kd.C_below HC.out (below_alloc (Below.refl _ _) _)) KM (fun _ h => h.elim) (fun _ _ => trivial) (below_alloc (Below.refl _ _) _) (by have := (below_alloc (Below.refl w.heap.size w) (.cells #[] 93)).size; exact this) (by have := HL.out; first | omega | (simp; done) | (simp; omega)) ?_; intro v7 w2 hN2 hb2 hg2 hat2; rw [List.nil_append] at hN2; have HO7 := Aside0.mk hN2; have HB2 := Aside0.mk hb2; clear hN2 hb2 hg2 hat2) | ((with_reducible refine gate_builtin (b := .append) (xs := #[.tmp 79, .tmp 87]) rfl ?_); at_builtin; refine Kd.R_append kE (w0 := w) w.heap.size rfl (.tmp 79) (.tmp 87) 49 93 zV 40 rfl Tryd.underlying49 info93 rfl (by decide) (by omega) v7 xs (mkE ((xs.length : Int) + 1) a n HH1.out HA.out HN.out s) (cE (mkE ((xs.length : Int) + 1) a n HH1.out HA.out HN.out s)) (fun _ => True) (fun _ => False) rfl rfl (kE_mkM _ _ _ (mkE ((xs.length : Int) + 1) a n HH1.out HA.out HN.out s)) (fun _ hk => hk.elim) (fun _ _ => trivial) HO7.out HB2.out HB2.out.size (by have := HL.out; first | omega | (simp; done) | (simp; omega)) ?_; intro v1 w3 hN hb hg hat))
              have HR9 := Aside0.mk hN
              have HB9 := Aside0.mk hb
              clear hN hb hg hat HO7 HB2
              go_wp2
              go_ret2
              exact .inr (.inr ⟨HMT.out, HNO.out, v1, rfl, fun _ _ _ => HR9.out, HB9.out⟩)
end Go.Proofs.YthimnnnfgangbaaDoor.Cn

namespace Go.Proofs.YthimnnnfgangbaaDoor.Cn
open Go.Proofs.YthimnnnfgangbaaDoor.Ts (cell_lt)
open Go.RowKit Go.Proofs.YthimnnnfgangbaaDoorW.PrintWords Go.Proofs.YthimnnnfgangbaaDoorW.PrintLast Go.Proofs.YthimnnnfgangbaaDoorW.PrintMore Go.Proofs.YthimnnnfgangbaaDoor.Qr
/-- The time of the last one. -/
def lastA (xs : List E) : Int := match xs[xs.length - 1]? with
  | some x => x.a.1
  | none => 0
theorem lastA_snoc (xs : List E) (p : E) : lastA (xs ++ [p]) = p.a.1 := by
  unfold lastA
  simp
theorem lastA_nil : lastA [] = 0 := rfl
/-- A ring that holds the last ones of what was told. -/
structure RI (room : Nat) (told ring : List E) (k : Nat) : Prop where
  le : ring.length ≤ room
  few : ring.length < room → k = 0 ∧ ring = told
  full : ring.length = room → k < room ∧ room ≤ told.length ∧ ring.drop k ++ ring.take k = told.drop (told.length - room)
theorem RI.start {room : Nat} (h : 0 < room) : RI room [] [] 0 := ⟨Nat.zero_le _, fun _ => ⟨rfl, rfl⟩, fun h2 => by simp at h2; omega⟩
theorem RI.k {room : Nat} {told ring : List E} {k : Nat} (h : RI room told ring k) : k ≤ ring.length := by
  by_cases h1 : ring.length < room
  · rw [(h.few h1).1]; exact Nat.zero_le _
  · have h2 : ring.length = room := by have := h.le; omega
    have := (h.full h2).1
    omega
theorem RI.all {room : Nat} {told ring : List E} {k : Nat} (h : RI room told ring k) : ring.drop k ++ ring.take k = thereL told room := by
  unfold thereL
  by_cases h1 : ring.length < room
  · obtain ⟨rfl, rfl⟩ := h.few h1
    rw [if_neg (by omega)]
    simp
  · have h2 : ring.length = room := by have := h.le; omega
    obtain ⟨_, h3, h4⟩ := h.full h2
    rw [h4]
    by_cases h5 : (room : Int) < (told.length : Int)
    · rw [if_pos h5]
      congr 1
      omega
    · rw [if_neg h5]
      have : told.length - room = 0 := by omega
      rw [this, List.drop_zero]
theorem RI.app {room : Nat} {told ring : List E} {k : Nat} (h : RI room told ring k) (h1 : ring.length < room) (p : E) : RI room (told ++ [p]) (ring ++ [p]) k := by
  obtain ⟨rfl, rfl⟩ := h.few h1
  refine ⟨by simp; omega, fun _ => ⟨rfl, rfl⟩, fun h2 => ?_⟩
  simp only [List.length_append, List.length_cons, List.length_nil] at h2
  refine ⟨by omega, by simp; omega, ?_⟩
  have : (ring ++ [p]).length - room = 0 := by simp; omega
  rw [this]
  simp
theorem RI.put {room : Nat} {told ring : List E} {k : Nat} (h : RI room told ring k) (h1 : ring.length = room) (h0 : 0 < room) (p : E) : RI room (told ++ [p]) (ring.set k p) ((k + 1) % ring.length) := by
  obtain ⟨hk, hl, he⟩ := h.full h1
  refine ⟨by simp; omega, fun h2 => by simp at h2; omega, fun _ => ⟨?_, by simp; omega, ?_⟩⟩
  · rw [h1]; exact Nat.mod_lt _ h0
  · have hR : (told ++ [p]).drop ((told ++ [p]).length - room) = (ring.drop k ++ ring.take k).drop 1 ++ [p] := by
      rw [he, List.drop_drop, List.length_append, List.drop_append_of_le_length (by simp; omega)]
      congr 2
      simp
      omega
    rw [hR]
    have hkr : k < ring.length := by omega
    have hd : ring.drop k = ring[k] :: ring.drop (k + 1) := List.drop_eq_getElem_cons hkr
    rw [hd, List.cons_append, List.drop_one, List.tail_cons]
    by_cases h2 : k + 1 < room
    · rw [Nat.mod_eq_of_lt (by omega), List.drop_set_of_lt (by omega), List.take_add_one, List.take_set_of_le (Nat.le_refl k), List.getElem?_set_self hkr]
      simp
    · have h3 : k + 1 = ring.length := by omega
      rw [h3, Nat.mod_self, List.drop_length]
      have h4 : (ring.set k p) = ring.take k ++ [p] := by
        have := List.take_append_drop k (ring.set k p)
        rw [← this, List.take_set_of_le (Nat.le_refl k), List.drop_set]
        simp only [Nat.lt_irrefl, if_false, Nat.sub_self]
        rw [hd, h3, List.drop_length]
        rfl
      rw [h4]
      simp
/-- What is told, and the answer. -/
def Tld (told : List E) (a n : Int) (s : ByteArray) (told' : List E) (err : Int) : Prop :=
  (mayB a n s = false ∧ told' = told ∧ err = 1) ∨
  (mayB a n s = true ∧ a < lastA told ∧ told' = told ∧ err = 10) ∨
  (mayB a n s = true ∧ lastA told ≤ a ∧ err = 0 ∧ ∃ p : E, told' = told ++ [p] ∧ p.n.1 = (told.length : Int) + 1 ∧ p.a.1 = a ∧ p.d.1 = n ∧ p.s = s)
theorem E_eq {x y : E} (h0 : x.n.1 = y.n.1) (h1 : x.a.1 = y.a.1) (h2 : x.d.1 = y.d.1) (h3 : x.s = y.s) : x = y := by
  rw [E_ext]
  unfold eqb
  rw [h0, h1, h2, h3]
  simp
theorem Tld.unique {told : List E} {a n : Int} {s : ByteArray} {t1 t2 : List E} {e1 e2 : Int} (h : Tld told a n s t1 e1) (g : Tld told a n s t2 e2) : t1 = t2 ∧ e1 = e2 := by
  rcases h with ⟨h1, h2, h3⟩ | ⟨h1, h2, h3, h4⟩ | ⟨h1, h2, h3, p, h4, q1, q2, q3, q4⟩
  · rcases g with ⟨g1, g2, g3⟩ | ⟨g1, g2, g3, g4⟩ | ⟨g1, g2, g3, p2, g4, r1, r2, r3, r4⟩
    · exact ⟨h2.trans g2.symm, h3.trans g3.symm⟩
    · rw [h1] at g1; cases g1
    · rw [h1] at g1; cases g1
  · rcases g with ⟨g1, g2, g3⟩ | ⟨g1, g2, g3, g4⟩ | ⟨g1, g2, g3, p2, g4, r1, r2, r3, r4⟩
    · rw [h1] at g1; cases g1
    · exact ⟨h3.trans g3.symm, h4.trans g4.symm⟩
    · omega
  · rcases g with ⟨g1, g2, g3⟩ | ⟨g1, g2, g3, g4⟩ | ⟨g1, g2, g3, p2, g4, r1, r2, r3, r4⟩
    · rw [h1] at g1; cases g1
    · omega
    · refine ⟨?_, h3.trans g3.symm⟩
      rw [h4, g4, E_eq (q1.trans r1.symm) (q2.trans r2.symm) (q3.trans r3.symm) (q4.trans r4.symm)]
/-- A chronicle in memory that holds the last ones of what was told; v is its row. -/
structure CR (B : Nat) (w : World) (g : Nat) (v : Value) (room : Nat) (told : List E) : Prop where
  ch : ∃ ring k, CH B w g v ring (room : Int) ((k : Nat) : Int) (told.length : Int) (lastA told) ∧ RI room told ring k
theorem CR.below {B : Nat} {w w1 : World} {g : Nat} {v : Value} {room : Nat} {told : List E} (h : CR B w g v room told) (hb : Below w.heap.size w w1) : CR B w1 g v room told := by
  obtain ⟨ring, k, h1, h2⟩ := h
  exact ⟨ring, k, h1.below hb, h2⟩
theorem CR.base {B : Nat} {w : World} {g : Nat} {v : Value} {room : Nat} {told : List E} (h : CR B w g v room told) : B ≤ g ∧ ∀ k, v.ownBlock = some k → B ≤ k := by
  obtain ⟨ring, k, h1, h2⟩ := h
  exact ⟨h1.hB, fun k hk => Kd.R_base h1.row k hk⟩
set_option maxHeartbeats 1600000 in
theorem tell_any (B g : Nat) (v : Value) (room : Nat) (told : List E) (a n : Int) (s : ByteArray) (w : World) (h : CR B w g v room told) (hr : 0 < room) (hrm : room ≤ 1000) (ht : told.length ≤ 999) (hs : s.size ≤ 100) (ha : i64 a) (hn : i64 n) :
    Calls Tryd.prog 20 #[.pointer (some ⟨g, 0, none⟩), .int .i64 a, .int .i64 n, .string s] w fun e w' => ∃ v' told' err, e = .returned (.int .i64 err) ∧ Tld told a n s told' err ∧ CR B w' g v' room told' ∧ KR g v w w' ∧ (v'.ownBlock = v.ownBlock ∨ ∃ b, v'.ownBlock = some b ∧ w.heap.size ≤ b) := by
  obtain ⟨ring, k, h1, h2⟩ := h
  have hr5 : (0 : Int) < (room : Int) := by omega
  have h64 : i64 ((told.length : Int) + 1) := by unfold i64; omega
  by_cases hm : mayB a n s = true
  · by_cases ho : a < lastA told
    · refine (tell_old B g v ring room k told.length (lastA told) a n s w h1 hr5 hs hm ho).mono ?_
      rintro e w' ⟨rfl, hb⟩
      exact ⟨v, told, 10, rfl, .inr (.inl ⟨hm, ho, rfl, rfl⟩), ⟨ring, k, h1.below hb, h2⟩, KR.of_below hb, .inl rfl⟩
    · have hT : Tld told a n s (told ++ [mkE ((told.length : Int) + 1) a n h64 ha hn s]) 0 := .inr (.inr ⟨hm, by omega, rfl, _, rfl, rfl, rfl, rfl, rfl⟩)
      have hlen : (((told ++ [mkE ((told.length : Int) + 1) a n h64 ha hn s]).length : Nat) : Int) = (told.length : Int) + 1 := by simp
      have hla : lastA (told ++ [mkE ((told.length : Int) + 1) a n h64 ha hn s]) = a := lastA_snoc _ _
      by_cases hf : ring.length < room
      · refine (tell_app B g v ring room k told.length (lastA told) a n s w h1 hr5 hs hm ho ⟨by omega, by omega⟩ (by omega) (by omega) h64 ha hn).mono ?_
        rintro e w' ⟨rfl, v', hc, hk, ho⟩
        refine ⟨v', _, 0, rfl, hT, ⟨_, k, ?_, h2.app hf _⟩, hk, ho⟩
        rw [hlen, hla]
        exact hc
      · have hf2 : ring.length = room := by have := h2.le; omega
        have hk := (h2.full hf2).1
        refine (tell_put B g v ring room k told.length (lastA told) a n s w h1 hr5 hs hm ho ⟨by omega, by omega⟩ (by omega) k (by omega) rfl (by omega) h64 ha hn).mono ?_
        rintro e w' ⟨rfl, hc, hk2⟩
        refine ⟨v, _, 0, rfl, hT, ⟨_, _, ?_, h2.put hf2 hr _⟩, hk2, .inl rfl⟩
        rw [hlen, hla]
        exact hc
  · have hm2 : mayB a n s = false := by simpa using hm
    refine (tell_arg B g v ring room k told.length (lastA told) a n s w h1 hr5 hs hm2).mono ?_
    rintro e w' ⟨rfl, hb⟩
    exact ⟨v, told, 1, rfl, .inl ⟨hm2, rfl, rfl⟩, ⟨ring, k, h1.below hb, h2⟩, KR.of_below hb, .inl rfl⟩
end Go.Proofs.YthimnnnfgangbaaDoor.Cn

namespace Go.Proofs.YthimnnnfgangbaaDoor.Cn
open Go.Proofs.YthimnnnfgangbaaDoor.Ts (cell_lt)
open Go.RowKit Go.Proofs.YthimnnnfgangbaaDoorW.PrintWords Go.Proofs.YthimnnnfgangbaaDoorW.PrintLast Go.Proofs.YthimnnnfgangbaaDoorW.PrintMore Go.Proofs.YthimnnnfgangbaaDoor.Qr
/-- Events told, numbered from one, of short words. -/
structure Num (told : List E) : Prop where
  num : ∀ (i : Nat) (x : E), told[i]? = some x → x.n.1 = (i : Int) + 1
  short : ∀ x ∈ told, x.s.size ≤ 100
theorem Num.nil : Num [] := ⟨fun i x h => by simp at h, fun x h => by cases h⟩
theorem Num.step {told told' : List E} {a n err : Int} {s : ByteArray} (h : Num told) (hs : s.size ≤ 100) (ht : Tld told a n s told' err) : Num told' := by
  rcases ht with ⟨_, h2, _⟩ | ⟨_, _, h2, _⟩ | ⟨_, _, _, p, h2, q1, _, _, q4⟩
  · rw [h2]; exact h
  · rw [h2]; exact h
  · subst h2
    refine ⟨fun i x hx => ?_, fun x hx => ?_⟩
    · by_cases hi : i < told.length
      · rw [List.getElem?_append_left hi] at hx
        exact h.num i x hx
      · have hi2 : i = told.length := by
          have := (List.getElem?_eq_some_iff.1 hx).1
          simp at this
          omega
        subst hi2
        simp at hx
        rw [← hx, q1]
    · rcases List.mem_append.1 hx with hx | hx
      · exact h.short x hx
      · simp at hx
        rw [hx, q4]
        exact hs
theorem since_len {told : List E} (h : ∀ (i : Nat) (x : E), told[i]? = some x → x.n.1 = (i : Int) + 1) (n : Int) : ((sinceL told n).length : Int) = max ((told.length : Int) - max n 0) 0 := by
  have key : ∀ k : Nat, k ≤ told.length → ((sinceL (told.take k) n).length : Int) = max ((k : Int) - max n 0) 0 := by
    intro k
    induction k with
    | zero => intro _; simp [sinceL, stay]; omega
    | succ k ih =>
      intro hk
      have h1 := ih (by omega)
      obtain ⟨p, hp⟩ : ∃ p, told[k]? = some p := ⟨_, List.getElem?_eq_getElem (by omega)⟩
      have h2 := h k p hp
      rw [List.take_add_one, hp]
      show (((stay (fun x => decide (x.n.1 ≤ n)) (told.take k ++ [p])).length : Nat) : Int) = _
      have h3 : (((stay (fun x => decide (x.n.1 ≤ n)) (told.take k)).length : Nat) : Int) = max ((k : Int) - max n 0) 0 := h1
      rw [stay_snoc]
      by_cases hq : p.n.1 ≤ n
      · rw [if_pos (decide_eq_true hq), List.append_nil, h3]
        omega
      · rw [if_neg (by simpa using hq)]
        simp only [List.length_append, List.length_cons, List.length_nil]
        omega
  have := key told.length (Nat.le_refl _)
  rw [List.take_length] at this
  exact this
theorem last_there (xs : List E) (n : Int) : lastN xs n = thereL xs (max n 0) := by
  unfold lastN thereL
  split
  · congr 1; omega
  · rw [show xs.length - (min (max n 0) (xs.length : Int)).toNat = 0 by omega, List.drop_zero]
theorem there_len (xs : List E) (r : Int) : (thereL xs r).length ≤ xs.length := by
  unfold thereL
  split
  · rw [List.length_drop]; omega
  · exact Nat.le_refl _
theorem there_mem (xs : List E) (r : Int) : ∀ x ∈ thereL xs r, x ∈ xs := by
  unfold thereL
  split
  · exact fun x hx => List.mem_of_mem_drop hx
  · exact fun x hx => hx
theorem CR.ring {B : Nat} {w : World} {g : Nat} {v : Value} {room : Nat} {told : List E} (h : CR B w g v room told) (hrm : room ≤ 1000) : ∃ ring k, CH B w g v ring (room : Int) ((k : Nat) : Int) (told.length : Int) (lastA told) ∧ k ≤ ring.length ∧ ring.length ≤ 1000 ∧ ring.drop k ++ ring.take k = thereL told room := by
  obtain ⟨ring, k, h1, h2⟩ := h
  exact ⟨ring, k, h1, h2.k, Nat.le_trans h2.le hrm, h2.all⟩
theorem last_any {B g : Nat} {v : Value} {room : Nat} {told : List E} {w : World} (n : Int) (h : CR B w g v room told) (hrm : room ≤ 1000) :
    Calls Tryd.prog 25 #[.pointer (some ⟨g, 0, none⟩), .int .i64 n] w fun e w' => ∃ A c, e = .returned (.slice A (lastN (thereL told room) n).length c) ∧ Kd.C kE w' A (lastN (thereL told room) n).length (lastN (thereL told room) n) ∧ Below w.heap.size w w' := by
  obtain ⟨ring, k, h1, hk, hl, he⟩ := h.ring hrm
  have := last_calls B g v ring room told.length (lastA told) k n w h1 hk hl
  rw [he] at this
  exact this
theorem since_any {B g : Nat} {v : Value} {room : Nat} {told : List E} {w : World} (n : Int) (h : CR B w g v room told) (hr : 0 < room) (hrm : room ≤ 1000) (ht : told.length ≤ 1000) (hn : i64 n) :
    Calls Tryd.prog 22 #[.pointer (some ⟨g, 0, none⟩), .int .i64 n] w fun e w' => ∃ v', e = .returned (.tuple #[v', .bool (((sinceL (thereL told room) n).length : Int) == max ((told.length : Int) - max n 0) 0)]) ∧ RE w' w.heap.size v' (sinceL (thereL told room) n) ∧ Below w.heap.size w w' := by
  obtain ⟨ring, k, h1, hk, hl, he⟩ := h.ring hrm
  have := since_calls B g v ring room told.length (lastA told) k n w h1 (by omega) hk hl (by omega) (by omega) hn
  rw [he] at this
  exact this
theorem of_any {B g : Nat} {v : Value} {room : Nat} {told : List E} {w : World} (n : Int) (h : CR B w g v room told) (hrm : room ≤ 1000) :
    Calls Tryd.prog 26 #[.pointer (some ⟨g, 0, none⟩), .int .i64 n] w fun e w' => ∃ v', e = .returned v' ∧ RE w' w.heap.size v' (ofL (thereL told room) n) ∧ Below w.heap.size w w' := by
  obtain ⟨ring, k, h1, hk, hl, he⟩ := h.ring hrm
  have := of_calls B g v ring room told.length (lastA told) k n w h1 hk hl
  rw [he] at this
  exact this
theorem many_any {B g : Nat} {v : Value} {room : Nat} {told : List E} {w : World} (h : CR B w g v room told) : Calls Tryd.prog 28 #[.pointer (some ⟨g, 0, none⟩)] w fun e w' => e = .returned (.int .i64 told.length) ∧ w = w' := by
  obtain ⟨ring, k, h1, _⟩ := h
  exact many_calls B g v ring room k told.length (lastA told) w h1
theorem RI.sub {room : Nat} {told ring : List E} {k : Nat} (h : RI room told ring k) : ∀ x ∈ ring, x ∈ told := by
  intro x hx
  have h1 : x ∈ ring.drop k ++ ring.take k := by
    rw [← List.take_append_drop k ring] at hx
    rcases List.mem_append.1 hx with hx | hx
    · exact List.mem_append_right _ hx
    · exact List.mem_append_left _ hx
  rw [h.all] at h1
  exact there_mem _ _ x h1
theorem text_any {B g : Nat} {v : Value} {room : Nat} {told : List E} {w : World} (h : CR B w g v room told) (hrm : room ≤ 1000) (hN : Num told) (ht : Tab w) :
    Calls Tryd.prog 29 #[.pointer (some ⟨g, 0, none⟩)] w fun e w' => e = .returned (.string ⟨(textL (thereL told room)).toArray⟩) ∧ Below w.heap.size w w' := by
  obtain ⟨ring, k, h1, h2⟩ := h
  have := text_calls B g v ring room told.length (lastA told) k w h1 h2.k (Nat.le_trans h2.le hrm) (fun x hx => hN.short x (h2.sub x hx)) ht
  rw [h2.all] at this
  exact this
/-- A row of one's own behind Tell. -/
theorem RE_kr {w w1 : World} {B g : Nat} {v vr : Value} {xs : List E} (h : RE w B v xs) (hk : KR g vr w w1) (hg : v.ownBlock ≠ some g) (hv : ∀ b, v.ownBlock = some b → vr.ownBlock ≠ some b) : RE w1 B v xs := by
  obtain ⟨h0, inner, ⟨h1, h2⟩, hr⟩ := h
  refine ⟨h0, inner, ⟨h1, ?_⟩, hr.imp_ (fun p c hp => KMM hp)⟩
  rcases h2 with h2 | ⟨gb, cap, cur, rfl, hgb, hh, r⟩
  · exact .inl h2
  · exact .inr ⟨gb, cap, cur, rfl, hgb, by rw [hk.other gb (blk_lt hh) (fun e => hg (by rw [← e]; rfl)) (hv gb rfl)]; exact hh, r⟩
theorem RE_neq {w : World} {B g : Nat} {v : Value} {xs : List E} {cs : Array Value} (h : RE w B v xs) (hg : w.heap[g]? = some (.cells cs 65 (0, 0))) : v.ownBlock ≠ some g := by
  intro e
  obtain ⟨_, inner, ⟨_, hown⟩, _⟩ := h
  rcases hown with ⟨h1, _⟩ | ⟨g2, cap, cur, h1, _, hh, _⟩
  · rw [h1] at e
    simp [Value.ownBlock] at e
  · rw [h1] at e
    have : g2 = g := by simpa [Value.ownBlock] using e
    subst this
    rw [hh] at hg
    simp at hg
theorem RE_lt {w : World} {B : Nat} {v : Value} {xs : List E} (h : RE w B v xs) : ∀ b, v.ownBlock = some b → b < w.heap.size := by
  intro b e
  obtain ⟨_, inner, ⟨_, hown⟩, _⟩ := h
  rcases hown with ⟨h1, _⟩ | ⟨g2, cap, cur, h1, _, hh, _⟩
  · rw [h1] at e
    simp [Value.ownBlock] at e
  · rw [h1] at e
    have : g2 = b := by simpa [Value.ownBlock] using e
    subst this
    exact blk_lt hh
/-- The chronicle, and all that was told as the reference has it. -/
structure JS (B : Nat) (w : World) (g : Nat) (v va : Value) (room : Nat) (told : List E) : Prop where
  cr : CR B w g v room told
  all : RE w B va told
  apart : ∀ b, va.ownBlock = some b → v.ownBlock ≠ some b
theorem JS.below {B : Nat} {w w1 : World} {g : Nat} {v va : Value} {room : Nat} {told : List E} (h : JS B w g v va room told) (hb : Below w.heap.size w w1) : JS B w1 g v va room told := ⟨h.cr.below hb, Kd.R_below h.all hb, h.apart⟩
/-- The reference tells. -/
theorem JS.ref {B : Nat} {w w1 : World} {g : Nat} {v va : Value} {room : Nat} {told : List E} {a n : Int} {s : ByteArray} {A : Option Addr} {c : Nat} {e : Ending} (h : JS B w g v va room told) (hB : B ≤ w.heap.size) (ha : i64 a) (hn : i64 n) (ht : told.length ≤ 999) (hva : va = .slice A told.length c) (hP : TellP A c told a n s w e w1) :
    ∃ va' told' err, e = .returned (.tuple #[va', .int .i64 err]) ∧ Tld told a n s told' err ∧ Below w.heap.size w w1 ∧ RE w1 B va' told' ∧ (∀ b, va'.ownBlock = some b → v.ownBlock ≠ some b) := by
  have h64 : i64 ((told.length : Int) + 1) := by unfold i64; omega
  have hla : ∀ x, told[told.length - 1]? = some x → lastA told = x.a.1 := fun x hx => by unfold lastA; rw [hx]
  rcases hP with ⟨h1, h2, h3⟩ | ⟨h1, ⟨x, hx, hax⟩, h2, h3⟩ | ⟨h1, hx, v', h2, h3, h4⟩
  · exact ⟨va, told, 1, by rw [h2, hva], .inl ⟨h1, rfl, rfl⟩, h3, Kd.R_below h.all h3, h.apart⟩
  · exact ⟨va, told, 10, by rw [h2, hva], .inr (.inl ⟨h1, by rw [hla x hx]; exact hax, rfl, rfl⟩), h3, Kd.R_below h.all h3, h.apart⟩
  · have hR := h3 h64 ha hn
    refine ⟨v', _, 0, h2, .inr (.inr ⟨h1, ?_, rfl, _, rfl, rfl, rfl, rfl, rfl⟩), h4, Kd.R_lower hR hB, fun b hb hv => ?_⟩
    · cases hq : told[told.length - 1]? with
      | some x => rw [hla x hq]; exact hx x hq
      | none =>
        have : lastA told = 0 := by unfold lastA; rw [hq]
        rw [this]
        unfold mayB at h1
        simp only [Bool.and_eq_true, decide_eq_true_eq] at h1
        exact h1.1.1.1
    · obtain ⟨ring, k, q1, _⟩ := h.cr.ch
      have := RE_lt q1.row b hv
      have := Kd.R_base hR b hb
      omega
/-- The chronicle tells. -/
theorem JS.tell {B : Nat} {w w2 : World} {g : Nat} {v v2 va : Value} {room : Nat} {told told' : List E} (h : CR B w g v room told) (hR : RE w B va told') (hap : ∀ b, va.ownBlock = some b → v.ownBlock ≠ some b) (h2 : CR B w2 g v2 room told') (hk : KR g v w w2) (ho : v2.ownBlock = v.ownBlock ∨ ∃ b, v2.ownBlock = some b ∧ w.heap.size ≤ b) : JS B w2 g v2 va room told' := by
  obtain ⟨ring, k, q1, _⟩ := h.ch
  refine ⟨h2, RE_kr hR hk (RE_neq hR q1.blk) hap, fun b hb hv => ?_⟩
  rcases ho with ho | ⟨b2, ho, hlt⟩
  · rw [ho] at hv
    exact hap b hb hv
  · have := RE_lt hR b hb
    rw [ho] at hv
    injection hv with hv
    omega
end Go.Proofs.YthimnnnfgangbaaDoor.Cn

namespace Go.Proofs.YthimnnnfgangbaaDoor.Cn
open Go.Proofs.YthimnnnfgangbaaDoor.Ts (cell_lt)
open Go.RowKit Go.Proofs.YthimnnnfgangbaaDoorW.PrintWords Go.Proofs.YthimnnnfgangbaaDoorW.PrintLast Go.Proofs.YthimnnnfgangbaaDoorW.PrintMore Go.Proofs.YthimnnnfgangbaaDoor.Qr
theorem Tld.yes {told told' : List E} {a n err : Int} {s : ByteArray} (h : Tld told a n s told' err) (hm : mayB a n s = true) (hl : lastA told ≤ a) : err = 0 ∧ ∃ p : E, told' = told ++ [p] ∧ p.n.1 = (told.length : Int) + 1 ∧ p.a.1 = a ∧ p.d.1 = n ∧ p.s = s := by
  rcases h with ⟨h1, _⟩ | ⟨_, h2, _⟩ | ⟨_, _, h3, h4⟩
  · rw [hm] at h1; cases h1
  · omega
  · exact ⟨h3, h4⟩
theorem CR.start {w w' : World} {r : Int} {v : Value} (h : CH w.heap.size w' w.heap.size v [] r 0 0 0) (room : Nat) (hr : r = (room : Int)) (h0 : 0 < room) : CR w.heap.size w' w.heap.size v room [] := by
  subst hr
  exact ⟨[], 0, h, RI.start h0⟩
theorem CR.frame {B : Nat} {w w' : World} {g : Nat} {v : Value} {room : Nat} {told : List E} (h : CR B w g v room told) (hk : KR g v w w') (hB : B ≤ w.heap.size) : Below B w w' := hk.below h.base.1 h.base.2 hB
attribute [local go_sem high] eqA93
set_option maxHeartbeats 3200000 in
set_option maxRecDepth 100000 in
theorem awake_calls (w : World) : Calls Tryd.prog 17 #[] w fun e w' => e = .returned (.bool true) ∧ Below w.heap.size w w' := by
  obtain ⟨B, hB⟩ : ∃ B, w.heap.size = B := ⟨_, rfl⟩
  have HBE := Aside0.mk hB
  go_enter Tryd.func17, Tryd.ntmps17
  go_wp2_with fail
  refine (new_yes 1 w (by omega) (by omega)).mono ?_
  rintro e w1 ⟨rfl, hc, hb⟩
  have h1 := CR.start hc 1 rfl (by omega)
  rw [hB] at h1 hb ⊢
  have H1 := Aside0.mk h1
  have HB1 := Aside0.mk hb
  have HS1 : Aside0 (B ≤ w1.heap.size) := ⟨by rw [← hB]; exact hb.size⟩
  clear hc hb h1 hB
  go_wp2_with fail
  refine (tell_any B B _ 1 [] 1 2 ⟨#[117, 112]⟩ w1 H1.out (by omega) (by omega) (by simp) (by decide) (by unfold i64; omega) (by unfold i64; omega)).mono ?_
  rintro e w2 ⟨v2, t2, e2, rfl, ht, hc, hk, ho⟩
  obtain ⟨rfl, p, rfl, p1, p2, p3, p4⟩ := ht.yes (by decide) (by decide)
  have H2 := Aside0.mk hc
  have HB2 : Aside0 (Below B w w2) := ⟨HB1.out.trans (H1.out.frame hk HS1.out)⟩
  have HS2 : Aside0 (B ≤ w2.heap.size) := ⟨Nat.le_trans HS1.out hk.size⟩
  have HLA : Aside0 (lastA ([] ++ [p]) = 1) := ⟨by rw [lastA_snoc, p2]⟩
  clear ht hc hk ho H1 HB1 HS1 p1 p2 p3 p4
  go_wp2_with fail
  refine (tell_any B B _ 1 ([] ++ [p]) 1 3 ⟨#[100, 111, 119, 110]⟩ w2 H2.out (by omega) (by omega) (by simp) (by decide) (by unfold i64; omega) (by unfold i64; omega)).mono ?_
  rintro e w3 ⟨v3, t3, e3, rfl, ht, hc, hk, ho⟩
  obtain ⟨rfl, q, rfl, q1, q2, q3, q4⟩ := ht.yes (by decide) (by rw [HLA.out]; decide)
  have H3 := Aside0.mk hc
  have HB3 : Aside0 (Below B w w3) := ⟨HB2.out.trans (H2.out.frame hk HS2.out)⟩
  have HS3 : Aside0 (B ≤ w3.heap.size) := ⟨Nat.le_trans HS2.out hk.size⟩
  have HQ : Aside0 (q.n.1 = 2 ∧ q.a.1 = 1 ∧ q.d.1 = 3 ∧ q.s = ⟨#[100, 111, 119, 110]⟩) := ⟨by rw [q1]; rfl, q2, q3, q4⟩
  clear ht hc hk ho H2 HB2 HS2 q1 q2 q3 q4
  go_wp2_with fail
  refine (last_any 5 H3.out (by omega)).mono ?_
  have hl : lastN (thereL ([] ++ [p] ++ [q]) (1 : Nat)) 5 = [q] := by
    unfold thereL
    simp [lastN]
    rfl
  rw [hl]
  rintro e w4 ⟨A, c, rfl, hC, hb⟩
  have HB4 : Aside0 (Below B w w4) := ⟨HB3.out.trans (hb.mono HS3.out)⟩
  obtain ⟨ad, x, rfl, hx, c0, c1, c2, c3⟩ := atE (xs := [q]) hC (k := 0) (by simp)
  simp only [List.getElem?_cons_zero, Option.some.injEq] at hx
  subst hx
  rw [HQ.out.1] at c0
  rw [HQ.out.2.1] at c1
  rw [HQ.out.2.2.1] at c2
  rw [HQ.out.2.2.2] at c3
  rw [Nat.zero_mul, addr_zero] at c0 c1 c2 c3
  clear hC hb hl
  go_wp2_with fail
  all_goals
    have he : eqb 2 1 3 ⟨#[100, 111, 119, 110]⟩ 2 1 3 ⟨#[100, 111, 119, 110]⟩ = true := by simp [eqb]
    rw [he]
    go_ret
    exact ⟨rfl, by rw [HBE.out]; exact HB4.out⟩
end Go.Proofs.YthimnnnfgangbaaDoor.Cn

namespace Go.Proofs.YthimnnnfgangbaaDoor.Cn
open Go.Proofs.YthimnnnfgangbaaDoor.Ts (cell_lt)
open Go.RowKit Go.Proofs.YthimnnnfgangbaaDoorW.PrintWords Go.Proofs.YthimnnnfgangbaaDoorW.PrintLast Go.Proofs.YthimnnnfgangbaaDoorW.PrintMore Go.Proofs.YthimnnnfgangbaaDoor.Qr
/-- What is to be told, and a number. -/
structure TT where
  a : I64
  d : I64
  s : ByteArray
  n : I64
def zT : TT := ⟨zI, zI, ⟨#[]⟩, zI⟩
instance : Inhabited TT := ⟨zT⟩
def kT : Kd TT := Kd.iso (Kd.pair kI (Kd.pair kI (Kd.pair Kd.string kI))) (fun x : TT => (x.a, x.d, x.s, x.n))
abbrev cT (x : TT) : List Value := [.int .i64 x.a.1, .int .i64 x.d.1, .string x.s, .int .i64 x.n.1]
theorem kT_open {w : World} {x : TT} {cs : List Value} (h : kT.K w x cs) : cs = cT x := by
  obtain ⟨_, _, rfl, rfl, ⟨_, _, rfl, rfl, ⟨_, _, rfl, rfl, rfl⟩⟩⟩ := h
  exact rfl
theorem atT {w : World} {A : Option Addr} {xs : List TT} (h : Kd.C kT w A xs.length xs) {k : Nat} (hk : k < xs.length) : ∃ ad x, A = some ad ∧ xs[k]? = some x ∧ w.cell? (ad.add (k * 4)) = some (.int .i64 x.a.1) ∧ w.cell? ⟨(ad.add (k * 4)).block, (ad.add (k * 4)).off + 1, none⟩ = some (.int .i64 x.d.1) ∧ w.cell? ⟨(ad.add (k * 4)).block, (ad.add (k * 4)).off + 2, none⟩ = some (.string x.s) ∧ w.cell? ⟨(ad.add (k * 4)).block, (ad.add (k * 4)).off + 3, none⟩ = some (.int .i64 x.n.1) := by
  obtain ⟨ad, x, c, e, hx, hK, hc0⟩ := el_at zT h hk
  have hc : ∀ j u, c[j]? = some u → w.cell? (ad.add (k * 4 + j)) = some u := hc0
  obtain rfl := kT_open hK
  exact ⟨ad, x, e, hx, hc 0 _ rfl, by rw [← add_field _ _ 1 (by omega)]; exact hc 1 _ rfl, by rw [← add_field _ _ 2 (by omega)]; exact hc 2 _ rfl, by rw [← add_field _ _ 3 (by omega)]; exact hc 3 _ rfl⟩
theorem same_eq {A A2 : Option Addr} {c c2 : Nat} {xs : List E} {w : World} (hx : Kd.C kE w A xs.length xs) (hy : Kd.C kE w A2 xs.length xs) (hl : xs.length ≤ 1000) :
    Calls Tryd.prog 24 #[.slice A xs.length c, .slice A2 xs.length c2] w fun e w' => e = .returned (.bool true) ∧ Below w.heap.size w w' := by
  refine (same_calls A A2 c c2 xs xs w hx hy hl hl).mono ?_
  rintro e w' ⟨r, rfl, h1, h2⟩
  have : r = true := h1.2 rfl
  rw [this]
  exact ⟨rfl, h2⟩
/-- What the region of answers finds. -/
structure Ans (B : Nat) (w : World) (v : Value) (room : Nat) (told : List E) (n d : Int) (Aa : Option Addr) (ca : Nat) (A2 : Option Addr) (c2 : Nat) (L1 S1 O1 : List E) (m2 : Nat) (T1 : List UInt8) : Prop where
  cr : CR B w B v room told
  room0 : 0 < room
  room1 : room ≤ 1000
  few : told.length ≤ 60
  num : Num told
  hn : i64 n
  tab : Tab w
  all : Kd.C kE w Aa told.length told
  w2 : Kd.C kE w A2 (thereL told room).length (thereL told room)
  l1 : lastN (thereL told room) n = L1
  s1 : sinceL (thereL told room) n = S1
  o1 : ofL (thereL told room) d = O1
  m2 : (sinceL told n).length = m2
  t1 : textL (thereL told room) = T1
section
variable {B : Nat} {w W : World} {v : Value} {room : Nat} {told : List E} {n d : Int} {Aa : Option Addr} {ca : Nat} {A2 : Option Addr} {c2 : Nat} {L1 S1 O1 : List E} {m2 : Nat} {T1 : List UInt8} {p : Prop}
theorem Ans.there (h : Ans B w v room told n d Aa ca A2 c2 L1 S1 O1 m2 T1) : (thereL told room).length ≤ 60 := Nat.le_trans (there_len _ _) h.few
theorem Ans.k25 (h : Aside0 (Ans B w v room told n d Aa ca A2 c2 L1 S1 O1 m2 T1)) (hb : p ∧ Aside0 (Below w.heap.size w W)) :
    Calls Tryd.prog 25 #[.pointer (some ⟨B, 0, none⟩), .int .i64 n] W fun e w' => (∃ A c, e = .returned (.slice A L1.length c) ∧ Aside0 (Kd.C kE w' A L1.length L1)) ∧ Below W.heap.size W w' := by
  have h1 := last_any n (h.out.cr.below hb.2.out) h.out.room1
  rw [h.out.l1] at h1
  exact h1.mono fun e w' ⟨A, c, h1, h2, h3⟩ => ⟨⟨A, c, h1, ⟨h2⟩⟩, h3⟩
theorem Ans.k23 (h : Aside0 (Ans B w v room told n d Aa ca A2 c2 L1 S1 O1 m2 T1)) (hb : p ∧ Aside0 (Below w.heap.size w W)) :
    Calls Tryd.prog 23 #[.slice Aa told.length ca, .int .i64 n] W fun e w' => (∃ A c, e = .returned (.slice A m2 c)) ∧ Below W.heap.size W w' := by
  have h1 := refSince_calls Aa ca told n W (Kd.C_below h.out.all hb.2.out) (by have := h.out.few; omega)
  refine h1.mono ?_
  rintro e w' ⟨v', rfl, hR, hb'⟩
  obtain ⟨A, c, rfl, _, _⟩ := Kd.R_reads hR
  rw [h.out.m2]
  exact ⟨⟨A, c, rfl⟩, hb'⟩
theorem Ans.k26 (h : Aside0 (Ans B w v room told n d Aa ca A2 c2 L1 S1 O1 m2 T1)) (hb : p ∧ Aside0 (Below w.heap.size w W)) :
    Calls Tryd.prog 26 #[.pointer (some ⟨B, 0, none⟩), .int .i64 d] W fun e w' => (∃ A c, e = .returned (.slice A O1.length c) ∧ Aside0 (Kd.C kE w' A O1.length O1)) ∧ Below W.heap.size W w' := by
  have h1 := of_any d (h.out.cr.below hb.2.out) h.out.room1
  rw [h.out.o1] at h1
  refine h1.mono ?_
  rintro e w' ⟨v', rfl, hR, hb'⟩
  obtain ⟨A, c, rfl, _, hC⟩ := Kd.R_reads hR
  exact ⟨⟨A, c, rfl, ⟨hC⟩⟩, hb'⟩
theorem Ans.k27 (h : Aside0 (Ans B w v room told n d Aa ca A2 c2 L1 S1 O1 m2 T1)) (hb : p ∧ Aside0 (Below w.heap.size w W)) :
    Calls Tryd.prog 27 #[.slice A2 (thereL told room).length c2, .int .i64 d] W fun e w' => (∃ A c, e = .returned (.slice A O1.length c) ∧ Aside0 (Kd.C kE w' A O1.length O1)) ∧ Below W.heap.size W w' := by
  have h1 := refOf_calls A2 c2 (thereL told room) d W (Kd.C_below h.out.w2 hb.2.out) (by have := h.out.there; omega)
  rw [h.out.o1] at h1
  refine h1.mono ?_
  rintro e w' ⟨v', rfl, hR, hb'⟩
  obtain ⟨A, c, rfl, _, hC⟩ := Kd.R_reads hR
  exact ⟨⟨A, c, rfl, ⟨hC⟩⟩, hb'⟩
theorem Ans.k28 (h : Aside0 (Ans B w v room told n d Aa ca A2 c2 L1 S1 O1 m2 T1)) (hb : p ∧ Aside0 (Below w.heap.size w W)) :
    Calls Tryd.prog 28 #[.pointer (some ⟨B, 0, none⟩)] W fun e w' => e = .returned (.int .i64 told.length) ∧ Below W.heap.size W w' := by
  refine (many_any (h.out.cr.below hb.2.out)).mono ?_
  rintro e w' ⟨rfl, rfl⟩
  exact ⟨rfl, Below.refl _ _⟩
theorem Ans.k29 (h : Aside0 (Ans B w v room told n d Aa ca A2 c2 L1 S1 O1 m2 T1)) (hb : p ∧ Aside0 (Below w.heap.size w W)) :
    Calls Tryd.prog 29 #[.pointer (some ⟨B, 0, none⟩)] W fun e w' => e = .returned (.string ⟨T1.toArray⟩) ∧ Below W.heap.size W w' := by
  have h1 := text_any (h.out.cr.below hb.2.out) h.out.room1 h.out.num (tab_below h.out.tab hb.2.out)
  rw [h.out.t1] at h1
  exact h1
theorem Ans.k30 (h : Aside0 (Ans B w v room told n d Aa ca A2 c2 L1 S1 O1 m2 T1)) (hb : p ∧ Aside0 (Below w.heap.size w W)) :
    Calls Tryd.prog 30 #[.slice A2 (thereL told room).length c2] W fun e w' => e = .returned (.string ⟨T1.toArray⟩) ∧ Below W.heap.size W w' := by
  have h1 := refText_calls A2 c2 (thereL told room) W (Kd.C_below h.out.w2 hb.2.out) (by have := h.out.there; omega) (fun x hx => h.out.num.short x (there_mem _ _ x hx))
  rw [h.out.t1] at h1
  exact h1
theorem k24b {A A' : Option Addr} {c c' : Nat} (hx : Aside0 (Kd.C kE w A S1.length S1)) (hy : Aside0 (Kd.C kE w A' S1.length S1)) (hl : Aside0 (S1.length ≤ 1000)) (hb : p ∧ Aside0 (Below w.heap.size w W)) :
    Calls Tryd.prog 24 #[.slice A S1.length c, .slice A' S1.length c'] W fun e w' => e = .returned (.bool true) ∧ Below W.heap.size W w' := same_eq (Kd.C_below hx.out hb.2.out) (Kd.C_below hy.out hb.2.out) hl.out
theorem k24a {A A' : Option Addr} {c c' : Nat} (hx : Aside0 (Kd.C kE W A S1.length S1)) (hy : Aside0 (Kd.C kE w A' S1.length S1)) (hl : Aside0 (S1.length ≤ 1000)) (hb : p ∧ Aside0 (Below w.heap.size w W)) :
    Calls Tryd.prog 24 #[.slice A S1.length c, .slice A' S1.length c'] W fun e w' => e = .returned (.bool true) ∧ Below W.heap.size W w' := same_eq hx.out (Kd.C_below hy.out hb.2.out) hl.out
theorem k24c {A A' : Option Addr} {c c' : Nat} {w1 : World} (hx : Aside0 (Kd.C kE w1 A S1.length S1)) (hw : Aside0 (Below w1.heap.size w1 W)) (hy : Aside0 (Kd.C kE W A' S1.length S1)) (hl : Aside0 (S1.length ≤ 1000)) :
    Calls Tryd.prog 24 #[.slice A S1.length c, .slice A' S1.length c'] W fun e w' => e = .returned (.bool true) ∧ Below W.heap.size W w' := same_eq (Kd.C_below hx.out hw.out) hy.out hl.out
end
end Go.Proofs.YthimnnnfgangbaaDoor.Cn
