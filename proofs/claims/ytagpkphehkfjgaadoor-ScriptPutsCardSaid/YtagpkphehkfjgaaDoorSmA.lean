/- Contracts of the script's number and form, for every input. Kinds of tears and acts; contract of the script's torn, for every text of bounded length. Contract of the script's torn, for every text of bounded length. Plain laws on filling an act from its line's words. Without conditions. Contracts of the script's at and fill. Contract of the script's fill. Contract of the script's read. Contract of the script's Get, for every text of bounded length. -/
import Derived.Test.YtagpkphehkfjgaaDoorSmP
import Derived.Deep.RegionLaw
import Derived.Deep.AppendLies
set_option linter.unusedVariables false
set_option linter.unusedSimpArgs false
namespace Go.Proofs.YtagpkphehkfjgaaDoor.Sc
open Go.RowKit Go.Proofs.YtagpkphehkfjgaaDoorW.PrintWords Go.Proofs.YtagpkphehkfjgaaDoorW.PrintLast Go.Proofs.YtagpkphehkfjgaaDoorW.PrintMore Go.Proofs.YtagpkphehkfjgaaDoor.Px
set_option maxHeartbeats 1600000 in
set_option maxRecDepth 100000 in
theorem snumber_calls (l : List UInt8) (w : World) (hl : l.length ≤ 100000) (hg : Gl w) :
    Calls Tryd.prog 83 #[Sv l] w fun e w' => (∃ v b, e = .returned (.tuple #[.int .i64 v, .bool b]) ∧ ND l 1073741824 v b) ∧ Below w.heap.size w w' := by
  have HG := Aside0.mk hg
  have HL := Aside0.mk hl
  have HM : Aside0 ((1073741824 : Nat) ≤ 1000000000000) := ⟨by decide⟩
  clear hg hl
  go_enter Tryd.func83, Tryd.ntmps83
  go_wp2_with fail
  refine (atoi_calls l w HL.out HG.out).mono ?_
  rintro e w1 ⟨⟨v, er, rfl, h⟩, hb⟩
  have HB := Aside0.mk hb
  clear hb
  have HI := Aside0.mk (num_iff l 1073741824 (by have := HM.out; omega) v)
  rcases h with ⟨rfl, ha⟩ | ⟨N, rfl, ha⟩
  · by_cases h0 : 0 ≤ v
    · have d0 : decide (0 ≤ v) = true := decide_eq_true h0
      by_cases h1 : v ≤ (1073741824 : Int)
      · have d1 : decide (v ≤ (1073741824 : Int)) = true := decide_eq_true h1
        have H0 := Aside0.mk h0
        have H1 := Aside0.mk h1
        have HA := Aside0.mk ha
        clear h0 h1 ha
        go_wp2_with fail
        refine (itoa_calls v (by have := H0.out; omega) (by have := H1.out; have := HM.out; omega) _ (HG.out.below HB.out).tab).mono ?_
        rintro e w2 ⟨rfl, hb⟩
        have HB2 := Aside0.mk (below_step HB.out hb)
        clear hb
        by_cases h2 : Lib.itoa v = l
        · have hq : (Lib.itoa v == l) = true := beq_iff_eq.2 h2
          have HE : Aside0 (ND l 1073741824 v true) := ⟨Or.inl ⟨rfl, by
            obtain ⟨n, h3, h4, h5⟩ := HI.out.1 ⟨HA.out, H0.out, H1.out, h2⟩
            exact ⟨n, ⟨h3, h4⟩, h5⟩⟩⟩
          clear h2
          go_wp2
          go_ret2
          exact ⟨⟨_, _, rfl, HE.out⟩, HB2.out⟩
        · have hq : (Lib.itoa v == l) = false := beq_eq_false_iff_ne.2 h2
          have HE : Aside0 (ND l 1073741824 v false) := ⟨Or.inr ⟨rfl, fun n hn => h2 (by
            have := (HI.out.2 ⟨n, hn.1, hn.2, by
              have ha := HA.out
              rw [hn.1, atoi_dd (by have := hn.2; have := HM.out; omega)] at ha
              injection ha with ha
              exact ha.symm⟩).2.2.2
            exact this)⟩⟩
          clear h2
          go_wp2
          go_ret2
          exact ⟨⟨_, _, rfl, HE.out⟩, HB2.out⟩
      · have d1 : decide (v ≤ (1073741824 : Int)) = false := decide_eq_false h1
        have HE : Aside0 (ND l 1073741824 v false) := ⟨Or.inr ⟨rfl, fun n hn => h1 (by
          rw [hn.1, atoi_dd (by have := hn.2; have := HM.out; omega)] at ha
          injection ha with ha
          have := hn.2
          omega)⟩⟩
        clear h0 h1 ha
        go_wp2
        go_ret2
        exact ⟨⟨_, _, rfl, HE.out⟩, HB.out⟩
    · have d0 : decide (0 ≤ v) = false := decide_eq_false h0
      have HE : Aside0 (ND l 1073741824 v false) := ⟨Or.inr ⟨rfl, fun n hn => h0 (by
        rw [hn.1, atoi_dd (by have := hn.2; have := HM.out; omega)] at ha
        injection ha with ha
        omega)⟩⟩
      clear h0 ha
      go_wp2
      go_ret2
      exact ⟨⟨_, _, rfl, HE.out⟩, HB.out⟩
  · have HE : Aside0 (ND l 1073741824 v false) := ⟨Or.inr ⟨rfl, fun n hn => by
      have h := hn.2
      exact ha _ (by rw [hn.1]; exact atoi_dd (by have := HM.out; omega))⟩⟩
    clear ha
    go_wp2
    go_ret2
    exact ⟨⟨_, _, rfl, HE.out⟩, HB.out⟩
theorem form_1 (w : World) : Calls Tryd.prog 64 #[.int .i64 (1 : Int)] w fun e w' => e = .returned (.tuple #[Sv (form 1).1, Sv (form 1).2]) ∧ w = w' := by
  go_enter Tryd.func64, Tryd.ntmps64
  go_wp2
  go_ret2
  exact ⟨rfl, rfl⟩
theorem form_2 (w : World) : Calls Tryd.prog 64 #[.int .i64 (2 : Int)] w fun e w' => e = .returned (.tuple #[Sv (form 2).1, Sv (form 2).2]) ∧ w = w' := by
  go_enter Tryd.func64, Tryd.ntmps64
  go_wp2
  go_ret2
  exact ⟨rfl, rfl⟩
theorem form_3 (w : World) : Calls Tryd.prog 64 #[.int .i64 (3 : Int)] w fun e w' => e = .returned (.tuple #[Sv (form 3).1, Sv (form 3).2]) ∧ w = w' := by
  go_enter Tryd.func64, Tryd.ntmps64
  go_wp2
  go_ret2
  exact ⟨rfl, rfl⟩
theorem form_4 (w : World) : Calls Tryd.prog 64 #[.int .i64 (4 : Int)] w fun e w' => e = .returned (.tuple #[Sv (form 4).1, Sv (form 4).2]) ∧ w = w' := by
  go_enter Tryd.func64, Tryd.ntmps64
  go_wp2
  go_ret2
  exact ⟨rfl, rfl⟩
theorem form_5 (w : World) : Calls Tryd.prog 64 #[.int .i64 (5 : Int)] w fun e w' => e = .returned (.tuple #[Sv (form 5).1, Sv (form 5).2]) ∧ w = w' := by
  go_enter Tryd.func64, Tryd.ntmps64
  go_wp2
  go_ret2
  exact ⟨rfl, rfl⟩
theorem form_6 (w : World) : Calls Tryd.prog 64 #[.int .i64 (6 : Int)] w fun e w' => e = .returned (.tuple #[Sv (form 6).1, Sv (form 6).2]) ∧ w = w' := by
  go_enter Tryd.func64, Tryd.ntmps64
  go_wp2
  go_ret2
  exact ⟨rfl, rfl⟩
theorem form_7 (w : World) : Calls Tryd.prog 64 #[.int .i64 (7 : Int)] w fun e w' => e = .returned (.tuple #[Sv (form 7).1, Sv (form 7).2]) ∧ w = w' := by
  go_enter Tryd.func64, Tryd.ntmps64
  go_wp2
  go_ret2
  exact ⟨rfl, rfl⟩
theorem form_8 (w : World) : Calls Tryd.prog 64 #[.int .i64 (8 : Int)] w fun e w' => e = .returned (.tuple #[Sv (form 8).1, Sv (form 8).2]) ∧ w = w' := by
  go_enter Tryd.func64, Tryd.ntmps64
  go_wp2
  go_ret2
  exact ⟨rfl, rfl⟩
theorem form_9 (w : World) : Calls Tryd.prog 64 #[.int .i64 (9 : Int)] w fun e w' => e = .returned (.tuple #[Sv (form 9).1, Sv (form 9).2]) ∧ w = w' := by
  go_enter Tryd.func64, Tryd.ntmps64
  go_wp2
  go_ret2
  exact ⟨rfl, rfl⟩
theorem form_10 (w : World) : Calls Tryd.prog 64 #[.int .i64 (10 : Int)] w fun e w' => e = .returned (.tuple #[Sv (form 10).1, Sv (form 10).2]) ∧ w = w' := by
  go_enter Tryd.func64, Tryd.ntmps64
  go_wp2
  go_ret2
  exact ⟨rfl, rfl⟩
theorem form_11 (w : World) : Calls Tryd.prog 64 #[.int .i64 (11 : Int)] w fun e w' => e = .returned (.tuple #[Sv (form 11).1, Sv (form 11).2]) ∧ w = w' := by
  go_enter Tryd.func64, Tryd.ntmps64
  go_wp2
  go_ret2
  exact ⟨rfl, rfl⟩
theorem form_12 (w : World) : Calls Tryd.prog 64 #[.int .i64 (12 : Int)] w fun e w' => e = .returned (.tuple #[Sv (form 12).1, Sv (form 12).2]) ∧ w = w' := by
  go_enter Tryd.func64, Tryd.ntmps64
  go_wp2
  go_ret2
  exact ⟨rfl, rfl⟩
theorem form_else (k : Int) (hk : ¬ (1 ≤ k ∧ k ≤ 12)) (w : World) : Calls Tryd.prog 64 #[.int .i64 k] w fun e w' => e = .returned (.tuple #[Sv (form k).1, Sv (form k).2]) ∧ w = w' := by
  have e : form k = ([], []) := by
    unfold form
    repeat rw [if_neg (by omega)]
  rw [e]
  have h1 : (k == 1) = false := by rw [beq_eq_false_iff_ne]; omega
  have h2 : (k == 2) = false := by rw [beq_eq_false_iff_ne]; omega
  have h3 : (k == 3) = false := by rw [beq_eq_false_iff_ne]; omega
  have h4 : (k == 4) = false := by rw [beq_eq_false_iff_ne]; omega
  have h5 : (k == 5) = false := by rw [beq_eq_false_iff_ne]; omega
  have h6 : (k == 6) = false := by rw [beq_eq_false_iff_ne]; omega
  have h7 : (k == 7) = false := by rw [beq_eq_false_iff_ne]; omega
  have h8 : (k == 8) = false := by rw [beq_eq_false_iff_ne]; omega
  have h9 : (k == 9) = false := by rw [beq_eq_false_iff_ne]; omega
  have h10 : (k == 10) = false := by rw [beq_eq_false_iff_ne]; omega
  have h11 : (k == 11) = false := by rw [beq_eq_false_iff_ne]; omega
  have h12 : (k == 12) = false := by rw [beq_eq_false_iff_ne]; omega
  clear hk e
  go_enter Tryd.func64, Tryd.ntmps64
  go_wp2
  go_ret2
  exact ⟨rfl, rfl⟩
theorem form_calls (k : Int) (w : World) : Calls Tryd.prog 64 #[.int .i64 k] w fun e w' => e = .returned (.tuple #[Sv (form k).1, Sv (form k).2]) ∧ w = w' := by
  by_cases hk : 1 ≤ k ∧ k ≤ 12
  · rcases kinds hk with rfl | rfl | rfl | rfl | rfl | rfl | rfl | rfl | rfl | rfl | rfl | rfl
    · exact form_1 w
    · exact form_2 w
    · exact form_3 w
    · exact form_4 w
    · exact form_5 w
    · exact form_6 w
    · exact form_7 w
    · exact form_8 w
    · exact form_9 w
    · exact form_10 w
    · exact form_11 w
    · exact form_12 w
  · exact form_else k hk w
end Go.Proofs.YtagpkphehkfjgaaDoor.Sc

namespace Go.Proofs.YtagpkphehkfjgaaDoor.Sc
open Go.RowKit Go.Proofs.YtagpkphehkfjgaaDoorW.PrintWords Go.Proofs.YtagpkphehkfjgaaDoorW.PrintLast Go.Proofs.YtagpkphehkfjgaaDoorW.PrintMore Go.Proofs.YtagpkphehkfjgaaDoor.Px
/-- A byte; a row of bytes; a tear; a row of tears; an act. -/
def kb : Kd UInt8 := Kd.iso (Kd.int .u8) (fun c : UInt8 => (c.toNat : Int))
def kBs : Kd (List UInt8) := Kd.slice 5 kb
def kTear : Kd Tear := Kd.iso (Kd.pair (Kd.int .i64) kBs) (fun t : Tear => (t.k, t.b))
def kTs : Kd (List Tear) := Kd.slice 77 kTear
def kAct : Kd Act := Kd.iso (Kd.pair (Kd.int .i64) (Kd.pair (Kd.int .i64) (Kd.pair (Kd.int .i64) (Kd.pair (Kd.int .i64) (Kd.pair (Kd.int .i64) (Kd.pair (Kd.int .i64) kTs)))))) (fun a : Act => (a.k, a.a, a.b, a.n, a.x, a.y, a.t))
theorem info5 : (Tryd.prog.info? 5).map (fun i => (i.zero, i.size, i.bytes)) = some (some (.int .u8 0), 1, 1) := by kernel_rfl
theorem kb_M (w : World) (base : Nat) (ok : Nat → Prop) (c : UInt8) : kb.M w base ok c [.int .u8 (c.toNat : Int)] := rfl
/-- A row of bytes of the call's own. -/
abbrev RB (w : World) (base : Nat) (ok : Nat → Prop) (v : Value) (l : List UInt8) : Prop := Kd.R kb 5 w base ok v l
theorem kTear_M {w : World} {base : Nat} {ok : Nat → Prop} {t : Tear} {v : Value} (h : RB w base ok v t.b) : kTear.M w base ok t [.int .i64 t.k, v] := ⟨[.int .i64 t.k], [v], rfl, rfl, v, rfl, h⟩
/-! A digit of sixteen, read. -/
def hexV (c : UInt8) : Int := Lib.indexByte [48, 49, 50, 51, 52, 53, 54, 55, 56, 57, 97, 98, 99, 100, 101, 102] c
set_option maxRecDepth 1000000 in
theorem hexV_fin : ∀ c : Fin 256, (hexV (UInt8.ofNat c.1) = -1 ∧ ∀ d : Fin 16, hexD d.1 ≠ UInt8.ofNat c.1) ∨ ∃ d : Fin 16, hexV (UInt8.ofNat c.1) = (d.1 : Int) ∧ UInt8.ofNat c.1 = hexD d.1 := by decide
theorem hexV_cases (c : UInt8) : (hexV c = -1 ∧ ∀ d, d < 16 → hexD d ≠ c) ∨ ∃ d : Nat, d < 16 ∧ hexV c = (d : Int) ∧ c = hexD d := by
  have h := hexV_fin ⟨c.toNat, c.toNat_lt⟩
  simp only [UInt8.ofNat_toNat] at h
  rcases h with ⟨h1, h2⟩ | ⟨d, h1, h2⟩
  · exact Or.inl ⟨h1, fun d hd => h2 ⟨d, hd⟩⟩
  · exact Or.inr ⟨d.1, d.2, h1, h2⟩
theorem hexs_is {l : List UInt8} {x : UInt8} (h : x ∈ hexs l) : ∃ d, d < 16 ∧ x = hexD d := by
  unfold hexs at h
  obtain ⟨c, _, hx⟩ := List.mem_flatMap.1 h
  have hc := c.toNat_lt
  simp at hx
  rcases hx with rfl | rfl
  · exact ⟨_, by omega, rfl⟩
  · exact ⟨_, by omega, rfl⟩
theorem idx_calls (c : UInt8) (w : World) : Calls Tryd.prog 105 #[.string ⟨#[48, 49, 50, 51, 52, 53, 54, 55, 56, 57, 97, 98, 99, 100, 101, 102]⟩, .int .u8 (c.toNat : Int)] w fun e w' => e = .returned (.int .i64 (hexV c)) ∧ w' = w := by
  refine (Tryd.strings_IndexByte _ (c.toNat : Int) w).mono ?_
  rintro e w' ⟨rfl, rfl⟩
  refine ⟨?_, rfl⟩
  rw [Int.toNat_natCast]
  show Ending.returned (Value.int IntKind.i64 (Lib.indexByte _ (UInt8.ofNat c.toNat))) = _
  rw [UInt8.ofNat_toNat]
  rfl
/-- A byte of two digits. -/
theorem two_digits {d e : Nat} (hd : d < 16) (he : e < 16) : ∃ c : UInt8, (c.toNat : Int) = 16 * (d : Int) + e ∧ hexs [c] = [hexD d, hexD e] := by
  refine ⟨UInt8.ofNat (16 * d + e), ?_, ?_⟩
  · rw [UInt8.toNat_ofNat']; omega
  · rw [hexs_cons, UInt8.toNat_ofNat']
    rw [show (16 * d + e) % 2 ^ 8 / 16 = d by omega, show (16 * d + e) % 2 ^ 8 % 16 = e by omega]
    rfl
theorem hexs_app (l m : List UInt8) : hexs (l ++ m) = hexs l ++ hexs m := by unfold hexs; rw [List.flatMap_append]
/-- What the reader of a tear answers. -/
def TN (l : List UInt8) (t : Tear) (ok : Bool) : Prop := (ok = true ∧ TearOk t ∧ tearW t = l) ∨ (ok = false ∧ t = zTear ∧ ∀ u, TearOk u → tearW u ≠ l)
theorem tn_pre {l : List UInt8} (h1 : l ≠ [108, 111, 115, 116]) (h2 : l ≠ [107, 101, 112, 116]) (h : ∀ b : List UInt8, b ≠ [] → b.length ≤ 40 → l ≠ 61 :: hexs b) : TN l zTear false := Or.inr ⟨rfl, rfl, fun u hu e => by
  obtain ⟨k, b⟩ := u
  unfold tearW at e
  rcases hu with ⟨rfl, rfl⟩ | ⟨rfl, rfl⟩ | ⟨rfl, h3, h4⟩
  · exact h1 (by simpa using e.symm)
  · exact h2 (by simpa using e.symm)
  · exact h b h3 h4 (by simpa using e.symm)⟩
theorem pref_cases (l : List UInt8) : (Lib.hasPrefix l [61] = false ∧ ∀ h, l ≠ 61 :: h) ∨ ∃ h, l = 61 :: h ∧ Lib.hasPrefix l [61] = true ∧ Lib.trimPrefix l [61] = h := by
  cases l with
  | nil => exact Or.inl ⟨by decide, by simp⟩
  | cons c r =>
    by_cases hc : c = 61
    · subst hc
      exact Or.inr ⟨r, rfl, by simp [Lib.hasPrefix], by simp [Lib.trimPrefix, Lib.hasPrefix]⟩
    · refine Or.inl ⟨?_, fun h e => hc (by injection e)⟩
      simp [Lib.hasPrefix, List.isPrefixOf, Ne.symm hc]
end Go.Proofs.YtagpkphehkfjgaaDoor.Sc

namespace Go.Proofs.YtagpkphehkfjgaaDoor.Sc
open Go.RowKit Go.Proofs.YtagpkphehkfjgaaDoorW.PrintWords Go.Proofs.YtagpkphehkfjgaaDoorW.PrintLast Go.Proofs.YtagpkphehkfjgaaDoorW.PrintMore Go.Proofs.YtagpkphehkfjgaaDoor.Px
/-- A tear's variable. -/
def B77 (W : World) (g : Nat) (k : Int) (v : Value) : Prop := W.heap[g]? = some (.cells #[.int .i64 k, v] 77 (0, 0))
theorem B77.c0 {W : World} {g : Nat} {k : Int} {v : Value} (h : B77 W g k v) : W.cell? ⟨g, 0, none⟩ = some (.int .i64 k) := by have := blk_cell h 0; simpa using this
theorem B77.c1 {W : World} {g : Nat} {k : Int} {v : Value} (h : B77 W g k v) : W.cell? ⟨g, 1, none⟩ = some v := by have := blk_cell h 1; simpa using this
/-- What torn's post says. -/
abbrev TornPost (l : List UInt8) (w : World) (e : Ending) (w' : World) : Prop := (∃ t ok v, e = .returned (.tuple #[.agg #[.int .i64 t.k, v], .bool ok]) ∧ TN l t ok ∧ RB w' w.heap.size (fun _ => True) v t.b) ∧ Below w.heap.size w w'
theorem rb_nil (w : World) (base : Nat) (ok : Nat → Prop) : RB w base ok (.slice none 0 0) [] := Kd.R_nil kb 5 w base ok
/-- A tear that is being made, beside the result's variable. -/
structure TS (w : World) (gr gt : Nat) (bl : List UInt8) (v : Value) (W : World) : Prop where
  r : B77 W gr 0 (.slice none 0 0)
  t : B77 W gt 2 v
  o : RB W w.heap.size (fun k => k ≠ gt ∧ k ≠ gr) v bl
  n : gr ≠ gt
  gr : w.heap.size ≤ gr
  gt : w.heap.size ≤ gt
  b : Below w.heap.size w W
theorem TS.drewN {w W : World} {gr gt : Nat} {bl : List UInt8} {v : Value} (h : TS w gr gt bl v W) (n : Nat) : TS w gr gt bl v (W.drewN n) :=
  ⟨h.r, h.t, Kd.R_below h.o (pw_below_drewN (Below.refl _ _) n), h.n, h.gr, h.gt, pw_below_drewN h.b n⟩
/-- The bytes' row has grown, and is stored. -/
theorem TS.step {w W W2 : World} {gr gt : Nat} {bl bl2 : List UInt8} {v v2 : Value} (h : TS w gr gt bl v W) (ho : RB W2 w.heap.size (fun k => k ≠ gt ∧ k ≠ gr) v2 bl2) (hb : Below w.heap.size w W2) (hg : W.grownBy W2 v.ownBlock) : TS w gr gt bl2 v2 (W2.setCell ⟨gt, 1, none⟩ v2) := by
  have n1 : some gt ≠ v.ownBlock := fun e => (h.o.1 gt e.symm).1 rfl
  have n2 : some gr ≠ v.ownBlock := fun e => (h.o.1 gr e.symm).2 rfl
  exact ⟨blk_far (blk_grown h.r hg n2) (p := ⟨gt, 1, none⟩) h.n _, blk_put (blk_grown h.t hg n1) 1 _ rfl, Kd.R_far ho (p := ⟨gt, 1, none⟩) (fun k hk => hk.1) _, h.n, h.gr, h.gt, hb.setCell (p := ⟨gt, 1, none⟩) h.gt _⟩
theorem hex_step {h bl : List UInt8} {j d e : Nat} {c : UInt8} (hx : hexs bl = h.take (2 * j)) (h1 : h[2 * j]? = some (hexD d)) (h2 : h[2 * j + 1]? = some (hexD e)) (hc : hexs [c] = [hexD d, hexD e]) : hexs (bl ++ [c]) = h.take (2 * (j + 1)) := by
  rw [hexs_app, hx, hc, show 2 * (j + 1) = 2 * j + 1 + 1 by omega, List.take_add_one, List.take_add_one, h1, h2]
  simp
set_option maxHeartbeats 1600000 in
set_option maxRecDepth 100000 in
theorem torn_calls (l : List UInt8) (w : World) (hl : l.length ≤ 100000) : Calls Tryd.prog 82 #[Sv l] w (TornPost l w) := by
  have HL := Aside0.mk hl
  clear hl
  by_cases h1 : l = [108, 111, 115, 116]
  · have hq1 : (l == [108, 111, 115, 116]) = true := beq_iff_eq.2 h1
    have HT : Aside0 (TN l ⟨0, []⟩ true) := ⟨Or.inl ⟨rfl, Or.inl ⟨rfl, rfl⟩, by rw [h1]; rfl⟩⟩
    clear h1
    go_enter Tryd.func82, Tryd.ntmps82
    go_upto_region 1 with (fail)
    obtain ⟨gr, hgr⟩ : ∃ gr, w.heap.size = gr := ⟨_, rfl⟩
    rw [hgr]
    refine wp_world (fun W => B77 W gr 0 (.slice none 0 0) ∧ w.heap.size ≤ gr ∧ Below w.heap.size w W) (by
      subst hgr
      exact ⟨blk_new w _, Nat.le_refl _, below_alloc (Below.refl _ _) _⟩) ?_
    clear hgr
    rintro w1 ⟨h1, h2, h3⟩
    have HBR := Aside0.mk h1
    have HGE := Aside0.mk h2
    have HB := Aside0.mk h3
    clear h1 h2 h3
    have r0 := HBR.out.c0
    have r1 := HBR.out.c1
    have f0 := blk_frozen HBR.out 0
    have f1 := blk_frozen HBR.out 1
    go_wp2
    refine bodyPost_ret (results_ct rfl _ _ gr 77 #[.int .i64 0, .slice none 0 0] (0, 0) _ rfl (blk_put (blk_put HBR.out 0 _ rfl) 1 _ rfl) Tryd.underlying77 rfl (by kernel_rfl)) rfl ?_
    exact ⟨⟨⟨0, []⟩, true, _, rfl, HT.out, rb_nil _ _ _⟩, (HB.out.setCell (p := ⟨gr, 0, none⟩) HGE.out _).setCell (p := ⟨gr, 1, none⟩) HGE.out _⟩
  · have hq1 : (l == [108, 111, 115, 116]) = false := beq_eq_false_iff_ne.2 h1
    by_cases h2 : l = [107, 101, 112, 116]
    · have hq2 : (l == [107, 101, 112, 116]) = true := beq_iff_eq.2 h2
      have HT : Aside0 (TN l ⟨1, []⟩ true) := ⟨Or.inl ⟨rfl, Or.inr (Or.inl ⟨rfl, rfl⟩), by rw [h2]; rfl⟩⟩
      clear h1 h2
      go_enter Tryd.func82, Tryd.ntmps82
      go_upto_region 1 with (fail)
      obtain ⟨gr, hgr⟩ : ∃ gr, w.heap.size = gr := ⟨_, rfl⟩
      rw [hgr]
      refine wp_world (fun W => B77 W gr 0 (.slice none 0 0) ∧ w.heap.size ≤ gr ∧ Below w.heap.size w W) (by
        subst hgr
        exact ⟨blk_new w _, Nat.le_refl _, below_alloc (Below.refl _ _) _⟩) ?_
      clear hgr
      rintro w1 ⟨h1, h2, h3⟩
      have HBR := Aside0.mk h1
      have HGE := Aside0.mk h2
      have HB := Aside0.mk h3
      clear h1 h2 h3
      have r0 := HBR.out.c0
      have r1 := HBR.out.c1
      have f0 := blk_frozen HBR.out 0
      have f1 := blk_frozen HBR.out 1
      go_wp2
      refine bodyPost_ret (results_ct rfl _ _ gr 77 #[.int .i64 1, .slice none 0 0] (0, 0) _ rfl (blk_put (blk_put HBR.out 0 _ rfl) 1 _ rfl) Tryd.underlying77 rfl (by kernel_rfl)) rfl ?_
      exact ⟨⟨⟨1, []⟩, true, _, rfl, HT.out, rb_nil _ _ _⟩, (HB.out.setCell (p := ⟨gr, 0, none⟩) HGE.out _).setCell (p := ⟨gr, 1, none⟩) HGE.out _⟩
    · have hq2 : (l == [107, 101, 112, 116]) = false := beq_eq_false_iff_ne.2 h2
      have H1 := Aside0.mk h1
      have H2 := Aside0.mk h2
      clear h1 h2
      rcases pref_cases l with ⟨hp, hno⟩ | ⟨h, rfl, hp, htr⟩
      · have HP := Aside0.mk hp
        have HT : Aside0 (TN l zTear false) := ⟨tn_pre H1.out H2.out (fun b _ _ => hno _)⟩
        clear hp hno
        go_enter Tryd.func82, Tryd.ntmps82
        go_upto_region 1 with (fail)
        obtain ⟨gr, hgr⟩ : ∃ gr, w.heap.size = gr := ⟨_, rfl⟩
        rw [hgr]
        refine wp_world (fun W => B77 W gr 0 (.slice none 0 0) ∧ w.heap.size ≤ gr ∧ Below w.heap.size w W) (by
          subst hgr
          exact ⟨blk_new w _, Nat.le_refl _, below_alloc (Below.refl _ _) _⟩) ?_
        clear hgr
        rintro w1 ⟨h1, h2, h3⟩
        have HBR := Aside0.mk h1
        have HGE := Aside0.mk h2
        have HB := Aside0.mk h3
        clear h1 h2 h3
        have r0 := HBR.out.c0
        have r1 := HBR.out.c1
        have f0 := blk_frozen HBR.out 0
        have f1 := blk_frozen HBR.out 1
        go_wp2_with fail
        refine (Tryd.strings_CutPrefix ⟨l.toArray⟩ ⟨#[61]⟩ w1).mono ?_
        rw [blist, one_list, HP.out]
        rintro e w2 ⟨rfl, rfl⟩
        go_wp2
        refine bodyPost_ret (results_ct rfl _ _ gr 77 #[.int .i64 0, .slice none 0 0] (0, 0) _ rfl (blk_put (blk_put HBR.out 0 _ rfl) 1 _ rfl) Tryd.underlying77 rfl (by kernel_rfl)) rfl ?_
        exact ⟨⟨zTear, false, _, rfl, HT.out, rb_nil _ _ _⟩, (HB.out.setCell (p := ⟨gr, 0, none⟩) HGE.out _).setCell (p := ⟨gr, 1, none⟩) HGE.out _⟩
      · have HP := Aside0.mk hp
        have HTR := Aside0.mk htr
        have HHL : Aside0 (h.length ≤ 100000) := ⟨by have := HL.out; simp at this; omega⟩
        clear hp htr
        go_enter Tryd.func82, Tryd.ntmps82
        go_upto_region 1 with (fail)
        obtain ⟨gr, hgr⟩ : ∃ gr, w.heap.size = gr := ⟨_, rfl⟩
        rw [hgr]
        refine wp_world (fun W => B77 W gr 0 (.slice none 0 0) ∧ w.heap.size ≤ gr ∧ Below w.heap.size w W) (by
          subst hgr
          exact ⟨blk_new w _, Nat.le_refl _, below_alloc (Below.refl _ _) _⟩) ?_
        clear hgr
        rintro w1 ⟨h1, h2, h3⟩
        have HBR := Aside0.mk h1
        have HGE := Aside0.mk h2
        have HB := Aside0.mk h3
        clear h1 h2 h3
        have r0 := HBR.out.c0
        have r1 := HBR.out.c1
        have f0 := blk_frozen HBR.out 0
        have f1 := blk_frozen HBR.out 1
        go_wp2_with fail
        refine (Tryd.strings_CutPrefix ⟨(61 :: h).toArray⟩ ⟨#[61]⟩ w1).mono ?_
        rw [blist, one_list, HP.out, HTR.out]
        rintro e w2 ⟨rfl, rfl⟩
        clear hq1 hq2
        by_cases c1 : h = []
        · have g1 : (h == []) = true := beq_iff_eq.2 c1
          have HT : Aside0 (TN (61 :: h) zTear false) := ⟨tn_pre H1.out H2.out (fun b hb _ e => hb (by rw [c1] at e; injection e with _ e; exact hexs_inj e.symm))⟩
          clear c1
          go_wp2
          refine bodyPost_ret (results_ct rfl _ _ gr 77 #[.int .i64 0, .slice none 0 0] (0, 0) _ rfl (blk_put (blk_put HBR.out 0 _ rfl) 1 _ rfl) Tryd.underlying77 rfl (by kernel_rfl)) rfl ?_
          exact ⟨⟨zTear, false, _, rfl, HT.out, rb_nil _ _ _⟩, (HB.out.setCell (p := ⟨gr, 0, none⟩) HGE.out _).setCell (p := ⟨gr, 1, none⟩) HGE.out _⟩
        · have g1 : (h == []) = false := beq_eq_false_iff_ne.2 c1
          have HNE := Aside0.mk c1
          clear c1
          by_cases c2 : 80 < h.length
          · have g2 : (80 : Int) < (h.length : Int) := by omega
            have HT : Aside0 (TN (61 :: h) zTear false) := ⟨tn_pre H1.out H2.out (fun b _ hb e => by injection e with _ e; rw [e, hexs_len] at c2; omega)⟩
            clear c2
            go_wp2
            refine bodyPost_ret (results_ct rfl _ _ gr 77 #[.int .i64 0, .slice none 0 0] (0, 0) _ rfl (blk_put (blk_put HBR.out 0 _ rfl) 1 _ rfl) Tryd.underlying77 rfl (by kernel_rfl)) rfl ?_
            exact ⟨⟨zTear, false, _, rfl, HT.out, rb_nil _ _ _⟩, (HB.out.setCell (p := ⟨gr, 0, none⟩) HGE.out _).setCell (p := ⟨gr, 1, none⟩) HGE.out _⟩
          · have g2 : ¬ (80 : Int) < (h.length : Int) := by omega
            by_cases c3 : h.length % 2 = 1
            · have g3 : (h.length : Int) % 2 = 1 := by omega
              have g4 : Int.tmod (h.length : Int) 2 = 1 := by rw [Int.tmod_eq_emod_of_nonneg (by omega)]; exact g3
              have HT : Aside0 (TN (61 :: h) zTear false) := ⟨tn_pre H1.out H2.out (fun b _ _ e => by injection e with _ e; rw [e, hexs_len] at c3; omega)⟩
              clear c2 c3
              go_wp2
              refine bodyPost_ret (results_ct rfl _ _ gr 77 #[.int .i64 0, .slice none 0 0] (0, 0) _ rfl (blk_put (blk_put HBR.out 0 _ rfl) 1 _ rfl) Tryd.underlying77 rfl (by kernel_rfl)) rfl ?_
              exact ⟨⟨zTear, false, _, rfl, HT.out, rb_nil _ _ _⟩, (HB.out.setCell (p := ⟨gr, 0, none⟩) HGE.out _).setCell (p := ⟨gr, 1, none⟩) HGE.out _⟩
            · have g3 : (h.length : Int) % 2 = 0 := by omega
              have g4 : Int.tmod (h.length : Int) 2 = 0 := by rw [Int.tmod_eq_emod_of_nonneg (by omega)]; exact g3
              have HEV : Aside0 (h.length % 2 = 0) := ⟨by omega⟩
              have H80 : Aside0 (h.length ≤ 80) := ⟨by omega⟩
              clear c2 c3
              go_upto_region 10 with (fail)
              obtain ⟨gt, hgt⟩ : ∃ gt, w2.heap.size = gt := ⟨_, rfl⟩
              rw [hgt]
              refine wp_world (TS w gr gt [] (.slice none 0 0)) (by
                have h1 := blk_lt HBR.out
                have h2 := HB.out.size
                subst hgt
                exact ⟨blk_alloc HBR.out _, blk_new w2 _, rb_nil _ _ _, by omega, HGE.out, h2, below_alloc HB.out _⟩) ?_
              clear hgt HBR HB r0 r1 f0 f1
              intro w3 hts
              have HTS := Aside0.mk hts
              clear hts
              go_wp2
              go_loopw [7] (fun v7 W => ∃ (j : Nat) (bl : List UInt8) (v : Value), 2 * j ≤ h.length ∧ v7 = .int .i64 ((2 * j : Nat) : Int) ∧ Aside0 (hexs bl = h.take (2 * j)) ∧ Aside0 (TS w gr gt bl v W)) (fun v7 _ => h.length - (intOf v7).toNat)
              case atStart => exact ⟨0, [], _, by omega, rfl, ⟨by simp [hexs]⟩, HTS⟩
              case round =>
                clear HTS
                obtain ⟨j, bl, v, hj, rfl, HX, HTS⟩ := hrel
                obtain ⟨i, hi⟩ : ∃ i, 2 * j = i := ⟨_, rfl⟩
                have HI := Aside0.mk hi
                rw [hi] at hj HX
                rw [hi]
                clear hi
                by_cases hlt : i < h.length
                · have d0 : decide ((i : Int) < (h.length : Int)) = true := decide_eq_true (by omega)
                  have hi2 : i + 1 < h.length := by have := HEV.out; have := HI.out; omega
                  have hk1 : (i : Int) < (h.length : Int) := by omega
                  have hk2 : (i : Int) + 1 < (h.length : Int) := by omega
                  have hk3 : (i : Int) ≤ 100 := by have := H80.out; omega
                  obtain ⟨x, hx⟩ : ∃ x, h[i]? = some x := ⟨_, List.getElem?_eq_getElem hlt⟩
                  obtain ⟨y, hy⟩ : ∃ y, h[i + 1]? = some y := ⟨_, List.getElem?_eq_getElem hi2⟩
                  have hbx : ∀ hh : i < (⟨h.toArray⟩ : ByteArray).size, (⟨h.toArray⟩ : ByteArray)[i]'hh = x := fun hh => Option.some.inj ((List.getElem?_eq_getElem hlt).symm.trans hx)
                  have hby : ∀ hh : i + 1 < (⟨h.toArray⟩ : ByteArray).size, (⟨h.toArray⟩ : ByteArray)[i + 1]'hh = y := fun hh => Option.some.inj ((List.getElem?_eq_getElem hi2).symm.trans hy)
                  have HHX := Aside0.mk hx
                  have HHY := Aside0.mk hy
                  clear hx hy
                  go_upto_region 13 with (fail)
                  go_quiet ((first | (go_at_call 105; exact Calls.quiet_of_same (idx_calls x _)) | (go_at_call 105; exact Calls.quiet_of_same (idx_calls y _))))
                  rcases hexV_cases x with ⟨e1, hn1⟩ | ⟨d, hd, e1, hxd⟩
                  · rw [e1]
                    have HT : Aside0 (TN (61 :: h) zTear false) := ⟨tn_pre H1.out H2.out (fun b _ _ e => by
                      injection e with _ e
                      obtain ⟨d, hd, h3⟩ := hexs_is (l := b) (x := x) (by rw [← e]; exact List.mem_of_getElem? HHX.out)
                      exact hn1 d hd h3.symm)⟩
                    have r0 := HTS.out.r.c0
                    have r1 := HTS.out.r.c1
                    have f0 := blk_frozen HTS.out.r 0
                    have f1 := blk_frozen HTS.out.r 1
                    clear hn1
                    go_wp2
                    refine bodyPost_ret (results_ct rfl _ _ gr 77 #[.int .i64 0, .slice none 0 0] (0, 0) _ rfl (blk_put (blk_put (HTS.out.drewN _).r 0 _ rfl) 1 _ rfl) Tryd.underlying77 rfl (by kernel_rfl)) rfl ?_
                    exact ⟨⟨zTear, false, _, rfl, HT.out, rb_nil _ _ _⟩, ((HTS.out.drewN _).b.setCell (p := ⟨gr, 0, none⟩) HTS.out.gr _).setCell (p := ⟨gr, 1, none⟩) HTS.out.gr _⟩
                  · rw [e1]
                    have hd0 : (0 : Int) ≤ (d : Int) := by omega
                    have hd1 : (d : Int) < 16 := by omega
                    rcases hexV_cases y with ⟨e2, hn2⟩ | ⟨e, he, e2, hye⟩
                    · rw [e2]
                      have HT : Aside0 (TN (61 :: h) zTear false) := ⟨tn_pre H1.out H2.out (fun b _ _ e => by
                        injection e with _ e
                        obtain ⟨d, hd, h3⟩ := hexs_is (l := b) (x := y) (by rw [← e]; exact List.mem_of_getElem? HHY.out)
                        exact hn2 d hd h3.symm)⟩
                      have r0 := HTS.out.r.c0
                      have r1 := HTS.out.r.c1
                      have f0 := blk_frozen HTS.out.r 0
                      have f1 := blk_frozen HTS.out.r 1
                      clear hn2
                      go_wp2
                      refine bodyPost_ret (results_ct rfl _ _ gr 77 #[.int .i64 0, .slice none 0 0] (0, 0) _ rfl (blk_put (blk_put (HTS.out.drewN _).r 0 _ rfl) 1 _ rfl) Tryd.underlying77 rfl (by kernel_rfl)) rfl ?_
                      exact ⟨⟨zTear, false, _, rfl, HT.out, rb_nil _ _ _⟩, ((HTS.out.drewN _).b.setCell (p := ⟨gr, 0, none⟩) HTS.out.gr _).setCell (p := ⟨gr, 1, none⟩) HTS.out.gr _⟩
                    · rw [e2]
                      have he0 : (0 : Int) ≤ (e : Int) := by omega
                      have he1 : (e : Int) < 16 := by omega
                      obtain ⟨c, hc1, hc2⟩ := two_digits hd he
                      have HCV := Aside0.mk hc1
                      have HXS : Aside0 (hexs (bl ++ [c]) = h.take (2 * (j + 1))) := ⟨hex_step (by rw [HI.out]; exact HX.out) (by rw [HI.out, HHX.out, hxd]) (by rw [HI.out, HHY.out, hye]) hc2⟩
                      have HBL : Aside0 (bl.length ≤ 100) := ⟨by
                        have := congrArg List.length HX.out
                        rw [hexs_len, List.length_take] at this
                        have := H80.out
                        omega⟩
                      have t0 := HTS.out.t.c0
                      have t1 := HTS.out.t.c1
                      have f1 := blk_frozen HTS.out.t 1
                      clear hc1 hc2 hxd hye hd he
                      go_wp2_with (first | ((with_reducible refine gate_builtin (b := .append) (xs := #[.tmp 64, .tmp 70]) rfl ?_); at_builtin; rw [← HCV.out]; refine Kd.R_append kb (w0 := w) w.heap.size rfl (.tmp 64) (.tmp 70) 75 5 (.int .u8 0) 1 rfl Tryd.underlying75 info5 rfl (by decide) (by omega) v bl c [.int .u8 (c.toNat : Int)] (fun k => k ≠ gt ∧ k ≠ gr) (fun _ => False) rfl rfl ?aP (fun _ hk => hk.elim) ?aF ?aO ?aB ?aS ?aL ?_; (case aP => exact kb_M _ _ _ c); (case aF => intro k hk; have h1 : gt < wr.heap.size := blk_lt HTS.out.t; have h2 : gr < wr.heap.size := blk_lt HTS.out.r; have h3 : wr.heap.size ≤ k := hk; clear hk; exact ⟨by omega, by omega⟩); (case aO => exact (HTS.out.drewN _).o); (case aB => exact (HTS.out.drewN _).b); (case aS => exact (HTS.out.drewN _).b.size); (case aL => have := HBL.out; omega); intro v2 w4 ho hb hg hat; obtain ⟨A2, c2, ev2⟩ := Kd.R_slice ho; rw [List.length_append, List.length_singleton] at ev2; subst ev2; have HTS2 := Aside0.mk (TS.step (HTS.out.drewN _) ho hb hg); have HTB : Aside0 (B77 w4 gt 2 v) := ⟨blk_grown (HTS.out.drewN _).t hg (fun e => (HTS.out.o.1 gt e.symm).1 rfl)⟩; clear ho hb hg hat t0 t1 f1; have t0 := HTB.out.c0; have t1 := HTB.out.c1; have f1 := blk_frozen HTB.out 1))
                      clear t0 t1 f1 HTB HTS
                      go_roundw
                      case rel => exact ⟨j + 1, bl ++ [c], _, by have := HI.out; omega, by have := HI.out; congr 1; omega, HXS, HTS2⟩
                      case measure => simp [intOf]; omega
                · obtain rfl : i = h.length := by omega
                  obtain ⟨A2, c2, ev2⟩ := Kd.R_slice HTS.out.o
                  subst ev2
                  have HXE : Aside0 (hexs bl = h) := ⟨by rw [HX.out, List.take_of_length_le (Nat.le_refl _)]⟩
                  have HT : Aside0 (TN (61 :: h) ⟨2, bl⟩ true) := ⟨Or.inl ⟨rfl, Or.inr (Or.inr ⟨rfl, fun e => HNE.out (by rw [← HXE.out]; simp only [] at e; rw [e]; rfl), by
                    have h1 := congrArg List.length HXE.out
                    rw [hexs_len] at h1
                    have h2 := H80.out
                    show bl.length ≤ 40
                    omega⟩), by show 61 :: hexs bl = _; rw [HXE.out]⟩⟩
                  have r0 := HTS.out.r.c0
                  have r1 := HTS.out.r.c1
                  have f0 := blk_frozen HTS.out.r 0
                  have f1 := blk_frozen HTS.out.r 1
                  have t0 := HTS.out.t.c0
                  have t1 := HTS.out.t.c1
                  clear HX
                  go_wp2
                  refine bodyPost_ret (results_ct rfl _ _ gr 77 #[.int .i64 2, .slice A2 bl.length c2] (0, 0) _ rfl (blk_put (blk_put HTS.out.r 0 _ rfl) 1 _ rfl) Tryd.underlying77 rfl (by kernel_rfl)) rfl ?_
                  exact ⟨⟨⟨2, bl⟩, true, _, rfl, HT.out, Kd.R_mono (Kd.R_far (Kd.R_far HTS.out.o (p := ⟨gr, 0, none⟩) (fun k hk => hk.2) _) (p := ⟨gr, 1, none⟩) (fun k hk => hk.2) _) (fun _ _ => trivial)⟩, (HTS.out.b.setCell (p := ⟨gr, 0, none⟩) HTS.out.gr _).setCell (p := ⟨gr, 1, none⟩) HTS.out.gr _⟩
end Go.Proofs.YtagpkphehkfjgaaDoor.Sc

namespace Go.Proofs.YtagpkphehkfjgaaDoor.Sc
open Go.Proofs.YtagpkphehkfjgaaDoor.Px
/-- A letter that names a number. -/
def Five (c : UInt8) : Prop := c = 97 ∨ c = 98 ∨ c = 110 ∨ c = 120 ∨ c = 121
theorem get_set {a : Act} {c d : UInt8} (hc : Five c) (hd : Five d) (v : Int) : (a.set c v).get d = if d = c then v else a.get d := by
  rcases hc with rfl | rfl | rfl | rfl | rfl <;> rcases hd with rfl | rfl | rfl | rfl | rfl <;> rfl
theorem get_y {a : Act} {c : UInt8} (h : ¬ Five c) : a.get c = a.get 121 := by
  unfold Five at h
  simp only [not_or] at h
  unfold Act.get
  rw [if_neg h.1, if_neg h.2.1, if_neg h.2.2.1, if_neg h.2.2.2.1]
  rfl
theorem set_k {a : Act} {c : UInt8} {v : Int} : (a.set c v).k = a.k ∧ (a.set c v).t = a.t := by
  unfold Act.set
  split
  · exact ⟨rfl, rfl⟩
  · split
    · exact ⟨rfl, rfl⟩
    · split
      · exact ⟨rfl, rfl⟩
      · split
        · exact ⟨rfl, rfl⟩
        · exact ⟨rfl, rfl⟩
instance (c : UInt8) : Decidable (Five c) := by unfold Five; infer_instance
/-- The letters of a line. -/
structure PS (ps : List UInt8) : Prop where
  l : ∀ c ∈ ps, c = 116 ∨ Five c
  n : ps.Nodup
  t : ∀ i, ps[i]? = some 116 → i + 1 = ps.length
  s : ps.length ≤ 4
theorem form_ps {k : Int} (h : 1 ≤ k ∧ k ≤ 12) : PS (form k).2 := by
  have key : ∀ ps : List UInt8, (∀ c ∈ ps, c = 116 ∨ c = 97 ∨ c = 98 ∨ c = 110 ∨ c = 120 ∨ c = 121) → ps.Nodup → (∀ i : Fin 5, ps[i.1]? = some 116 → i.1 + 1 = ps.length) → ps.length ≤ 4 → PS ps := fun ps h1 h2 h3 h4 =>
    ⟨h1, h2, fun i hi => h3 ⟨i, by have := (List.getElem?_eq_some_iff.1 hi).1; omega⟩ hi, h4⟩
  rcases kinds h with rfl | rfl | rfl | rfl | rfl | rfl | rfl | rfl | rfl | rfl | rfl | rfl <;> exact key _ (by decide) (by decide) (by decide) (by decide)
/-- The act, when i letters are done. -/
structure FI (k : Int) (ps : List UInt8) (ls : List (List UInt8)) (i : Nat) (a : Act) : Prop where
  k : a.k = k
  t : a.t = []
  p : i ≤ ps.length
  l : i ≤ ls.length
  no : ∀ c ∈ ps.take i, c ≠ 116
  ws : ls.take i = (ps.take i).map (fun c => itw (a.get c))
  q : ∀ c, In (a.get c)
  z : ∀ c, Five c → c ∉ ps.take i → a.get c = 0
theorem in_zero : In 0 := ⟨by omega, by omega⟩
theorem zact_get (k : Int) (c : UInt8) : ({ zAct with k := k } : Act).get c = 0 := by
  unfold Act.get
  split
  · rfl
  · split
    · rfl
    · split
      · rfl
      · split
        · rfl
        · rfl
theorem fi_start (k : Int) (ps : List UInt8) (ls : List (List UInt8)) : FI k ps ls 0 { zAct with k := k } :=
  ⟨rfl, rfl, Nat.zero_le _, Nat.zero_le _, by simp, by simp, fun c => by rw [zact_get]; exact in_zero, fun c _ _ => zact_get k c⟩
theorem not_mem_take {ps : List UInt8} {i : Nat} {c : UInt8} (hn : ps.Nodup) (hi : ps[i]? = some c) : c ∉ ps.take i := by
  intro h
  obtain ⟨j, hj⟩ := List.mem_iff_getElem?.1 h
  rw [List.getElem?_take] at hj
  split at hj
  · rename_i hlt
    obtain ⟨h1, h2⟩ := List.getElem?_eq_some_iff.1 hj
    obtain ⟨h3, h4⟩ := List.getElem?_eq_some_iff.1 hi
    have := (List.getElem_inj hn).1 (h2.trans h4.symm)
    omega
  · cases hj
theorem fi_step {k : Int} {ps : List UInt8} {ls : List (List UInt8)} {i : Nat} {a : Act} {c : UInt8} {n : Int} (hp : PS ps) (h : FI k ps ls i a) (hi : ps[i]? = some c) (hc : c ≠ 116) (hw : ls[i]? = some (itw n)) (hn : In n) : FI k ps ls (i + 1) (a.set c n) := by
  have h5 : Five c := (hp.l c (List.mem_of_getElem? hi)).resolve_left hc
  have hnm := not_mem_take hp.n hi
  have hlt := (List.getElem?_eq_some_iff.1 hi).1
  have hlt2 := (List.getElem?_eq_some_iff.1 hw).1
  have htk : ps.take (i + 1) = ps.take i ++ [c] := by rw [List.take_add_one, hi]; rfl
  refine ⟨set_k.1.trans h.k, set_k.2.trans h.t, by omega, by omega, ?_, ?_, ?_, ?_⟩
  · intro d hd
    rw [htk] at hd
    rcases List.mem_append.1 hd with hd | hd
    · exact h.no d hd
    · obtain rfl := List.mem_singleton.1 hd
      exact hc
  · rw [htk, List.take_add_one, hw, List.map_append, h.ws]
    congr 1
    · apply List.map_congr_left
      intro d hd
      have hd5 : Five d := (hp.l d (List.mem_of_mem_take hd)).resolve_left (h.no d hd)
      rw [get_set h5 hd5, if_neg (by rintro rfl; exact hnm hd)]
    · simp [get_set h5 h5]
  · intro d
    by_cases hd : Five d
    · rw [get_set h5 hd]
      split
      · exact hn
      · exact h.q d
    · rw [get_y hd, get_set h5 (Or.inr (Or.inr (Or.inr (Or.inr rfl))))]
      split
      · exact hn
      · exact h.q _
  · intro d hd hnd
    rw [htk] at hnd
    simp only [List.mem_append, List.mem_singleton, not_or] at hnd
    rw [get_set h5 hd, if_neg hnd.2]
    exact h.z d hd hnd.1
theorem pw_split (u : Act) : ∀ {ps : List UInt8} (i : Nat), (∀ c ∈ ps.take i, c ≠ 116) → pw u ps = (ps.take i).map (fun c => itw (u.get c)) ++ pw u (ps.drop i)
  | [], i, _ => by cases i <;> simp [pw]
  | c :: ps, 0, _ => by simp
  | c :: ps, i + 1, h => by
    have h1 : c ≠ 116 := h c (by simp)
    have h2 := pw_split u (ps := ps) i (fun d hd => h d (by rw [List.take_succ_cons]; exact List.mem_cons_of_mem _ hd))
    rw [List.take_succ_cons, List.drop_succ_cons, List.map_cons, List.cons_append, ← h2]
    unfold pw
    rw [List.flatMap_cons, if_neg h1]
    rfl
theorem pw_at {u : Act} {ps : List UInt8} {i : Nat} {c : UInt8} (h : ∀ c ∈ ps.take i, c ≠ 116) (hi : ps[i]? = some c) (hc : c ≠ 116) : (pw u ps)[i]? = some (itw (u.get c)) := by
  have hlt := (List.getElem?_eq_some_iff.1 hi).1
  have hd : ps.drop i = c :: ps.drop (i + 1) := by
    rw [List.drop_eq_getElem_cons hlt]
    congr 1
    exact (List.getElem?_eq_some_iff.1 hi).2
  rw [pw_split u i h, hd]
  have hl : ((ps.take i).map (fun c => itw (u.get c))).length = i := by simp; omega
  rw [List.getElem?_append_right (by omega), hl, Nat.sub_self]
  unfold pw
  rw [List.flatMap_cons, if_neg hc]
  rfl
theorem pw_t {u : Act} {ps : List UInt8} {i : Nat} (h : ∀ c ∈ ps.take i, c ≠ 116) (hi : ps[i]? = some 116) (hl : i + 1 = ps.length) : pw u ps = (ps.take i).map (fun c => itw (u.get c)) ++ u.t.map tearW := by
  have hlt := (List.getElem?_eq_some_iff.1 hi).1
  have hd : ps.drop i = [116] := by
    rw [List.drop_eq_getElem_cons hlt, List.drop_of_length_le (by omega)]
    congr 1
    exact (List.getElem?_eq_some_iff.1 hi).2
  rw [pw_split u i h, hd]
  simp [pw]
theorem pw_td {u : Act} {ps : List UInt8} {i : Nat} (h : ∀ c ∈ ps.take i, c ≠ 116) (hi : ps[i]? = some 116) (hl : i + 1 = ps.length) : (pw u ps).drop i = u.t.map tearW := by
  rw [pw_t h hi hl, List.drop_append_of_le_length (by simp; omega), List.drop_of_length_le (by simp; omega)]
  rfl
/-- What the filling answers. -/
def FN (k : Int) (ls : List (List UInt8)) (a : Act) (ok : Bool) : Prop := (ok = true ∧ a.k = k ∧ MayA a ∧ pw a (form k).2 = ls) ∨ (ok = false ∧ ∀ u, MayA u → u.k = k → pw u (form k).2 ≠ ls)
theorem fn_short {k : Int} {ls : List (List UInt8)} {i : Nat} {a b : Act} {c : UInt8} (h : FI k (form k).2 ls i a) (hi : (form k).2[i]? = some c) (hc : c ≠ 116) (hl : ls.length ≤ i) : FN k ls b false :=
  Or.inr ⟨rfl, fun u _ _ e => by
    have h1 := pw_at (u := u) h.no hi hc
    rw [e, List.getElem?_eq_none hl] at h1
    cases h1⟩
theorem fn_num {k : Int} {ls : List (List UInt8)} {i : Nat} {a b : Act} {c : UInt8} {x : List UInt8} (h : FI k (form k).2 ls i a) (hi : (form k).2[i]? = some c) (hc : c ≠ 116) (hx : ls[i]? = some x) (hn : ∀ n, ¬ IsNum x 1073741824 n) : FN k ls b false :=
  Or.inr ⟨rfl, fun u hu _ e => by
    have h1 := pw_at (u := u) h.no hi hc
    rw [e, hx] at h1
    injection h1 with h1
    have h2 := itw_in (in_get hu c)
    exact hn _ ⟨h1.trans h2.1, h2.2⟩⟩
theorem fi_bare {k : Int} (hk : 1 ≤ k ∧ k ≤ 12) {ls : List (List UInt8)} {i : Nat} {a : Act} (h : FI k (form k).2 ls i a) (ts : List Tear) (hl : ∀ c, Five c → c ∈ (form k).2.take i → c ∈ (form k).2) (ht : k ≠ 9 → ts = []) : ({ a with t := ts } : Act) = bare { a with t := ts } := by
  have hz : ∀ c, Five c → c ∉ (form k).2 → a.get c = 0 := fun c hc hn => h.z c hc (fun hm => hn (hl c hc hm))
  have hb := hz 98 (by decide)
  have hn := hz 110 (by decide)
  have hx := hz 120 (by decide)
  have hy := hz 121 (by decide)
  have hak := h.k
  obtain ⟨k', a', b', n', x', y', t'⟩ := a
  simp only [] at hak
  subst hak
  simp [Act.get] at hb hn hx hy
  unfold bare
  rcases kinds hk with e | e | e | e | e | e | e | e | e | e | e | e <;> subst e <;> simp [form, zAct] at * <;> simp_all
theorem fi_may {k : Int} (hk : 1 ≤ k ∧ k ≤ 12) {ls : List (List UInt8)} {i : Nat} {a : Act} (h : FI k (form k).2 ls i a) (ts : List Tear) (ht : k ≠ 9 → ts = []) (h8 : ts.length ≤ 8) (hok : ∀ t ∈ ts, TearOk t) : MayA { a with t := ts } :=
  ⟨by rw [← h.k] at hk; exact hk, h.q 97, h.q 98, h.q 110, h.q 120, h.q 121, h8, hok, fi_bare hk h ts (fun c _ hc => List.mem_of_mem_take hc) ht⟩
theorem fn_end {k : Int} (hk : 1 ≤ k ∧ k ≤ 12) {ls : List (List UInt8)} {i : Nat} {a : Act} (h : FI k (form k).2 ls i a) (hi : i = (form k).2.length) : FN k ls a (ls.length == (form k).2.length) := by
  have hno : ∀ c ∈ (form k).2.take i, c ≠ 116 := h.no
  have hall : ∀ u : Act, pw u (form k).2 = (form k).2.map (fun c => itw (u.get c)) := fun u => by
    have h1 := pw_split u i hno
    rw [List.drop_of_length_le (by omega), List.take_of_length_le (by omega)] at h1
    rw [h1]
    simp [pw]
  by_cases hl : ls.length = (form k).2.length
  · refine Or.inl ⟨beq_iff_eq.2 hl, h.k, ?_, ?_⟩
    · have := fi_may hk h a.t (fun _ => h.t) (by rw [h.t]; simp) (by rw [h.t]; simp)
      exact this
    · have h1 := h.ws
      rw [List.take_of_length_le (by omega), List.take_of_length_le (by omega)] at h1
      rw [hall, h1]
  · refine Or.inr ⟨beq_eq_false_iff_ne.2 hl, fun u _ _ e => hl ?_⟩
    rw [← e, hall, List.length_map]
theorem form_t {k : Int} (hk : 1 ≤ k ∧ k ≤ 12) {i : Nat} (hi : (form k).2[i]? = some 116) : k = 9 := by
  have hm := List.mem_of_getElem? hi
  rcases kinds hk with rfl | rfl | rfl | rfl | rfl | rfl | rfl | rfl | rfl | rfl | rfl | rfl <;> first | rfl | exact absurd hm (by decide)
/-- The tears that are done. -/
structure TI (ls : List (List UInt8)) (i : Nat) (ts : List Tear) : Prop where
  w : (ls.drop i).take ts.length = ts.map tearW
  o : ∀ t ∈ ts, TearOk t
  l : i + ts.length ≤ ls.length
  s : ts.length ≤ 8
theorem ti_step {ls : List (List UInt8)} {i : Nat} {ts : List Tear} {t : Tear} {x : List UInt8} (h : TI ls i ts) (hx : ls[i + ts.length]? = some x) (ht : TearOk t) (hw : tearW t = x) (h8 : ts.length ≠ 8) : TI ls i (ts ++ [t]) := by
  have hlt := (List.getElem?_eq_some_iff.1 hx).1
  refine ⟨?_, ?_, by simp; omega, by simp; have := h.s; omega⟩
  · rw [List.length_append, List.length_singleton, List.take_add_one, h.w, List.getElem?_drop, hx, List.map_append, ← hw]
    rfl
  · intro u hu
    rcases List.mem_append.1 hu with hu | hu
    · exact h.o u hu
    · obtain rfl := List.mem_singleton.1 hu
      exact ht
theorem fn_tears {k : Int} (hk : 1 ≤ k ∧ k ≤ 12) {ls : List (List UInt8)} {i : Nat} {a : Act} {ts : List Tear} (h : FI k (form k).2 ls i a) (hi : (form k).2[i]? = some 116) (ht : TI ls i ts) (he : i + ts.length = ls.length) : FN k ls { a with t := ts } true := by
  refine Or.inl ⟨rfl, h.k, fi_may hk h ts (fun hn => absurd (form_t hk hi) hn) ht.s ht.o, ?_⟩
  rw [pw_t h.no hi ((form_ps hk).t i hi)]
  have h1 := ht.w
  rw [List.take_of_length_le (by rw [List.length_drop]; omega)] at h1
  show List.map (fun c => itw (a.get c)) _ ++ List.map tearW ts = _
  rw [← h.ws, ← h1, List.take_append_drop]
theorem fn_torn {k : Int} (hk : 1 ≤ k ∧ k ≤ 12) {ls : List (List UInt8)} {i j : Nat} {a b : Act} {x : List UInt8} (h : FI k (form k).2 ls i a) (hi : (form k).2[i]? = some 116) (hx : ls[i + j]? = some x) (hn : ∀ u, TearOk u → tearW u ≠ x) : FN k ls b false :=
  Or.inr ⟨rfl, fun u hu _ e => by
    have h1 := pw_td (u := u) h.no hi ((form_ps hk).t i hi)
    rw [e] at h1
    have h2 := congrArg (fun l => l[j]?) h1
    simp only [List.getElem?_drop, List.getElem?_map, hx] at h2
    cases h3 : u.t[j]? with
    | none => rw [h3] at h2; cases h2
    | some t =>
      rw [h3] at h2
      injection h2 with h2
      exact hn t (hu.it t (List.mem_of_getElem? h3)) h2.symm⟩
theorem fn_many {k : Int} (hk : 1 ≤ k ∧ k ≤ 12) {ls : List (List UInt8)} {i : Nat} {a b : Act} (h : FI k (form k).2 ls i a) (hi : (form k).2[i]? = some 116) (hl : i + 8 < ls.length) : FN k ls b false :=
  Or.inr ⟨rfl, fun u hu _ e => by
    have h1 := pw_td (u := u) h.no hi ((form_ps hk).t i hi)
    rw [e] at h1
    have h2 := congrArg List.length h1
    rw [List.length_drop, List.length_map] at h2
    have := hu.il
    omega⟩
end Go.Proofs.YtagpkphehkfjgaaDoor.Sc

namespace Go.Proofs.YtagpkphehkfjgaaDoor.Sc
open Go.RowKit Go.Proofs.YtagpkphehkfjgaaDoorW.PrintWords Go.Proofs.YtagpkphehkfjgaaDoorW.PrintLast Go.Proofs.YtagpkphehkfjgaaDoorW.PrintMore Go.Proofs.YtagpkphehkfjgaaDoor.Px
/-- Where a letter's number is. -/
def offL (c : UInt8) : Nat := if c = 97 then 1 else if c = 98 then 2 else if c = 110 then 3 else if c = 120 then 4 else 5
theorem u8t {c d : UInt8} (h : c = d) : ((c.toNat : Int) == (d.toNat : Int)) = true := by rw [h]; simp
theorem u8f {c d : UInt8} (h : c ≠ d) : ((c.toNat : Int) == (d.toNat : Int)) = false := by
  rw [beq_eq_false_iff_ne]
  intro e
  exact h (UInt8.toNat_inj.1 (by omega))
theorem at_calls (c : UInt8) (g : Nat) (w : World) : Calls Tryd.prog 69 #[.pointer (some ⟨g, 0, none⟩), .int .u8 (c.toNat : Int)] w fun e w' => e = .returned (.pointer (some ⟨g, offL c, none⟩)) ∧ w' = w := by
  by_cases h1 : c = 97
  · have q1 : ((c.toNat : Int) == 97) = true := u8t h1
    have HO : Aside0 (offL c = 1) := ⟨by rw [h1]; rfl⟩
    clear h1
    go_enter Tryd.func69, Tryd.ntmps69
    go_wp2
    rw [HO.out]
    go_ret
    exact ⟨rfl, rfl⟩
  · have q1 : ((c.toNat : Int) == 97) = false := u8f h1
    by_cases h2 : c = 98
    · have q2 : ((c.toNat : Int) == 98) = true := u8t h2
      have HO : Aside0 (offL c = 2) := ⟨by rw [h2]; rfl⟩
      clear h1 h2
      go_enter Tryd.func69, Tryd.ntmps69
      go_wp2
      rw [HO.out]
      go_ret
      exact ⟨rfl, rfl⟩
    · have q2 : ((c.toNat : Int) == 98) = false := u8f h2
      by_cases h3 : c = 110
      · have q3 : ((c.toNat : Int) == 110) = true := u8t h3
        have HO : Aside0 (offL c = 3) := ⟨by rw [h3]; rfl⟩
        clear h1 h2 h3
        go_enter Tryd.func69, Tryd.ntmps69
        go_wp2
        rw [HO.out]
        go_ret
        exact ⟨rfl, rfl⟩
      · have q3 : ((c.toNat : Int) == 110) = false := u8f h3
        by_cases h4 : c = 120
        · have q4 : ((c.toNat : Int) == 120) = true := u8t h4
          have HO : Aside0 (offL c = 4) := ⟨by rw [h4]; rfl⟩
          clear h1 h2 h3 h4
          go_enter Tryd.func69, Tryd.ntmps69
          go_wp2
          rw [HO.out]
          go_ret
          exact ⟨rfl, rfl⟩
        · have q4 : ((c.toNat : Int) == 120) = false := u8f h4
          have HO : Aside0 (offL c = 5) := ⟨by unfold offL; rw [if_neg h1, if_neg h2, if_neg h3, if_neg h4]⟩
          clear h1 h2 h3 h4
          go_enter Tryd.func69, Tryd.ntmps69
          go_wp2
          rw [HO.out]
          go_ret
          exact ⟨rfl, rfl⟩
/-- An act's variable. -/
def B60 (W : World) (g : Nat) (a : Act) (v : Value) : Prop := W.heap[g]? = some (.cells #[.int .i64 a.k, .int .i64 a.a, .int .i64 a.b, .int .i64 a.n, .int .i64 a.x, .int .i64 a.y, v] 60 (0, 0))
theorem B60.put {W : World} {g : Nat} {a : Act} {v : Value} (h : B60 W g a v) (c : UInt8) (n : Int) : B60 (W.setCell ⟨g, offL c, none⟩ (.int .i64 n)) g (a.set c n) v := by
  unfold offL Act.set
  split
  · exact blk_put h 1 _ rfl
  · split
    · exact blk_put h 2 _ rfl
    · split
      · exact blk_put h 3 _ rfl
      · split
        · exact blk_put h 4 _ rfl
        · exact blk_put h 5 _ rfl
theorem B60.cell {W : World} {g : Nat} {a : Act} {v : Value} (h : B60 W g a v) (c : UInt8) : W.cell? ⟨g, offL c, none⟩ = some (.int .i64 (a.get c)) := by
  rw [blk_cell h]
  unfold offL Act.get
  split
  · rfl
  · split
    · rfl
    · split
      · rfl
      · split
        · rfl
        · rfl
theorem B60.c6 {W : World} {g : Nat} {a : Act} {v : Value} (h : B60 W g a v) : W.cell? ⟨g, 6, none⟩ = some v := by have := blk_cell h 6; simpa using this
/-- A row of tears. -/
abbrev RT (w : World) (base : Nat) (ok : Nat → Prop) (v : Value) (l : List Tear) : Prop := Kd.R kTear 77 w base ok v l
/-- An act that is being filled. -/
structure AS (w : World) (g : Nat) (a : Act) (v : Value) (W : World) : Prop where
  c : B60 W g a v
  o : RT W w.heap.size (fun k => k ≠ g) v a.t
  ge : w.heap.size ≤ g
  b : Below w.heap.size w W
theorem AS.below {w W W' : World} {g : Nat} {a : Act} {v : Value} (h : AS w g a v W) (hb : Below W.heap.size W W') : AS w g a v W' :=
  ⟨blk_below h.c hb, Kd.R_below h.o hb, h.ge, below_step h.b hb⟩
theorem AS.set {w W : World} {g : Nat} {a : Act} {v : Value} (h : AS w g a v W) (c : UInt8) (n : Int) : AS w g (a.set c n) v (W.setCell ⟨g, offL c, none⟩ (.int .i64 n)) :=
  ⟨h.c.put c n, by rw [set_k.2]; exact Kd.R_far h.o (p := ⟨g, offL c, none⟩) (fun k hk => hk) _, h.ge, h.b.setCell (p := ⟨g, offL c, none⟩) h.ge _⟩
theorem info77 : ∃ i, Tryd.prog.info? 77 = some i ∧ i.zero = some (.agg #[.int .i64 0, .slice none 0 0]) ∧ i.size = 2 ∧ i.bytes = 32 := by
  have h : (Tryd.prog.info? 77).map (fun i => (i.zero, i.size, i.bytes)) = some (some (.agg #[.int .i64 0, .slice none 0 0]), 2, 32) := by kernel_rfl
  obtain ⟨i, h1, h2⟩ := Option.map_eq_some_iff.1 h
  simp only [Prod.mk.injEq] at h2
  exact ⟨i, h1, h2⟩
theorem kTear_sz : kTear.sz = 2 := rfl
theorem kTear_Mk {w : World} {base : Nat} {ok : Nat → Prop} {t : Tear} {v : Value} (h : RB w base ok v t.b) : kTear.M w base ok t [.int .i64 t.k, v] := kTear_M h
/-- append(tears, tear), a step of a region that draws. -/
theorem step_app77 {ops : Array Oper} {o : Oper} {a : Go.Act} {K : Go.Act → World → Prop} {Q : Exit → Go.Act → World → Prop} {X : Prop} {W : World} (B : Nat) (ok : Nat → Prop) (v : Value) (xs : List Tear) (p : Tear) (pv : Value) (okp : Nat → Prop) (bp : Nat) (hgd : o.guard = none) (s x : Operand)
    (ho : o.op = .call { callee := .builtin .append, args := #[s, x], argTypes := #[58, 58] }) (hs : a.eval s = v) (hx : a.eval x = .slice (some ⟨bp, 0, none⟩) 1 1)
    (hR : RT W B ok v xs) (hp : RB W B okp pv p.b) (hokp : ∀ k, okp k → ok k ∧ some k ≠ v.ownBlock) (hfresh : ∀ k, W.heap.size ≤ k → ok k) (hnew : W.heap[bp]? = some (.cells #[.int .i64 p.k, pv] 77 (0, 0))) (hBs : B ≤ W.heap.size) (hl : xs.length ≤ 1000000)
    (h : ∀ g cap w', RT w' B ok (.slice (some ⟨g, 0, none⟩) (xs.length + 1) cap) (xs ++ [p]) → W.grownBy w' v.ownBlock → (v.ownBlock = some g ∨ g = W.heap.size) → K (a.put o.dst (.slice (some ⟨g, 0, none⟩) (xs.length + 1) cap)) w') :
    if Region.wanted o (yielded ops a.tmps) = true then Oper.wp Tryd.prog o a W K Q else X := by
  obtain ⟨i, hi, hz, hsz, hby⟩ := info77
  obtain ⟨h0, inner, hown, hr⟩ := hR
  obtain ⟨A, c, rfl⟩ := Kd.R_slice hp
  refine step_append_lies _ hgd s x 58 ho B 77 i _ 2 32 Tryd.underlying58 hi hz hsz hby rfl (by decide) v xs.length inner hs (kTear_sz ▸ hown) ⟨bp, 0, none⟩ 1 1 [.int .i64 p.k, .slice A p.b.length c] hx rfl (World.news_of_block hnew) (by simp [Value.oneCell']) (by decide) (by simp only [maxLen]; omega) (by omega) hBs _ rfl ?_
  intro g cap w' hown' hg hat hlt
  have hR' := Kd.R_appended (d := kTear) (e := 77) (base := B) (ok := ok) (okp := okp) (v1 := .slice (some ⟨g, 0, none⟩) (xs.length + 1) cap) (cs := [.int .i64 p.k, .slice A p.b.length c]) h0 hr (kTear_M hp) hokp hfresh (kTear_sz ▸ hown') hg (by
    rcases hat with hat | hat
    · exact .inl hat.symm
    · exact .inr ⟨g, rfl, by omega⟩)
  exact h g cap w' hR' hg hat
theorem below_grown {B : Nat} {w0 W w' : World} {row : Option Nat} (h : Below B w0 W) (hB : B ≤ W.heap.size) (hg : W.grownBy w' row) (hr : ∀ k, row = some k → B ≤ k) : Below B w0 w' :=
  ⟨hg.os.trans h.os, hg.tape.trans h.tape, hg.output.trans h.output, Nat.le_trans h.size hg.size, fun k hk => (hg.block k (by omega) (fun e => by have := hr k e.symm; omega)).trans (h.block k hk)⟩
theorem rt_own {w : World} {base : Nat} {ok : Nat → Prop} {v : Value} {l : List Tear} (h : RT w base ok v l) (k : Nat) (hk : v.ownBlock = some k) : base ≤ k ∧ k < w.heap.size := by
  obtain ⟨inner, ho⟩ := Kd.R_own h
  exact ⟨own_base ho k hk, own_lt ho k hk⟩
/-- A tear's bytes, made anew, beside the act. -/
theorem rb_apart {w W W' : World} {g : Nat} {a : Act} {v bv : Value} {bl : List UInt8} (h : AS w g a v W) (hr : RB W' W.heap.size (fun _ => True) bv bl) : RB W' w.heap.size (fun k => k ≠ g ∧ some k ≠ v.ownBlock) bv bl := by
  refine Kd.R_lower (Kd.R_mono (Kd.R_bound hr) (fun k hk => ?_)) h.b.size
  obtain ⟨_, h1, _⟩ := hk
  have h2 := blk_lt h.c
  exact ⟨by omega, fun e => by have := (rt_own h.o k e.symm).2; omega⟩
theorem AS.t0 {w W : World} {g : Nat} {a : Act} {v : Value} (h : AS w g a v W) (ht : a.t = []) : AS w g { a with t := [] } v W := by
  obtain ⟨k, a', b, n, x, y, t⟩ := a
  simp only [] at ht
  subst ht
  exact h
/-- The tears' row has grown, and is stored. -/
theorem AS.app {w w' : World} {g : Nat} {a : Act} {ts : List Tear} {v v2 : Value} (hc : B60 w' g a v) (ho : RT w' w.heap.size (fun k => k ≠ g) v2 ts) (ge : w.heap.size ≤ g) (hb : Below w.heap.size w w') : AS w g { a with t := ts } v2 (w'.setCell ⟨g, 6, none⟩ v2) :=
  ⟨blk_put hc 6 _ rfl, Kd.R_far ho (p := ⟨g, 6, none⟩) (fun k hk => hk) _, ge, hb.setCell (p := ⟨g, 6, none⟩) ge _⟩
theorem B60.all {W : World} {g : Nat} {a : Act} {v : Value} (h : B60 W g a v) : W.cell? ⟨g, 0, none⟩ = some (.int .i64 a.k) ∧ W.cell? ⟨g, 1, none⟩ = some (.int .i64 a.a) ∧ W.cell? ⟨g, 2, none⟩ = some (.int .i64 a.b) ∧ W.cell? ⟨g, 3, none⟩ = some (.int .i64 a.n) ∧ W.cell? ⟨g, 4, none⟩ = some (.int .i64 a.x) ∧ W.cell? ⟨g, 5, none⟩ = some (.int .i64 a.y) ∧ W.cell? ⟨g, 6, none⟩ = some v := by
  have h0 := blk_cell h 0
  have h1 := blk_cell h 1
  have h2 := blk_cell h 2
  have h3 := blk_cell h 3
  have h4 := blk_cell h 4
  have h5 := blk_cell h 5
  have h6 := blk_cell h 6
  simp at h0 h1 h2 h3 h4 h5 h6
  exact ⟨h0, h1, h2, h3, h4, h5, h6⟩
theorem B60.frz {W : World} {g : Nat} {a : Act} {v : Value} (h : B60 W g a v) : W.frozen? ⟨g, 0, none⟩ = false ∧ W.frozen? ⟨g, 1, none⟩ = false ∧ W.frozen? ⟨g, 2, none⟩ = false ∧ W.frozen? ⟨g, 3, none⟩ = false ∧ W.frozen? ⟨g, 4, none⟩ = false ∧ W.frozen? ⟨g, 5, none⟩ = false ∧ W.frozen? ⟨g, 6, none⟩ = false :=
  ⟨blk_frozen h 0, blk_frozen h 1, blk_frozen h 2, blk_frozen h 3, blk_frozen h 4, blk_frozen h 5, blk_frozen h 6⟩
/-- An act stored whole. -/
abbrev put7 (W : World) (g : Nat) (a : Act) (v : Value) : World := ((((((W.setCell ⟨g, 0, none⟩ (.int .i64 a.k)).setCell ⟨g, 1, none⟩ (.int .i64 a.a)).setCell ⟨g, 2, none⟩ (.int .i64 a.b)).setCell ⟨g, 3, none⟩ (.int .i64 a.n)).setCell ⟨g, 4, none⟩ (.int .i64 a.x)).setCell ⟨g, 5, none⟩ (.int .i64 a.y)).setCell ⟨g, 6, none⟩ v
theorem put7_blk {W : World} {g : Nat} {b : Act} {u : Value} (h : B60 W g b u) (a : Act) (v : Value) : B60 (put7 W g a v) g a v := by
  have h0 := blk_set h 0 (.int .i64 a.k)
  have h1 := blk_set h0 1 (.int .i64 a.a)
  have h2 := blk_set h1 2 (.int .i64 a.b)
  have h3 := blk_set h2 3 (.int .i64 a.n)
  have h4 := blk_set h3 4 (.int .i64 a.x)
  have h5 := blk_set h4 5 (.int .i64 a.y)
  have h6 := blk_set h5 6 v
  simp only [List.setIfInBounds_toArray, List.set_cons_zero, List.set_cons_succ] at h6
  exact h6
theorem below_set {B : Nat} {w W : World} {g : Nat} (h : Below B w W) (hg : B ≤ g) (i : Nat) (u : Value) : Below B w (W.setCell ⟨g, i, none⟩ u) := h.setCell (p := ⟨g, i, none⟩) hg u
theorem put7_below {B : Nat} {w W : World} {g : Nat} (h : Below B w W) (hg : B ≤ g) (a : Act) (v : Value) : Below B w (put7 W g a v) :=
  below_set (below_set (below_set (below_set (below_set (below_set (below_set h hg 0 _) hg 1 _) hg 2 _) hg 3 _) hg 4 _) hg 5 _) hg 6 _
theorem R_fars {α : Type} {d : Kd α} {e : Nat} {W : World} {base : Nat} {ok : Nat → Prop} {u : Value} {xs : List α} {g : Nat} (h : d.R e W base ok u xs) (hk : ∀ k, ok k → k ≠ g) (i : Nat) (v : Value) : d.R e (W.setCell ⟨g, i, none⟩ v) base ok u xs := Kd.R_far (p := ⟨g, i, none⟩) h hk v
theorem put7_R {α : Type} {d : Kd α} {e : Nat} {W : World} {base : Nat} {ok : Nat → Prop} {u : Value} {xs : List α} {g : Nat} (h : d.R e W base ok u xs) (hk : ∀ k, ok k → k ≠ g) (a : Act) (v : Value) : d.R e (put7 W g a v) base ok u xs :=
  R_fars (R_fars (R_fars (R_fars (R_fars (R_fars (R_fars h hk 0 _) hk 1 _) hk 2 _) hk 3 _) hk 4 _) hk 5 _) hk 6 _
end Go.Proofs.YtagpkphehkfjgaaDoor.Sc

namespace Go.Proofs.YtagpkphehkfjgaaDoor.Sc
open Go.RowKit Go.Proofs.YtagpkphehkfjgaaDoorW.PrintWords Go.Proofs.YtagpkphehkfjgaaDoorW.PrintLast Go.Proofs.YtagpkphehkfjgaaDoorW.PrintMore Go.Proofs.YtagpkphehkfjgaaDoor.Px
/-- The words' row. -/
structure WR (w : World) (gw off : Nat) (ls : List (List UInt8)) : Prop where
  g : gw < w.heap.size
  c : ∀ j x, ls[j]? = some x → w.cell? ⟨gw, off + j, none⟩ = some (Sv x)
  l : ∀ x ∈ ls, x.length ≤ 100000
  n : ls.length ≤ 100000
theorem WR.cell {w W : World} {gw off : Nat} {ls : List (List UInt8)} (h : WR w gw off ls) (hb : Below w.heap.size w W) {j : Nat} {x : List UInt8} (hx : ls[j]? = some x) : W.cell? ⟨gw, off + j, none⟩ = some (Sv x) :=
  (hb.cell (p := ⟨gw, off + j, none⟩) h.g).trans (h.c j x hx)
/-- What fill's post says. -/
def FillPost (k : Int) (ls : List (List UInt8)) (ga : Nat) (w : World) (e : Ending) (W' : World) : Prop := ∃ ok a v, e = .returned (.bool ok) ∧ FN k ls a ok ∧ AS w ga a v W'
theorem fp_mk {k : Int} {ls : List (List UInt8)} {ga : Nat} {w W' : World} {e : Ending} (ok : Bool) (a : Act) (v : Value) (he : e = .returned (.bool ok)) (hf : FN k ls a ok) (h : AS w ga a v W') : FillPost k ls ga w e W' := ⟨ok, a, v, he, hf, h⟩
set_option maxHeartbeats 1600000 in
set_option maxRecDepth 100000 in
theorem fill_calls (k : Int) (gw off c : Nat) (ls : List (List UInt8)) (ga : Nat) (w W : World) (hk : 1 ≤ k ∧ k ≤ 12) (h : AS w ga { zAct with k := k } (.slice none 0 0) W) (hg : Gl w) (hw : WR w gw off ls) (hc : ls.length ≤ c) :
    Calls Tryd.prog 65 #[.pointer (some ⟨ga, 0, none⟩), Sv (form k).2, .slice (some ⟨gw, off, none⟩) ls.length c] W (FillPost k ls ga w) := by
  have HG := Aside0.mk hg
  have HS := Aside0.mk h
  have HW := Aside0.mk hw
  have HK := Aside0.mk hk
  have HPS := Aside0.mk (form_ps hk)
  have HLN : Aside0 (ls.length ≤ 100000) := ⟨hw.n⟩
  have HC := Aside0.mk hc
  clear hg h hw hk hc
  obtain ⟨ps, hps⟩ : ∃ ps, (form k).2 = ps := ⟨_, rfl⟩
  have HP := Aside0.mk hps
  rw [hps] at HPS
  rw [hps]
  clear hps
  go_enter Tryd.func65, Tryd.ntmps65
  go_wp2_with fail
  go_loopw [16] (fun v16 W => ∃ (i : Nat) (a : Act), i ≤ ps.length ∧ v16 = .int .i64 i ∧ Aside0 (FI k (form k).2 ls i a) ∧ Aside0 (AS w ga a (.slice none 0 0) W)) (fun v16 _ => ps.length - (intOf v16).toNat)
  case atStart => exact ⟨0, _, Nat.zero_le _, rfl, ⟨fi_start k _ ls⟩, HS⟩
  case round =>
    clear HS
    obtain ⟨i, a, hi, rfl, HF, HS⟩ := hrel
    have HI : Aside0 (i ≤ 4) := ⟨by have := HPS.out.s; omega⟩
    have HL : Aside0 (i ≤ ls.length) := ⟨HF.out.l⟩
    by_cases hlt : i < ps.length
    · have d0 : decide ((i : Int) < (ps.length : Int)) = true := decide_eq_true (by omega)
      have hk1 : (i : Int) < (ps.length : Int) := by omega
      have hk3 : (i : Int) ≤ 4 := by have := HI.out; omega
      obtain ⟨x, hx⟩ : ∃ x, ps[i]? = some x := ⟨_, List.getElem?_eq_getElem hlt⟩
      have hbx : ∀ hh : i < (⟨ps.toArray⟩ : ByteArray).size, (⟨ps.toArray⟩ : ByteArray)[i]'hh = x := fun hh => Option.some.inj ((List.getElem?_eq_getElem hlt).symm.trans hx)
      have HX : Aside0 ((form k).2[i]? = some x) := ⟨by rw [HP.out]; exact hx⟩
      clear hx
      by_cases hxt : x = 116
      · have q0 : ((x.toNat : Int) == 116) = true := u8t hxt
        have HX2 : Aside0 ((form k).2[i]? = some 116) := ⟨by rw [← hxt]; exact HX.out⟩
        clear hxt
        have hi2 : i ≤ ls.length := HL.out
        have hi3 : (i : Int) ≤ (ls.length : Int) := by omega
        have hi4 : (ls.length : Int) ≤ 100000 := by have := HLN.out; omega
        have hi5 : ls.length ≤ c := HC.out
        rcases Nat.eq_zero_or_pos (c - i) with hci | hci
        · have hil : i = ls.length := by omega
          have HN : Aside0 (FN k ls { a with t := [] } true) := ⟨fn_tears HK.out HF.out HX2.out (ts := []) ⟨by simp, by simp, by simp; exact HL.out, by simp⟩ (by simp; exact hil)⟩
          have HIL2 : Aside0 (ls.length - i = 0) := ⟨by omega⟩
          clear hil
          go_upto_region 6 with (fail)
          try rw [HIL2.out]
          go_loopw [27] (fun v27 W => v27 = .int .i64 0 ∧ Aside0 (AS w ga { a with t := [] } (.slice none 0 0) W)) (fun _ _ => 0)
          case atStart => exact ⟨rfl, ⟨HS.out.t0 HF.out.t⟩⟩
          case round =>
            clear HS
            obtain ⟨rfl, HS⟩ := hrel
            go_wp2
            go_ret
            exact fp_mk true _ _ rfl HN.out HS.out
        · have hci2 : ¬ (c - i = 0) := by omega
          go_upto_region 6 with (fail)
          obtain ⟨m, hm⟩ : ∃ m, ls.length - i = m := ⟨_, rfl⟩
          rw [hm]
          have HM : Aside0 (i + m = ls.length) := ⟨by omega⟩
          have HML : Aside0 (m ≤ 100000) := ⟨by omega⟩
          have HCM : Aside0 (m ≤ c - i) := ⟨by omega⟩
          clear hi5 hi2 hi3 hi4 hm hci hci2
          go_loopw [27] (fun v27 W => ∃ (j : Nat) (ts : List Tear) (v : Value), j ≤ m ∧ v27 = .int .i64 j ∧ ts.length = j ∧ Aside0 (TI ls i ts) ∧ Aside0 (AS w ga { a with t := ts } v W)) (fun v27 _ => m - (intOf v27).toNat)
          case atStart => exact ⟨0, [], _, Nat.zero_le _, rfl, rfl, ⟨⟨by simp, by simp, by simp; exact HL.out, by simp⟩⟩, ⟨HS.out.t0 HF.out.t⟩⟩
          case round =>
            clear HS
            obtain ⟨j, ts, v, hj, rfl, htl, HT, HS⟩ := hrel
            have HTL := Aside0.mk htl
            clear htl
            obtain ⟨A, cv, rfl⟩ := Kd.R_slice HS.out.o
            have HLJ : Aside0 (j ≤ 100000) := ⟨by have := HML.out; omega⟩
            by_cases hjm : j < m
            · have d1 : decide ((j : Int) < (m : Int)) = true := decide_eq_true (by omega)
              have hk4 : (j : Int) < (m : Int) := by omega
              have hk7 : (j : Int) ≤ 100000 := by have := HLJ.out; omega
              obtain ⟨y, hy⟩ : ∃ y, ls[i + j]? = some y := ⟨_, List.getElem?_eq_getElem (by have := HM.out; omega)⟩
              have c0 := HW.out.cell HS.out.b hy
              rw [← Nat.add_assoc] at c0
              have HY := Aside0.mk hy
              have HYL : Aside0 (y.length ≤ 100000) := ⟨HW.out.l y (List.mem_of_getElem? hy)⟩
              clear hy
              go_wp2_with fail
              refine (torn_calls y _ HYL.out).mono ?_
              rintro e w2 ⟨⟨t, ok, tv, rfl, htn, hrb⟩, hb⟩
              have HRB := Aside0.mk (rb_apart HS.out hrb)
              have HTN := Aside0.mk htn
              have HS2 := Aside0.mk (HS.out.below hb)
              obtain ⟨At, ct, etv⟩ := Kd.R_slice hrb
              subst etv
              clear hb hrb htn c0 HS
              go_upto_region 9 with (fail)
              obtain ⟨gt, hgt⟩ : ∃ gt, w2.heap.size = gt := ⟨_, rfl⟩
              refine wp_world (fun W => Aside0 (AS w ga { a with t := ts } (.slice A ts.length cv) W) ∧ Aside0 (RB W w.heap.size (fun k => k ≠ ga ∧ some k ≠ (Value.slice A ts.length cv).ownBlock) (.slice At t.b.length ct) t.b) ∧ Aside0 (B77 W gt t.k (.slice At t.b.length ct))) ?h1 ?_
              case h1 =>
                subst hgt
                exact ⟨⟨HS2.out.below (below_alloc (Below.refl _ _) _)⟩, ⟨Kd.R_below HRB.out (below_alloc (Below.refl _ _) _)⟩, ⟨blk_new w2 _⟩⟩
              rw [hgt]
              clear HS2 HRB hgt
              rintro w3 ⟨HS, HRB, HTB⟩
              have c6 := HS.out.c.c6
              rcases HTN.out with ⟨rfl, hto, htw⟩ | ⟨rfl, rfl, htn⟩
              · have HTO := Aside0.mk hto
                have HTW := Aside0.mk htw
                clear hto htw HTN
                by_cases h8 : ts.length = 8
                · have q8 : ((ts.length : Int) == 8) = true := by rw [beq_iff_eq]; omega
                  have HN : Aside0 (FN k ls { a with t := ts } false) := ⟨fn_many HK.out HF.out HX2.out (by have := HTL.out; have := HM.out; omega)⟩
                  clear h8
                  go_wp2
                  go_ret
                  exact fp_mk false _ _ rfl HN.out HS.out
                · have q8 : ((ts.length : Int) == 8) = false := by rw [beq_eq_false_iff_ne]; omega
                  have HT2 : Aside0 (TI ls i (ts ++ [t])) := ⟨ti_step HT.out (by rw [HTL.out]; exact HY.out) HTO.out HTW.out h8⟩
                  clear h8
                  go_upto_region 11 with (fail)
                  have e0 := HTB.out.c0
                  have e1 := HTB.out.c1
                  have l0 := blk_lt HS.out.c
                  have l1 := blk_lt HTB.out
                  have hfc := blk_cell (blk_alloc HS.out.c (.cells #[.int .i64 t.k, .slice At t.b.length ct] 77)) 6
                  simp at hfc
                  go_region_law (refine step_app77 w.heap.size (fun k => k ≠ ga) (.slice A ts.length cv) ts t (.slice At t.b.length ct) (fun k => k ≠ ga ∧ some k ≠ (Value.slice A ts.length cv).ownBlock) w3.heap.size rfl (.tmp 50) (.tmp 52) rfl (by simp [Go.Act.eval, Go.Act.put]) (by simp [Go.Act.eval, Go.Act.put]) (by (with_reducible repeat (first | apply Kd.R_alloc | apply Kd.R_drewN | apply Kd.R_drew)); exact HS.out.o) (by (with_reducible repeat (first | apply Kd.R_alloc | apply Kd.R_drewN | apply Kd.R_drew)); exact HRB.out) (fun _ hk => hk) (by have := blk_lt HS.out.c; intro k hk; simp at hk; omega) (by first | exact blk_new _ _ | exact blk_drewN (blk_new _ _) _ | exact blk_drew (blk_new _ _)) (by have := HS.out.b.size; simp; omega) (by have := HTL.out; have := HLJ.out; omega) ?_; intro g2 cap w5 hR hgr hat; have hbk := (by first | exact blk_grown (blk_drew (blk_alloc HS.out.c _)) hgr (fun e => (HS.out.o.1 ga e.symm) rfl) | exact blk_grown (blk_drew (blk_alloc (blk_drew HS.out.c) _)) hgr (fun e => (HS.out.o.1 ga e.symm) rfl) | exact blk_grown (blk_alloc (blk_drew HS.out.c) _) hgr (fun e => (HS.out.o.1 ga e.symm) rfl) | exact blk_grown (blk_alloc HS.out.c _) hgr (fun e => (HS.out.o.1 ga e.symm) rfl) : B60 w5 ga { a with t := ts } (.slice A ts.length cv)); have c9 := B60.c6 hbk; have f9 := blk_frozen hbk 6; have HRR := Aside0.mk hR; have HBK := Aside0.mk hbk; have HBW : Aside0 (Below w.heap.size w w5) := ⟨below_grown (by repeat (first | (with_reducible first | exact HS.out.b | apply below_alloc | apply pw_below_drewN | apply below_drew1) | exact HS.out.b)) (by have := HS.out.b.size; simp; omega) hgr (fun k hk => (rt_own HS.out.o k hk).1)⟩; clear hR hgr hat hbk)
                  all_goals
                    have HX9 := Aside0.mk (AS.app (a := a) HBK.out HRR.out HS.out.ge HBW.out)
                    clear e0 e1 l0 l1 hfc c9 f9 HBK HRR HBW HS HRB HTB
                    go_wp2
                    go_roundw
                    case rel => exact ⟨j + 1, ts ++ [t], _, by omega, by go_num, by simp [HTL.out], HT2, HX9⟩
                    case measure => simp [intOf]; omega
              · have HN : Aside0 (FN k ls { a with t := ts } false) := ⟨fn_torn HK.out HF.out HX2.out HY.out htn⟩
                clear htn HTN
                go_wp2
                go_ret
                exact fp_mk false _ _ rfl HN.out HS.out
            · obtain rfl : j = m := by omega
              have d1 : decide ((j : Int) < (j : Int)) = false := decide_eq_false (by omega)
              have HN : Aside0 (FN k ls { a with t := ts } true) := ⟨fn_tears HK.out HF.out HX2.out HT.out (by rw [HTL.out]; exact HM.out)⟩
              go_wp2
              go_ret
              exact fp_mk true _ _ rfl HN.out HS.out
      · have q0 : ((x.toNat : Int) == 116) = false := u8f hxt
        have HXT := Aside0.mk hxt
        clear hxt
        by_cases hil : i < ls.length
        · have d1 : decide ((ls.length : Int) ≤ (i : Int)) = false := decide_eq_false (by omega)
          have hk5 : (i : Int) < (ls.length : Int) := by omega
          have hk6 : (ls.length : Int) ≤ 100000 := by have := HLN.out; omega
          obtain ⟨y, hy⟩ : ∃ y, ls[i]? = some y := ⟨_, List.getElem?_eq_getElem hil⟩
          have c0 := HW.out.cell HS.out.b hy
          have HY := Aside0.mk hy
          have HYL : Aside0 (y.length ≤ 100000) := ⟨HW.out.l y (List.mem_of_getElem? hy)⟩
          clear hy
          go_wp2_with fail
          refine (snumber_calls y _ HYL.out (HG.out.below HS.out.b)).mono ?_
          rintro e w2 ⟨⟨v, ok, rfl, hnd⟩, hb⟩
          have HND := Aside0.mk hnd
          have HS2 := Aside0.mk (HS.out.below hb)
          clear hb hnd c0 HS
          rcases HND.out with ⟨rfl, n, hn, rfl⟩ | ⟨rfl, hno⟩
          · have HN := Aside0.mk hn
            clear hn HND
            go_wp2_with fail
            refine (at_calls x ga _).mono ?_
            rintro e w3 ⟨rfl, rfl⟩
            have c1 := HS2.out.c.cell x
            have f1 := blk_frozen HS2.out.c (offL x)
            have HX9 := Aside0.mk (HS2.out.set x n)
            have HF2 : Aside0 (FI k (form k).2 ls (i + 1) (a.set x n)) := ⟨fi_step (by rw [HP.out]; exact HPS.out) HF.out HX.out HXT.out (by rw [HY.out, HN.out.1, ← itoa_nat]) ⟨by omega, by have := HN.out.2; omega⟩⟩
            clear HS2
            go_wp2
            go_roundw
            case rel => exact ⟨i + 1, a.set x n, by omega, by go_num, HF2, HX9⟩
            case measure => simp [intOf]; omega
          · have HN : Aside0 (FN k ls a false) := ⟨fn_num HF.out HX.out HXT.out HY.out hno⟩
            clear hno HND
            go_wp2
            go_ret
            exact fp_mk false _ _ rfl HN.out HS2.out
        · have d1 : decide ((ls.length : Int) ≤ (i : Int)) = true := decide_eq_true (by omega)
          have HN : Aside0 (FN k ls a false) := ⟨fn_short HF.out HX.out HXT.out (by omega)⟩
          go_wp2
          go_ret
          exact fp_mk false _ _ rfl HN.out HS.out
    · obtain rfl : i = ps.length := by omega
      have d0 : decide ((ps.length : Int) < (ps.length : Int)) = false := decide_eq_false (by omega)
      have HE : Aside0 (FN k ls a (ls.length == ps.length)) := ⟨by
        have h := fn_end HK.out HF.out (by rw [HP.out])
        rwa [HP.out] at h⟩
      have HEQ : Aside0 (((ls.length : Int) == (ps.length : Int)) = (ls.length == ps.length)) := ⟨by
        rw [Bool.eq_iff_iff, beq_iff_eq, beq_iff_eq]; omega⟩
      go_wp2
      go_ret
      exact fp_mk _ a _ (by rw [HEQ.out]; rfl) HE.out HS.out
end Go.Proofs.YtagpkphehkfjgaaDoor.Sc

namespace Go.Proofs.YtagpkphehkfjgaaDoor.Sc
open Go.RowKit Go.Proofs.YtagpkphehkfjgaaDoorW.PrintWords Go.Proofs.YtagpkphehkfjgaaDoorW.PrintLast Go.Proofs.YtagpkphehkfjgaaDoorW.PrintMore Go.Proofs.YtagpkphehkfjgaaDoor.Px
/-- What the reader of words answers. -/
def RN (ws : List (List UInt8)) (a : Act) (ok : Bool) : Prop := (ok = true ∧ MayA a ∧ wordsOf a = ws) ∨ (ok = false ∧ ∀ u, MayA u → wordsOf u ≠ ws)
theorem rn_fill {k : Int} {x : List UInt8} {ls : List (List UInt8)} {a : Act} {ok : Bool} (hk : 1 ≤ k ∧ k ≤ 12) (hx : (form k).1 = x) (h : FN k ls a ok) : RN (x :: ls) a ok := by
  rcases h with ⟨rfl, hak, hm, hp⟩ | ⟨rfl, hno⟩
  · refine Or.inl ⟨rfl, hm, ?_⟩
    unfold wordsOf
    rw [hak, hx, hp]
  · refine Or.inr ⟨rfl, fun u hu e => ?_⟩
    unfold wordsOf at e
    injection e with e1 e2
    have hku := form_inj hu.ik hk (e1.trans hx.symm)
    rw [hku] at e2
    exact hno u hu hku e2
theorem rn_none {x : List UInt8} {ls : List (List UInt8)} {a : Act} (h : ∀ j : Int, 1 ≤ j → j ≤ 12 → (form j).1 ≠ x) : RN (x :: ls) a false :=
  Or.inr ⟨rfl, fun u hu e => by
    unfold wordsOf at e
    injection e with e1 e2
    exact h u.k hu.ik.1 hu.ik.2 e1⟩
/-- An act's value. -/
abbrev actV (a : Act) (v : Value) : Value := .agg #[.int .i64 a.k, .int .i64 a.a, .int .i64 a.b, .int .i64 a.n, .int .i64 a.x, .int .i64 a.y, v]
def ReadPost (ws : List (List UInt8)) (w : World) (e : Ending) (w' : World) : Prop := ∃ ok a v, e = .returned (.tuple #[actV a v, .bool ok]) ∧ RN ws a ok ∧ RT w' w.heap.size (fun _ => True) v a.t ∧ Below w.heap.size w w'
theorem rp_mk {ws : List (List UInt8)} {w w' : World} {e : Ending} (ok : Bool) (a : Act) (v : Value) (he : e = .returned (.tuple #[actV a v, .bool ok])) (hn : RN ws a ok) (hr : RT w' w.heap.size (fun _ => True) v a.t) (hb : Below w.heap.size w w') : ReadPost ws w e w' := ⟨ok, a, v, he, hn, hr, hb⟩
theorem rt_end {w W W5 : World} {gr ga : Nat} {a : Act} {v : Value} {b : Act} {u : Value} (hr : B60 W gr b u) (hw : Below w.heap.size w W) (h : AS W ga a v W5) : RT (put7 W5 gr a v) w.heap.size (fun _ => True) v a.t := by
  have h1 := Kd.R_mono (Kd.R_bound h.o) (ok' := fun k => k ≠ gr) (fun k hk => by
    obtain ⟨_, h1, _⟩ := hk
    have h2 := blk_lt hr
    omega)
  exact Kd.R_mono (put7_R (Kd.R_lower h1 hw.size) (fun k hk => hk) a v) (fun _ _ => trivial)
theorem WR.below {w W : World} {gw off : Nat} {ls : List (List UInt8)} (h : WR w gw off ls) (hb : Below w.heap.size w W) : WR W gw off ls :=
  ⟨Nat.lt_of_lt_of_le h.g hb.size, fun j x hx => h.cell hb hx, h.l, h.n⟩
theorem WR.tail {w : World} {gw off : Nat} {x : List UInt8} {ls : List (List UInt8)} (h : WR w gw off (x :: ls)) : WR w gw (off + 1) ls :=
  ⟨h.g, fun j y hy => by rw [show off + 1 + j = off + (j + 1) by omega]; exact h.c (j + 1) y hy, fun y hy => h.l y (List.mem_cons_of_mem _ hy), by have := h.n; simp at this; omega⟩
set_option maxHeartbeats 1600000 in
set_option maxRecDepth 100000 in
theorem read_calls (gw c : Nat) (x : List UInt8) (ls : List (List UInt8)) (w : World) (hg : Gl w) (hw : WR w gw 0 (x :: ls)) (hc : ls.length + 1 ≤ c) :
    Calls Tryd.prog 43 #[.slice (some ⟨gw, 0, none⟩) (ls.length + 1) c] w (ReadPost (x :: ls) w) := by
  have HG := Aside0.mk hg
  have HW := Aside0.mk hw
  have HC := Aside0.mk hc
  have HLN : Aside0 (ls.length + 1 ≤ 100000) := ⟨hw.n⟩
  clear hg hw hc
  go_enter Tryd.func43, Tryd.ntmps43
  go_upto_region 1 with (fail)
  obtain ⟨gr, hgr⟩ : ∃ gr, w.heap.size = gr := ⟨_, rfl⟩
  rw [hgr]
  refine wp_world (fun W => Aside0 (B60 W gr zAct (.slice none 0 0)) ∧ Aside0 (w.heap.size ≤ gr) ∧ Aside0 (Below w.heap.size w W)) (by
    subst hgr
    exact ⟨⟨blk_new w _⟩, ⟨Nat.le_refl _⟩, ⟨below_alloc (Below.refl _ _) _⟩⟩) ?_
  clear hgr
  rintro w1 ⟨HBR, HGE, HB⟩
  go_wp2
  go_loopw [4] (fun v4 W => ∃ (k : Int), 1 ≤ k ∧ k ≤ 13 ∧ v4 = .int .i64 k ∧ Aside0 (∀ j : Int, 1 ≤ j → j < k → (form j).1 ≠ x) ∧ Aside0 (B60 W gr zAct (.slice none 0 0)) ∧ Aside0 (Below w.heap.size w W)) (fun v4 _ => 13 - (intOf v4).toNat)
  case atStart => exact ⟨1, by omega, by omega, rfl, ⟨fun j h1 h2 => by omega⟩, HBR, HB⟩
  case round =>
    clear HBR HB
    obtain ⟨k, hk1, hk2, rfl, HNO, HBR, HB⟩ := hrel
    by_cases hk : k ≤ 12
    · have d0 : decide (k ≤ (12 : Int)) = true := decide_eq_true hk
      have c0 : wr.cell? ⟨gw, 0, none⟩ = some (Sv x) := HW.out.cell HB.out (j := 0) rfl
      have HK : Aside0 (1 ≤ k ∧ k ≤ 12) := ⟨⟨hk1, hk⟩⟩
      have hl1 : (ls.length : Int) + 1 ≤ 100000 := by have := HLN.out; omega
      clear hk hk1 hk2
      go_wp2_with fail
      refine (form_calls k _).mono ?_
      rintro e w2 ⟨rfl, rfl⟩
      obtain ⟨p, hp⟩ : ∃ p, (form k).1 = p := ⟨_, rfl⟩
      rw [hp]
      have HP := Aside0.mk hp
      clear hp
      by_cases hpx : p = x
      · have q0 : (p == x) = true := beq_iff_eq.2 hpx
        have HFX : Aside0 ((form k).1 = x) := ⟨HP.out.trans hpx⟩
        clear hpx c0
        have c0 : wr.cell? ⟨gw, 0, none⟩ = some (Sv x) := HW.out.cell HB.out (j := 0) rfl
        go_upto_region 7 with (fail)
        obtain ⟨ga, hga⟩ : ∃ ga, wr.heap.size = ga := ⟨_, rfl⟩
        refine wp_world (fun W => Aside0 (W.heap[ga]? = some (.cells #[.int .i64 0, .int .i64 0, .int .i64 0, .int .i64 0, .int .i64 0, .int .i64 0, .slice none 0 0] 60 (0, 0))) ∧ Aside0 (Below wr.heap.size wr W)) (by
          subst hga
          exact ⟨⟨blk_new wr _⟩, ⟨below_alloc (Below.refl _ _) _⟩⟩) ?_
        rw [hga]
        have HGA := Aside0.mk hga
        clear hga c0 q0
        rintro w3 ⟨HB3, HW3⟩
        have c0 := blk_cell HB3.out 0
        have f0 := blk_frozen HB3.out 0
        simp at c0
        go_upto_region 8 with (fail)
        refine wp_world (AS wr ga { zAct with k := k } (.slice none 0 0)) (by
          refine ⟨blk_put HB3.out 0 _ rfl, Kd.R_nil _ _ _ _ _, by have := HGA.out; omega, ?_⟩
          have hb := HW3.out
          rw [← HGA.out] at hb
          exact below_set hb (Nat.le_of_eq HGA.out) 0 _) ?_
        clear HB3 HW3 c0 f0
        intro w4 has
        have HAS := Aside0.mk has
        clear has
        have hl2 : 0 ≤ (ls.length : Int) := by omega
        have hl3 : (1 : Int) ≤ (ls.length : Int) + 1 := by omega
        have hcc : ls.length + 1 ≤ c := HC.out
        rcases Nat.eq_zero_or_pos (c - 1) with hci | hci
        · have HLZ : Aside0 (ls = []) := ⟨List.length_eq_zero_iff.1 (by omega)⟩
          go_wp2_with fail
          refine (fill_calls k gw 0 0 ls ga wr w4 HK.out HAS.out (HG.out.below HB.out) (by rw [HLZ.out]; exact ⟨(HW.out.below HB.out).g, fun j y hy => by simp at hy, fun y hy => by simp at hy, by simp⟩) (by rw [HLZ.out]; simp)).mono ?_
          rintro e w5 ⟨ok, a, v, rfl, hfn, has⟩
          obtain ⟨A, cv, ev⟩ := Kd.R_slice has.o
          have HRN := Aside0.mk (rn_fill HK.out HFX.out hfn)
          have HBR5 := Aside0.mk (blk_below HBR.out has.b)
          have HS5 := Aside0.mk has
          clear hfn has HAS
          subst ev
          obtain ⟨r0, r1, r2, r3, r4, r5, r6⟩ := B60.all HBR5.out
          obtain ⟨f0, f1, f2, f3, f4, f5, f6⟩ := B60.frz HBR5.out
          obtain ⟨s0, s1, s2, s3, s4, s5, s6⟩ := HS5.out.c.all
          go_wp2
          refine bodyPost_ret (results_ct rfl _ _ gr 60 #[.int .i64 a.k, .int .i64 a.a, .int .i64 a.b, .int .i64 a.n, .int .i64 a.x, .int .i64 a.y, .slice A a.t.length cv] (0, 0) _ rfl (put7_blk HBR5.out a _) Tryd.underlying60 rfl (by kernel_rfl)) rfl ?_
          exact rp_mk ok a _ rfl HRN.out (rt_end HBR.out HB.out HS5.out) (put7_below (below_step HB.out HS5.out.b) HGE.out a _)
        · have hci2 : ¬ (c - 1 = 0) := by omega
          go_wp2_with fail
          refine (fill_calls k gw 1 (c - 1) ls ga wr w4 HK.out HAS.out (HG.out.below HB.out) (HW.out.below HB.out).tail (by have := HC.out; omega)).mono ?_
          rintro e w5 ⟨ok, a, v, rfl, hfn, has⟩
          obtain ⟨A, cv, ev⟩ := Kd.R_slice has.o
          have HRN := Aside0.mk (rn_fill HK.out HFX.out hfn)
          have HBR5 := Aside0.mk (blk_below HBR.out has.b)
          have HS5 := Aside0.mk has
          clear hfn has HAS
          subst ev
          obtain ⟨r0, r1, r2, r3, r4, r5, r6⟩ := B60.all HBR5.out
          obtain ⟨f0, f1, f2, f3, f4, f5, f6⟩ := B60.frz HBR5.out
          obtain ⟨s0, s1, s2, s3, s4, s5, s6⟩ := HS5.out.c.all
          go_wp2
          refine bodyPost_ret (results_ct rfl _ _ gr 60 #[.int .i64 a.k, .int .i64 a.a, .int .i64 a.b, .int .i64 a.n, .int .i64 a.x, .int .i64 a.y, .slice A a.t.length cv] (0, 0) _ rfl (put7_blk HBR5.out a _) Tryd.underlying60 rfl (by kernel_rfl)) rfl ?_
          exact rp_mk ok a _ rfl HRN.out (rt_end HBR.out HB.out HS5.out) (put7_below (below_step HB.out HS5.out.b) HGE.out a _)
      · have q0 : (p == x) = false := beq_eq_false_iff_ne.2 hpx
        have HNO2 : Aside0 (∀ j : Int, 1 ≤ j → j < k + 1 → (form j).1 ≠ x) := ⟨fun j h1 h2 => by
          by_cases hj : j = k
          · rw [hj, HP.out]; exact hpx
          · exact HNO.out j h1 (by omega)⟩
        clear hpx
        have hk3 : (0 : Int) ≤ k := by have := HK.out; omega
        have hk4 : k ≤ (12 : Int) := HK.out.2
        go_wp2
        go_roundw
        case rel => exact ⟨k + 1, by omega, by omega, rfl, HNO2, HBR, HB⟩
        case measure => simp [intOf]; omega
    · obtain rfl : k = 13 := by omega
      have HN : Aside0 (RN (x :: ls) zAct false) := ⟨rn_none (fun j h1 h2 => HNO.out j h1 (by omega))⟩
      have d0 : decide ((13 : Int) ≤ (12 : Int)) = false := by decide
      obtain ⟨r0, r1, r2, r3, r4, r5, r6⟩ := HBR.out.all
      obtain ⟨f0, f1, f2, f3, f4, f5, f6⟩ := HBR.out.frz
      go_wp2
      refine bodyPost_ret (results_ct rfl _ _ gr 60 #[.int .i64 0, .int .i64 0, .int .i64 0, .int .i64 0, .int .i64 0, .int .i64 0, .slice none 0 0] (0, 0) _ rfl (put7_blk HBR.out zAct _) Tryd.underlying60 rfl (by kernel_rfl)) rfl ?_
      exact rp_mk false zAct _ rfl HN.out (Kd.R_nil _ _ _ _ _) (put7_below HB.out HGE.out zAct _)
end Go.Proofs.YtagpkphehkfjgaaDoor.Sc

namespace Go.Proofs.YtagpkphehkfjgaaDoor.Sc
open Go.RowKit Go.Proofs.YtagpkphehkfjgaaDoorW.PrintWords Go.Proofs.YtagpkphehkfjgaaDoorW.PrintLast Go.Proofs.YtagpkphehkfjgaaDoorW.PrintMore Go.Proofs.YtagpkphehkfjgaaDoor.Px
theorem info60 : (Tryd.prog.info? 60).map (fun i => (i.zero, i.size, i.bytes)) = some (some (.agg #[.int .i64 0, .int .i64 0, .int .i64 0, .int .i64 0, .int .i64 0, .int .i64 0, .slice none 0 0]), 7, 72) := by kernel_rfl
/-- A row of acts. -/
abbrev RA (w : World) (base : Nat) (ok : Nat → Prop) (v : Value) (l : List Act) : Prop := Kd.R kAct 60 w base ok v l
theorem kAct_M {w : World} {base : Nat} {ok : Nat → Prop} {a : Act} {v : Value} (h : RT w base ok v a.t) : kAct.M w base ok a [.int .i64 a.k, .int .i64 a.a, .int .i64 a.b, .int .i64 a.n, .int .i64 a.x, .int .i64 a.y, v] :=
  ⟨[_], [_, _, _, _, _, _], rfl, rfl, [_], [_, _, _, _, _], rfl, rfl, [_], [_, _, _, _], rfl, rfl, [_], [_, _, _], rfl, rfl, [_], [_, _], rfl, rfl, [_], [_], rfl, rfl, v, rfl, h⟩
theorem ra_own {w : World} {base : Nat} {ok : Nat → Prop} {v : Value} {l : List Act} (h : RA w base ok v l) (k : Nat) (hk : v.ownBlock = some k) : base ≤ k ∧ k < w.heap.size := by
  obtain ⟨inner, ho⟩ := Kd.R_own h
  exact ⟨own_base ho k hk, own_lt ho k hk⟩
/-- Tears made anew, beside a row of acts. -/
theorem rt_apart {W W' : World} {v bv : Value} {xs : List Act} {ts : List Tear} {base : Nat} {ok : Nat → Prop} (h : RA W base ok v xs) (hb : base ≤ W.heap.size) (hr : RT W' W.heap.size (fun _ => True) bv ts) : RT W' base (fun k => some k ≠ v.ownBlock) bv ts := by
  refine Kd.R_lower (Kd.R_mono (Kd.R_bound hr) (fun k hk => ?_)) hb
  obtain ⟨_, h1, _⟩ := hk
  exact fun e => by have := (ra_own h k e.symm).2; omega
theorem parts10 (l : List UInt8) : ((10 : UInt8) ∉ l ∧ Lib.cut l [10] = (l, [], false)) ∨ ∃ a r, (10 : UInt8) ∉ a ∧ l = a ++ 10 :: r ∧ Lib.cut l [10] = (a, r, true) := by
  rcases idx_cases 10 l with ⟨_, h⟩ | ⟨a, r, e, hn, _⟩
  · exact Or.inl ⟨h, cut_none h⟩
  · exact Or.inr ⟨a, r, hn, e, by rw [e]; exact cut_some hn⟩
theorem pieces_count (c : UInt8) : ∀ l : List UInt8, (pieces c l).length ≤ l.length + 1
  | [] => by simp [pieces]
  | b :: l => by
    have ih := pieces_count c l
    rw [pieces_cons]
    split
    · simp; omega
    · split
      · simp
      · rename_i h; rw [h] at ih; simp at ih ⊢; omega
theorem rn_line {l : List UInt8} {a : Act} {ok : Bool} (h : RN (pieces 32 l) a ok) : (ok = true ∧ lineA l = some a) ∨ (ok = false ∧ lineA l = none) := by
  rcases h with ⟨rfl, hm, hw⟩ | ⟨rfl, hn⟩
  · exact Or.inl ⟨rfl, lineA_some (isLine_iff.2 ⟨hm, hw⟩)⟩
  · exact Or.inr ⟨rfl, lineA_none (fun b hb => hn b hb.1 (isLine_iff.1 hb).2)⟩
theorem getF_nil (done : List Act) : getF (pieces 10 []) done = (done, 0, 0) := by
  show getF [[]] done = _
  unfold getF
  rw [if_pos rfl]
theorem getF_last {l : List UInt8} (h : (10 : UInt8) ∉ l) (hne : l ≠ []) (done : List Act) : getF (pieces 10 l) done = ([], done.length + 1, 2) := by
  rw [pieces_none h]
  unfold getF
  rw [if_neg hne]
theorem getF_some {l r : List UInt8} (h : (10 : UInt8) ∉ l) (done : List Act) : getF (pieces 10 (l ++ 10 :: r)) done = match lineA l with | none => ([], done.length + 1, 2) | some a => if done.length = 400 then ([], done.length + 1, 2) else getF (pieces 10 r) (done ++ [a]) := by
  rw [pieces_some h]
  cases hp : pieces 10 r with
  | nil => exact absurd hp (pieces_ne 10 r)
  | cons m q => rw [getF]; cases lineA l <;> rfl
theorem cut_line (r : List UInt8) (done : List Act) (hne : r ≠ []) : ∃ line rest ended, Lib.cut r [10] = (line, rest, ended) ∧ line.length ≤ r.length ∧ rest.length ≤ r.length ∧ ((ended = false ∧ getF (pieces 10 r) done = ([], done.length + 1, 2)) ∨ (ended = true ∧ rest.length < r.length ∧ getF (pieces 10 r) done = match lineA line with | none => ([], done.length + 1, 2) | some a => if done.length = 400 then ([], done.length + 1, 2) else getF (pieces 10 rest) (done ++ [a]))) := by
  rcases parts10 r with ⟨hn, hc⟩ | ⟨a, r2, hn, rfl, hc⟩
  · exact ⟨r, [], false, hc, Nat.le_refl _, Nat.zero_le _, Or.inl ⟨rfl, getF_last hn hne done⟩⟩
  · exact ⟨a, r2, true, hc, by simp, by simp; omega, Or.inr ⟨rfl, by simp; omega, getF_some hn done⟩⟩
def GetPost (l : List UInt8) (w : World) (e : Ending) (w' : World) : Prop := ∃ xs v at_ er, e = .returned (.tuple #[v, .int .i64 ((at_ : Nat) : Int), .int .i64 ((er : Nat) : Int)]) ∧ getF (pieces 10 l) [] = (xs, at_, er) ∧ RA w' w.heap.size (fun _ => True) v xs ∧ Below w.heap.size w w'
theorem gp_mk {l : List UInt8} {w w' : World} {e : Ending} (xs : List Act) (v : Value) (at_ er : Nat) (he : e = .returned (.tuple #[v, .int .i64 (at_ : Int), .int .i64 (er : Int)])) (hg : getF (pieces 10 l) [] = (xs, at_, er)) (hr : RA w' w.heap.size (fun _ => True) v xs) (hb : Below w.heap.size w w') : GetPost l w e w' := ⟨xs, v, at_, er, he, hg, hr, hb⟩
set_option maxHeartbeats 1600000 in
set_option maxRecDepth 100000 in
theorem get_calls (l : List UInt8) (w : World) (hl : l.length ≤ 65536) (hg : Gl w) : Calls Tryd.prog 24 #[Sv l] w (GetPost l w) := by
  have HL := Aside0.mk hl
  have HG := Aside0.mk hg
  have q0 : decide ((65536 : Int) < (l.length : Int)) = false := decide_eq_false (by omega)
  clear hl hg
  go_enter Tryd.func24, Tryd.ntmps24
  go_wp2
  clear q0
  go_loopw [0, 5] (fun v0 v5 W => ∃ (r : List UInt8) (done : List Act), v0 = Sv r ∧ r.length ≤ l.length ∧ Aside0 (getF (pieces 10 l) [] = getF (pieces 10 r) done) ∧ done.length ≤ 400 ∧ Aside0 (RA W w.heap.size (fun _ => True) v5 done) ∧ Aside0 (Below w.heap.size w W)) (fun v0 _ _ => match v0 with | .string b => b.size | _ => 0)
  case atStart => exact ⟨l, [], rfl, Nat.le_refl _, ⟨rfl⟩, by simp, ⟨Kd.R_nil _ _ _ _ _⟩, ⟨Below.refl _ _⟩⟩
  case round =>
    obtain ⟨r, done, rfl, hr, HF, hd, HR, HB⟩ := hrel
    have HD := Aside0.mk hd
    have HRL : Aside0 (r.length ≤ 65536) := ⟨by have := HL.out; omega⟩
    obtain ⟨A, cv, ev⟩ := Kd.R_slice HR.out
    subst ev
    have HRR : Aside0 (r.length ≤ l.length) := ⟨hr⟩
    clear hr hd
    by_cases hre : r = []
    · have q1 : (r == []) = true := beq_iff_eq.2 hre
      have HE : Aside0 (getF (pieces 10 l) [] = (done, 0, 0)) := ⟨by rw [HF.out, hre]; exact getF_nil done⟩
      clear hre
      go_wp2
      go_ret3
      exact gp_mk done _ 0 0 rfl HE.out HR.out HB.out
    · have q1 : (r == []) = false := beq_eq_false_iff_ne.2 hre
      obtain ⟨line, rest, ended, hcut, hll, hrl, hcase⟩ := cut_line r done hre
      have HRE := Aside0.mk hre
      have HCUT := Aside0.mk hcut
      have HCASE := Aside0.mk hcase
      have HLL : Aside0 (line.length ≤ 65536) := ⟨by have := HRL.out; omega⟩
      have HRS : Aside0 (rest.length ≤ r.length) := ⟨hrl⟩
      clear hre hcut hll hrl hcase
      go_wp2_with fail
      refine (scut_calls r 10 _ (by have := HRL.out; omega) (HG.out.below HB.out)).mono ?_
      rw [HCUT.out]
      rintro e w2 ⟨rfl, hb⟩
      have HR2 := Aside0.mk (Kd.R_below HR.out hb)
      have HB2 := Aside0.mk (below_step HB.out hb)
      clear hb HR HB q1
      go_wp2_with fail
      obtain ⟨gw, hgw⟩ : ∃ gw, w2.heap.size = gw := ⟨_, rfl⟩
      refine (split_calls line 32 w2 (by have := HLL.out; omega) (HG.out.below HB2.out)).mono ?_
      obtain ⟨x, ls, hps⟩ : ∃ x ls, pieces 32 line = x :: ls := by
        cases h : pieces 32 line with
        | nil => exact absurd h (pieces_ne 32 line)
        | cons x ls => exact ⟨x, ls, rfl⟩
      rw [hps, hgw]
      rintro e w3 ⟨rfl, hblk, hb⟩
      have HWR : Aside0 (WR w3 gw 0 (x :: ls)) := ⟨blk_lt hblk, fun j y hy => by rw [Nat.zero_add]; exact ws_cell hblk hy, fun y hy => by
        have h := pieces_len 32 line y (by rw [hps]; exact hy)
        have := HLL.out
        omega, by
        have h := pieces_count 32 line
        rw [hps] at h
        have := HLL.out
        omega⟩
      have HPS := Aside0.mk hps
      have hb2 : Below w2.heap.size w2 w3 := by rw [hgw]; exact hb
      have HR3 := Aside0.mk (Kd.R_below HR2.out hb2)
      have HB3 := Aside0.mk (below_step HB2.out hb2)
      clear hb hb2 hps hgw hblk HR2 HB2
      rw [List.length_cons]
      go_wp2_with fail
      refine (read_calls gw (ls.length + 1) x ls w3 (HG.out.below HB3.out) HWR.out (Nat.le_refl _)).mono ?_
      rintro e w4 ⟨ok, a, v, rfl, hrn, hrt, hb⟩
      rw [← HPS.out] at hrn
      have HLA := Aside0.mk (rn_line hrn)
      obtain ⟨At, ct, ev⟩ := Kd.R_slice hrt
      have HRT := Aside0.mk (rt_apart HR3.out HB3.out.size hrt)
      have HR4 := Aside0.mk (Kd.R_below HR3.out hb)
      have HB4 := Aside0.mk (below_step HB3.out hb)
      clear hrn hrt hb HR3 HB3 HWR
      subst ev
      go_upto_region 7 with (fail)
      obtain ⟨gt, hgt⟩ : ∃ gt, w4.heap.size = gt := ⟨_, rfl⟩
      refine wp_world (fun W => Aside0 (B60 W gt a (.slice At a.t.length ct)) ∧ Aside0 (RA W w.heap.size (fun _ => True) (.slice A done.length cv) done) ∧ Aside0 (RT W w.heap.size (fun k => some k ≠ (Value.slice A done.length cv).ownBlock) (.slice At a.t.length ct) a.t) ∧ Aside0 (Below w.heap.size w W)) (by
        subst hgt
        exact ⟨⟨blk_new w4 _⟩, ⟨Kd.R_below HR4.out (below_alloc (Below.refl _ _) _)⟩, ⟨Kd.R_below HRT.out (below_alloc (Below.refl _ _) _)⟩, ⟨below_alloc HB4.out _⟩⟩) ?_
      rw [hgt]
      clear hgt HR4 HB4 HRT
      rintro w5 ⟨HBT, HR5, HRT5, HB5⟩
      have hd4 : (done.length : Int) ≤ 400 := by have := HD.out; omega
      rcases HCASE.out with ⟨rfl, hF⟩ | ⟨rfl, hlt, hF⟩
      · have HE : Aside0 (getF (pieces 10 l) [] = ([], done.length + 1, 2)) := ⟨HF.out.trans hF⟩
        clear hF HCASE HCUT
        go_wp2
        go_ret3
        exact gp_mk [] _ (done.length + 1) 2 rfl HE.out (Kd.R_nil _ _ _ _ _) HB5.out
      · have HLT := Aside0.mk hlt
        have HF2 := Aside0.mk (HF.out.trans hF)
        clear hlt hF HCASE HCUT
        rcases HLA.out with ⟨rfl, hla⟩ | ⟨rfl, hla⟩
        · have HF3 := HF2.out
          rw [hla] at HF3
          simp only [] at HF3
          clear hla HLA
          by_cases h4 : done.length = 400
          · have q4 : ((done.length : Int) == 400) = true := by rw [beq_iff_eq]; omega
            rw [if_pos h4] at HF3
            have HE := Aside0.mk HF3
            clear HF3 h4 HF2
            go_wp2
            go_ret3
            exact gp_mk [] _ (done.length + 1) 2 rfl HE.out (Kd.R_nil _ _ _ _ _) HB5.out
          · have q4 : ((done.length : Int) == 400) = false := by rw [beq_eq_false_iff_ne]; omega
            rw [if_neg h4] at HF3
            have HE := Aside0.mk HF3
            have HD2 : Aside0 ((done ++ [a]).length ≤ 400) := ⟨by have := HD.out; simp; omega⟩
            clear HF3 h4 HF2
            obtain ⟨s0, s1, s2, s3, s4, s5, s6⟩ := HBT.out.all
            go_wp2_with (first | ((with_reducible refine gate_builtin (b := .append) (xs := #[.tmp 42, .tmp 44]) rfl ?_); at_builtin; refine Kd.R_append kAct (w0 := w) w.heap.size rfl (.tmp 42) (.tmp 44) 49 60 (.agg #[.int .i64 0, .int .i64 0, .int .i64 0, .int .i64 0, .int .i64 0, .int .i64 0, .slice none 0 0]) 72 rfl Tryd.underlying49 info60 rfl (by decide) (by omega) (.slice A done.length cv) done a [.int .i64 a.k, .int .i64 a.a, .int .i64 a.b, .int .i64 a.n, .int .i64 a.x, .int .i64 a.y, .slice At a.t.length ct] (fun _ => True) (fun k => some k ≠ (Value.slice A done.length cv).ownBlock) rfl rfl ?aP ?aK ?aF ?aO ?aB ?aS ?aL ?_; (case aP => exact kAct_M HRT5.out); (case aK => exact fun _ hk => ⟨trivial, hk⟩); (case aF => exact (fun _ _ => trivial)); (case aO => exact HR5.out); (case aB => exact HB5.out); (case aS => exact HB5.out.size); (case aL => have := HD.out; omega); intro v2 w6 ho hb hg hat; have HO := Aside0.mk ho; have HB6 := Aside0.mk hb; clear ho hb hg hat s0 s1 s2 s3 s4 s5 s6))
            clear HBT HR5 HRT5 HB5
            go_roundw
            case rel => exact ⟨rest, done ++ [a], rfl, by have := HRS.out; have := HRR.out; omega, HE, HD2.out, HO, HB6⟩
            case measure => show (⟨rest.toArray⟩ : ByteArray).size < (⟨r.toArray⟩ : ByteArray).size; rw [bsize, bsize]; exact HLT.out
        · have HE : Aside0 (getF (pieces 10 l) [] = ([], done.length + 1, 2)) := ⟨by rw [HF2.out, hla]⟩
          clear hla HLA HF2
          go_wp2
          go_ret3
          exact gp_mk [] _ (done.length + 1) 2 rfl HE.out (Kd.R_nil _ _ _ _ _) HB5.out
end Go.Proofs.YtagpkphehkfjgaaDoor.Sc
