/- Contract of queue.All, for every input. -/
import Derived.Test.YthimnnnfgangbaaQuY
set_option linter.unusedVariables false
set_option linter.unusedSimpArgs false
namespace Go.Proofs.Ythimnnnfgangbaa.Qu
open Go.RowKit Go.Proofs.YthimnnnfgangbaaW.PrintWords Go.Proofs.YthimnnnfgangbaaW.PrintLast Go.Proofs.YthimnnnfgangbaaW.PrintMore

set_option maxHeartbeats 400000 in
set_option maxRecDepth 100000 in
theorem all_none (w : World) : Calls Try.prog 21 #[.pointer none] w fun e w' => e = .returned (.slice none 0 0) ∧ w' = w := by
  go_enter Try.func21, Try.ntmps21
  go_wp2
  go_ret
  exact ⟨rfl, rfl⟩
theorem tx_take {xs : List (List Int)} {k : Nat} (hk : k < xs.length) : xs.take (k + 1) = xs.take k ++ [tx xs k] := by
  rw [List.take_succ_eq_append_getElem hk]
  unfold tx
  rw [List.getD_eq_getElem?_getD, List.getElem?_eq_getElem hk]
  rfl
set_option maxHeartbeats 1600000 in
set_option maxRecDepth 100000 in
theorem all_calls (B g : Nat) (v : Value) (xs : List (List Int)) (ok : Nat → Prop) (w : World) (h : QL B w g v xs ok) (hl : xs.length ≤ 1000) (hb : ∀ x ∈ xs, x.length ≤ 1000000) :
    Calls Try.prog 21 #[.pointer (some ⟨g, 0, none⟩)] w fun e w' => ∃ u, e = .returned u ∧ Kd.N kT 22 w' w.heap.size (fun _ => True) u xs ∧ Below w.heap.size w w' := by
  have H := Aside0.mk h
  have HLs := Aside0.mk hl
  have HBB := Aside0.mk hb
  obtain ⟨A, c, rfl, hcap, hC⟩ := h.v
  have p0 := blk_cell h.1 0
  simp at p0
  have HC := Aside0.mk hC
  clear h hC hl hb
  go_enter Try.func21, Try.ntmps21
  go_wp2_with fail
  go_loopw [3, 13] (fun v3 v13 W => ∃ k : Nat, k ≤ xs.length ∧ v13 = .int .i64 k ∧ Aside0 (Kd.N kT 22 W w.heap.size (fun _ => True) v3 (xs.take k)) ∧ Aside0 (Below w.heap.size w W)) (fun _ i _ => xs.length - (intOf i).toNat)
  case atStart => exact ⟨0, Nat.zero_le _, rfl, ⟨Kd.N_nil _ _ _ _ _⟩, ⟨Below.refl _ _⟩⟩
  case round =>
    obtain ⟨k, hk, rfl, HO, HB⟩ := hrel
    by_cases hlt : k < xs.length
    · obtain ⟨ad, A0, c0, rfl, t0, t1, t2⟩ := text_at (Kd.C_below HC.out HB.out) hlt
      have HT := Aside0.mk t2
      have hlb : (tx xs k).length ≤ 1000000 := HBB.out _ (by unfold tx; rw [List.getD_eq_getElem?_getD, List.getElem?_eq_getElem hlt]; exact List.getElem_mem hlt)
      have HLB := Aside0.mk hlb
      clear t1 t2 hlb p0
      go_wp2_with fail
      refine (clone_calls A0 c0 (tx xs k) _ HT.out HLB.out).mono ?_
      rintro e w1 ⟨u, rfl, hu, hb1⟩
      obtain ⟨A7, c7, rfl⟩ := Kd.R_slice hu
      have HU := Aside0.mk (show Kd.FK kT w1 (fun j => some j = (Value.slice A7 (tx xs k).length c7).ownBlock ∧ wr.heap.size ≤ j) (tx xs k) [.slice A7 (tx xs k).length c7] from Kd.FK_mono (Kd.FK_of_M (d := kT) (base := wr.heap.size) ⟨_, rfl, Kd.R_tight rfl hu⟩) (fun j hj => ⟨hj, Kd.R_base hu j hj.symm⟩))
      have HB1 := Aside0.mk (below_step HB.out hb1)
      have HO1 := Aside0.mk (Kd.N_below HO.out hb1)
      have HOl := Aside0.mk (Kd.N_lt HO.out)
      have q1 := blk_cell (blk_below H.out.1 HB1.out) 0
      clear hu hb1 t0
      have hl9 := HLs.out
      go_wp2_with (first | ((with_reducible refine gate_builtin (b := .append) (xs := #[.tmp 17, .tmp 20]) rfl ?_); at_builtin; refine Kd.N_append kT (w0 := w) w.heap.size rfl (.tmp 17) (.tmp 20) 41 22 (.slice none 0 0) 24 rfl Try.underlying41 info22 rfl (by decide) (by omega) u3 (xs.take k) (tx xs k) [.slice A7 (tx xs k).length c7] (fun _ => True) (fun j => some j = (Value.slice A7 (tx xs k).length c7).ownBlock ∧ wr.heap.size ≤ j) rfl rfl HU.out (fun j hj => ⟨trivial, fun e => by have := HOl.out j e.symm; have := hj.2; omega⟩) (fun _ _ => trivial) HO1.out HB1.out HB1.out.size (by have := HLs.out; simp; omega) ?_; intro v9 w2 hN hb2 hg hat; have HN := Aside0.mk hN; have HB2 := Aside0.mk hb2; clear hN hb2 hg hat))
      go_roundw
      case rel => exact ⟨k + 1, by omega, by go_num, ⟨by rw [tx_take hlt]; exact HN.out⟩, HB2⟩
      case measure => simp [intOf]; omega
    · obtain rfl : k = xs.length := by omega
      go_wp2
      go_ret
      rw [List.take_length] at HO
      exact ⟨_, rfl, HO.out, HB.out⟩
end Go.Proofs.Ythimnnnfgangbaa.Qu
