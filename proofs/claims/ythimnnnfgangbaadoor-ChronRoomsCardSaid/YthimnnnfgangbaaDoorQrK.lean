/- Contracts of query.Word and of the reference's Word, for every input. -/
import Derived.Test.YthimnnnfgangbaaDoorQrJ
set_option linter.unusedVariables false
set_option linter.unusedSimpArgs false
namespace Go.Proofs.YthimnnnfgangbaaDoor.Qr
open Go.RowKit Go.Proofs.YthimnnnfgangbaaDoorW.PrintWords Go.Proofs.YthimnnnfgangbaaDoorW.PrintLast Go.Proofs.YthimnnnfgangbaaDoorW.PrintMore
/-- The errors' words. -/
def wordsL : List (List UInt8) := [[111, 107], [97, 114, 103], [116, 101, 120, 116], [110, 111, 110, 101], [102, 117, 108, 108], [98, 105, 103], [115, 116, 97, 116, 101], [100, 101, 97, 100], [99, 111, 114, 114, 117, 112, 116], [115, 112, 101, 110, 116], [111, 108, 100]]
/-- An error's word. -/
def wordL (e : Int) : List UInt8 := if e < 0 then [101, 114, 114, 111, 114] else if 10 < e then [101, 114, 114, 111, 114] else wordsL.getD e.toNat []
theorem wordL_len (e : Int) : 1 ≤ (wordL e).length ∧ (wordL e).length ≤ 7 := by
  unfold wordL
  split
  · decide
  · split
    · decide
    · obtain ⟨k, rfl⟩ := Int.eq_ofNat_of_zero_le (show 0 ≤ e by omega)
      have hk : k ≤ 10 := by omega
      rw [show ((k : Int)).toNat = k by omega]
      have : ∀ k, k ≤ 10 → 1 ≤ (wordsL.getD k []).length ∧ (wordsL.getD k []).length ≤ 7 := by decide
      exact this k hk
set_option maxHeartbeats 800000 in
set_option maxRecDepth 100000 in
theorem word_out (e : Int) (w : World) (h : e < 0 ∨ 10 < e) : Calls Tryd.prog 13 #[.int .i64 e] w fun r w' => r = .returned (.string ⟨(wordL e).toArray⟩) ∧ Below w.heap.size w w' := by
  rcases h with h | h
  · have hw : Aside0 (wordL e = [101, 114, 114, 111, 114]) := ⟨by unfold wordL; rw [if_pos h]⟩
    rw [hw.out]
    go_enter Tryd.func13, Tryd.ntmps13
    go_wp2
    go_ret
    exact ⟨rfl, below_alloc (Below.refl _ _) _⟩
  · have hw : Aside0 (wordL e = [101, 114, 114, 111, 114]) := ⟨by unfold wordL; rw [if_neg (by omega), if_pos h]⟩
    rw [hw.out]
    have h2 : 11 ≤ e := by omega
    have h3 : ¬ e < 0 := by omega
    clear h
    go_enter Tryd.func13, Tryd.ntmps13
    go_wp2
    go_ret
    exact ⟨rfl, below_alloc (Below.refl _ _) _⟩
set_option maxHeartbeats 3200000 in
set_option maxRecDepth 100000 in
theorem word_in (k : Nat) (h : k ≤ 10) (w : World) : Calls Tryd.prog 13 #[.int .i64 k] w fun r w' => r = .returned (.string ⟨(wordL k).toArray⟩) ∧ Below w.heap.size w w' := by
  match k, h with
  | 0, _ =>
    go_enter Tryd.func13, Tryd.ntmps13
    go_wp2
    go_ret
    exact ⟨rfl, below_alloc (Below.refl _ _) _⟩
  | 1, _ =>
    go_enter Tryd.func13, Tryd.ntmps13
    go_wp2
    go_ret
    exact ⟨rfl, below_alloc (Below.refl _ _) _⟩
  | 2, _ =>
    go_enter Tryd.func13, Tryd.ntmps13
    go_wp2
    go_ret
    exact ⟨rfl, below_alloc (Below.refl _ _) _⟩
  | 3, _ =>
    go_enter Tryd.func13, Tryd.ntmps13
    go_wp2
    go_ret
    exact ⟨rfl, below_alloc (Below.refl _ _) _⟩
  | 4, _ =>
    go_enter Tryd.func13, Tryd.ntmps13
    go_wp2
    go_ret
    exact ⟨rfl, below_alloc (Below.refl _ _) _⟩
  | 5, _ =>
    go_enter Tryd.func13, Tryd.ntmps13
    go_wp2
    go_ret
    exact ⟨rfl, below_alloc (Below.refl _ _) _⟩
  | 6, _ =>
    go_enter Tryd.func13, Tryd.ntmps13
    go_wp2
    go_ret
    exact ⟨rfl, below_alloc (Below.refl _ _) _⟩
  | 7, _ =>
    go_enter Tryd.func13, Tryd.ntmps13
    go_wp2
    go_ret
    exact ⟨rfl, below_alloc (Below.refl _ _) _⟩
  | 8, _ =>
    go_enter Tryd.func13, Tryd.ntmps13
    go_wp2
    go_ret
    exact ⟨rfl, below_alloc (Below.refl _ _) _⟩
  | 9, _ =>
    go_enter Tryd.func13, Tryd.ntmps13
    go_wp2
    go_ret
    exact ⟨rfl, below_alloc (Below.refl _ _) _⟩
  | 10, _ =>
    go_enter Tryd.func13, Tryd.ntmps13
    go_wp2
    go_ret
    exact ⟨rfl, below_alloc (Below.refl _ _) _⟩
  | n + 11, h => omega
theorem word13 (e : Int) (w : World) : Calls Tryd.prog 13 #[.int .i64 e] w fun r w' => r = .returned (.string ⟨(wordL e).toArray⟩) ∧ Below w.heap.size w w' := by
  by_cases h : e < 0 ∨ 10 < e
  · exact word_out e w h
  · obtain ⟨k, rfl⟩ := Int.eq_ofNat_of_zero_le (show 0 ≤ e by omega)
    exact word_in k (by omega) w
theorem rword14 (e : Int) (w : World) : Calls Tryd.prog 14 #[.int .i64 e] w fun r w' => r = .returned (.string ⟨(wordL e).toArray⟩) ∧ Below w.heap.size w w' := by
  refine waymarkref30_Word.calls e _ w ?_
  unfold waymarkref30_Word.f wordL
  by_cases h : e < 0
  · rw [if_pos h, if_pos h]
  · by_cases h2 : 10 < e
    · rw [if_neg h, if_pos (by omega), if_neg h, if_pos h2]
    · rw [if_neg h, if_neg (by omega), if_neg h, if_neg h2]
      obtain ⟨k, rfl⟩ := Int.eq_ofNat_of_zero_le (show 0 ≤ e by omega)
      have hk : k ≤ 10 := by omega
      unfold waymarkref30_Words.f
      simp only [Option.bind_some]
      rw [if_pos (by omega), if_pos (by simp; omega)]
      have : ∀ k : Nat, k ≤ 10 → rdOf ByteArray.empty [(⟨#[111, 107]⟩ : ByteArray), (⟨#[97, 114, 103]⟩ : ByteArray), (⟨#[116, 101, 120, 116]⟩ : ByteArray), (⟨#[110, 111, 110, 101]⟩ : ByteArray), (⟨#[102, 117, 108, 108]⟩ : ByteArray), (⟨#[98, 105, 103]⟩ : ByteArray), (⟨#[115, 116, 97, 116, 101]⟩ : ByteArray), (⟨#[100, 101, 97, 100]⟩ : ByteArray), (⟨#[99, 111, 114, 114, 117, 112, 116]⟩ : ByteArray), (⟨#[115, 112, 101, 110, 116]⟩ : ByteArray), (⟨#[111, 108, 100]⟩ : ByteArray)] (k : Int) = ⟨(wordsL.getD ((k : Int)).toNat []).toArray⟩ := by
        intro k hk
        match k, hk with
        | 0, _ => rfl
        | 1, _ => rfl
        | 2, _ => rfl
        | 3, _ => rfl
        | 4, _ => rfl
        | 5, _ => rfl
        | 6, _ => rfl
        | 7, _ => rfl
        | 8, _ => rfl
        | 9, _ => rfl
        | 10, _ => rfl
        | n + 11, h => omega
      rw [this k hk]
end Go.Proofs.YthimnnnfgangbaaDoor.Qr
