/- PrefixTells (which prefixes there may be, which addresses are within, which ones cover others) holds for every input, without any condition. -/
import Derived.Test.YtagpkphehkfjgaaDoorCards
import Derived.Test.YtagpkphehkfjgaaDoorTie
import Derived.Test.YtagpkphehkfjgaaDoorPxT
import Derived.Test.YtagpkphehkfjgaaDoorPxJ
import Derived.WalkKit
import Derived.ProofKit
import Derived.OpenShut
import Derived.ShutString
import Derived.ChangeOld
import Derived.Below
import Derived.SizedLaws
import Derived.Lib.SmallJoins
import Derived.Deep.DeepHandedRow
import Derived.SevenTiedAt
namespace Go.Proofs.YtagpkphehkfjgaaDoor.prefixTells
open Go.ChangeShapes Go.WideShapes Go.ChangeAt Go.RowKit Go.Joins Go.Proofs.YtagpkphehkfjgaaDoor.Px
open Go.ChangeMaps (open_string shut_string)
set_option linter.unusedVariables false
theorem own : ownKnob Tryd.prog.godebug = none := by kernel_rfl
theorem laidOut : laidOutB Tryd.prog = true := by kernel_rfl
theorem reads (os : Os) {H : Type} (enc : TypeId × Value → H) : ∃ places, DataW.whole enc Tryd.prog ((laidWorld os).forCall (fun _ _ => 0) ⟨#[], #[.agg #[.int .u32 0, .int .i64 0], .agg #[.int .u32 0, .int .i64 0], .agg #[.int .u32 0, .int .i64 0]], []⟩).memory Tryd.f4.params.toList Rows.prefixTellsSpec.vars false #[.agg #[.int .u32 0, .int .i64 0], .agg #[.int .u32 0, .int .i64 0], .agg #[.int .u32 0, .int .i64 0]].toList 8 = some ([.agg [.lit (.int .u32 0), .lit (.int .i64 0)], .agg [.lit (.int .u32 0), .lit (.int .i64 0)], .agg [.lit (.int .u32 0), .lit (.int .i64 0)]], [], places) :=
  ⟨[], by kernel_rfl⟩
set_option maxRecDepth 100000 in
theorem lifted (os : Os) (started : os.Started) (H : Type) (enc : TypeId × Value → H) (F : Stop.Interp) :
    ReturnsInHanded {} Tryd.checked os 4 .any ((OpenSpec.ofChange Rows.prefixTellsSpec).preRow enc Tryd.prog Tryd.f4 Rows.prefixTellsRow.domain false Rows.prefixTellsRow.laid) (((OpenSpec.ofChange Rows.prefixTellsSpec).at F).post enc Tryd.prog Tryd.f4 false true false false) := by
  obtain ⟨places, hx⟩ := reads os enc
  refine returnsInHanded_of_row (C := Tryd.checked) (s := (OpenSpec.ofChange Rows.prefixTellsSpec)) own started (by kernel_rfl) Tryd.func4
    (witness_row_shaped (enc := enc) (C := Tryd.checked) false (laidWorld os) #[.agg #[.int .u32 0, .int .i64 0], .agg #[.int .u32 0, .int .i64 0], .agg #[.int .u32 0, .int .i64 0]] (World.laidAll_os _ _ _) (World.shaped_of_ZipB (by kernel_rfl) (by kernel_rfl)) (by kernel_rfl)
      (OpenSpec.preRow_of_cond 8 hx (by kernel_rfl) (fun k hk => by cases hk) (by kernel_rfl) (laid_met os _))) ?_
  intro W base args ds gs before hval0 hW _ hcond _ hL hSh _
  have hg : Gl W := gl_of_laid hL hSh
  have hval : ∀ (j : Nat) t v, Tryd.f4.params[j]? = some t → args[j]? = some v → Value.okWide Tryd.prog W .any base t v := hval0
  have hW' := hW
  obtain ⟨p, q, hA0, hV, rfl, hfz, hnd⟩ := hW
  have hA : DataW.TrodAll enc Tryd.prog W 0 (fun _ => true) true Tryd.f4.params.toList args.toList ds p := hA0
  rw [Tryd.params4] at hA hval
  obtain ⟨v0, vs0, d0, ds0, p0, q0, hargs, rfl, rfl, h0, r0⟩ := trodAll_cons hA
  obtain ⟨v1, vs1, d1, ds1, p1, q1, rfl, rfl, rfl, h1, r1⟩ := trodAll_cons r0
  obtain ⟨v2, vs2, d2, ds2, p2, q2, rfl, rfl, rfl, h2, r2⟩ := trodAll_cons r1
  obtain ⟨rfl, rfl, rfl⟩ := trodAll_nil r2
  obtain rfl : args = #[v0, v1, v2] := by cases args; simp_all
  obtain ⟨rfl, rfl⟩ := trodVars_none hV
  have k0 := h0
  have lt0 : ∀ x ∈ p0, x.block < W.heap.size := by obtain ⟨m, hm⟩ := k0; exact DataW.trod_lt m _ _ _ hm
  obtain ⟨cs0, rfl, hsz0⟩ := okWide_struct Tryd.underlying24 (hval 0 24 v0 rfl rfl)
  obtain ⟨p0_, n0_, hp0_, hn0_, hcs0⟩ : ∃ (b : Nat) (m : Int), b < 4294967296 ∧ (-9223372036854775808 ≤ m ∧ m ≤ 9223372036854775807) ∧ cs0.toList = [.int .u32 b, .int .i64 m] := by
    obtain ⟨fuel, hf⟩ := h0
    simp only [Value.cells] at hf
    exact open24 hf
  obtain rfl : cs0 = _ := by rw [← Array.toArray_toList (xs := cs0), hcs0]
  have k1 := h1
  have lt1 : ∀ x ∈ p1, x.block < W.heap.size := by obtain ⟨m, hm⟩ := k1; exact DataW.trod_lt m _ _ _ hm
  obtain ⟨cs1, rfl, hsz1⟩ := okWide_struct Tryd.underlying24 (hval 1 24 v1 rfl rfl)
  obtain ⟨p1_, n1_, hp1_, hn1_, hcs1⟩ : ∃ (b : Nat) (m : Int), b < 4294967296 ∧ (-9223372036854775808 ≤ m ∧ m ≤ 9223372036854775807) ∧ cs1.toList = [.int .u32 b, .int .i64 m] := by
    obtain ⟨fuel, hf⟩ := h1
    simp only [Value.cells] at hf
    exact open24 hf
  obtain rfl : cs1 = _ := by rw [← Array.toArray_toList (xs := cs1), hcs1]
  have k2 := h2
  have lt2 : ∀ x ∈ p2, x.block < W.heap.size := by obtain ⟨m, hm⟩ := k2; exact DataW.trod_lt m _ _ _ hm
  obtain ⟨cs2, rfl, hsz2⟩ := okWide_struct Tryd.underlying31 (hval 2 31 v2 rfl rfl)
  obtain ⟨p2_, n2_, hp2_, hn2_, hcs2⟩ : ∃ (b : Nat) (m : Int), b < 4294967296 ∧ (-9223372036854775808 ≤ m ∧ m ≤ 9223372036854775807) ∧ cs2.toList = [.int .u32 b, .int .i64 m] := by
    obtain ⟨fuel, hf⟩ := h2
    simp only [Value.cells] at hf
    exact open31 hf
  obtain rfl : cs2 = _ := by rw [← Array.toArray_toList (xs := cs2), hcs2]
  clear hA0 hval0
  refine (tells_any p0_ n0_ p1_ n1_ p2_ n2_ W hg hp0_ hp1_ hp2_).mono fun e W' ⟨he, bel⟩ => ?_
  subst he
  exact ⟨_, rfl, _, _, _, [], _, [], hW', trodAll_mk1 (shut_bool Tryd.underlying4 _), (trodAll_cons_mk (Below.trod laidOut (by kernel_rfl) (of_decide_eq_true (by kernel_rfl)) k0 bel lt0) (trodAll_cons_mk (Below.trod laidOut (by kernel_rfl) (of_decide_eq_true (by kernel_rfl)) k1 bel lt1) (trodAll_cons_mk (Below.trod laidOut (by kernel_rfl) (of_decide_eq_true (by kernel_rfl)) k2 bel lt2) trodAll_mk0))), rfl, bel.frame _, fun h => by cases h⟩
theorem said : Rows.PrefixTellsSaid :=
  OpenClaim.holds_of_cond 4 Tryd.f4 rfl rfl rfl rfl rfl rfl rfl ⟨rfl, rfl, rfl, rfl, rfl⟩ rfl rfl rfl rfl rfl (by kernel_rfl) Tryd.func4 (by kernel_rfl)
    (of_decide_eq_true (by kernel_rfl)) (by unfold Func.isWrapper; first | (rw [if_pos (by decide +kernel)]; kernel_rfl) | (rw [if_neg (by decide +kernel)]; exact ⟨rfl, rfl⟩))
    (fun os started H enc _ F => by rw [OpenClaim.pre_eq_preRow]; exact lifted os started H enc F)
theorem plain (f : FuncId) (fn : Func) (hf : Tryd.pinned.checked.prog.funcNamed "waymark/waymarklaw41.PrefixTells" = some f) (hfn : Tryd.pinned.checked.prog.funcs[f]? = some fn) :
    true = Tryd.pinned.checked.prog.looks [] ∧ ∀ (j : Nat) t, fn.params[j]? = some t → Tryd.pinned.checked.prog.wantsStandIn t = false := by
  obtain rfl : f = 4 := Option.some.inj ((show Tryd.prog.funcNamed "waymark/waymarklaw41.PrefixTells" = some 4 by kernel_rfl).symm.trans hf) |>.symm
  obtain rfl : fn = Tryd.f4 := (Option.some.inj (Tryd.func4.symm.trans hfn)).symm
  refine ⟨by kernel_rfl, fun j t ht => ?_⟩
  rw [Tryd.params4] at ht
  have h : t = 24 ∨ t = 24 ∨ t = 31 := by simpa using Array.mem_of_getElem? ht
  rcases h with h | h | h
  · subst h
    exact (show Tryd.prog.wantsStandIn 24 = false by kernel_rfl)
  · subst h
    exact (show Tryd.prog.wantsStandIn 24 = false by kernel_rfl)
  · subst h
    exact (show Tryd.prog.wantsStandIn 31 = false by kernel_rfl)
theorem card : Rows.PrefixTellsCardSaid :=
  Claim7.holds_tied_plain_at .later [] _ _ _ _ said (fun _ h => by cases h) (by kernel_rfl) (fun _ h => by cases h) prefixTells_row_tie rfl ⟨rfl, rfl⟩ (by kernel_rfl) rfl plain (by kernel_rfl)
end Go.Proofs.YtagpkphehkfjgaaDoor.prefixTells
namespace Go.Proofs.YtagpkphehkfjgaaDoor
/-- The card, under a short name, for the claim. -/
theorem prefixTells_holds : Rows.PrefixTellsCardSaid := prefixTells.card
#print axioms prefixTells_holds
end Go.Proofs.YtagpkphehkfjgaaDoor
