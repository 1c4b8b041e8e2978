/- Contracts of prefix's awake and the law PrefixCovers, for every input. -/
import Derived.Test.YtagpkphehkfjgaaDoorPxG
import Derived.Test.YtagpkphehkfjgaaDoorWEqStruct
set_option linter.unusedVariables false
set_option linter.unusedSimpArgs false
namespace Go.Proofs.YtagpkphehkfjgaaDoor.Px
open Go.RowKit Go.Proofs.YtagpkphehkfjgaaDoorW.PrintWords Go.Proofs.YtagpkphehkfjgaaDoorW.PrintLast Go.Proofs.YtagpkphehkfjgaaDoorW.PrintMore
/-- '==' of two structs. -/
def eqb (b : Int) (n : Int) (c : Int) (m : Int) : Bool := b == c && (n == m)
theorem eqA24 (d : Nat) (w : World) (x0 y0 x1 y1 : Int) :
    (Op.equalIn (d + 2) 24 (.agg #[.int .u32 x0, .int .i64 x1]) (.agg #[.int .u32 y0, .int .i64 y1])).run Tryd.prog w = .ok (eqb x0 x1 y0 y1) w := by
  unfold eqb
  refine eqA_of Tryd.underlying24 (by kernel_rfl) ?_
  refine eqf_cons (by rfl) (by go_simp; rfl) (by go_simp; rfl) (by go_simp) ?_
  exact eqf_last (by rfl) (by go_simp; rfl) (by go_simp; rfl) (by go_simp)
theorem eqb_self (b n : Int) : eqb b n b n = true := by simp [eqb]
attribute [local go_sem high] eqA24
theorem pd_awake : PD [49, 48, 46, 48, 46, 48, 46, 48, 47, 56] 167772160 8 0 := Or.inl ⟨rfl, by decide, by decide, by simp [ptext, dotted, dd, Lib.decDigits]⟩
theorem ad_awake : AD [49, 48, 46, 49, 46, 50, 46, 51] 167838211 0 := Or.inl ⟨rfl, by decide, by simp [dotted, dd, Lib.decDigits]⟩
theorem wit_awake : decide (Wit 167772160 8 167838211) = true := by decide
set_option maxHeartbeats 1600000 in
set_option maxRecDepth 100000 in
theorem awake_calls (w : World) (hg : Gl w) : Calls Tryd.prog 11 #[] w fun e w' => e = .returned (.bool true) ∧ Below w.heap.size w w' := by
  have HG := Aside0.mk hg
  clear hg
  go_enter Tryd.func11, Tryd.ntmps11
  go_wp2_with fail
  refine (parse_calls [49, 48, 46, 48, 46, 48, 46, 48, 47, 56] w (by simp) HG.out).mono ?_
  rintro e w1 ⟨⟨x, n, er, rfl, h⟩, hb⟩
  obtain ⟨rfl, rfl, rfl⟩ := PD.unique h pd_awake
  have HB := Aside0.mk hb
  have HG1 := Aside0.mk (HG.out.below hb)
  clear h hb HG
  go_upto_region 2 with (fail)
  obtain ⟨gp, hgp⟩ : ∃ gp, w1.heap.size = gp := ⟨_, rfl⟩
  rw [hgp]
  refine wp_world (fun W => W.heap[gp]? = some (.cells #[.int .u32 (167772160 : Nat), .int .i64 (8 : Nat)] 24 (0, 0)) ∧ Below w.heap.size w W ∧ Gl W) (by
    subst hgp
    exact ⟨blk_new w1 _, below_alloc HB.out _, HG1.out.below (below_alloc (Below.refl _ _) _)⟩) ?_
  clear hgp HB HG1
  rintro w2 ⟨hk, hb, hg⟩
  have HK := Aside0.mk hk
  have HB := Aside0.mk hb
  have HG := Aside0.mk hg
  clear hk hb hg
  go_wp2_with fail
  refine (address_calls [49, 48, 46, 49, 46, 50, 46, 51] w2 (by simp) HG.out).mono ?_
  rintro e w3 ⟨⟨x, er, rfl, h⟩, hb⟩
  obtain ⟨rfl, rfl⟩ := AD.unique h ad_awake
  have HB3 := Aside0.mk (below_step HB.out hb)
  have HK3 := Aside0.mk (blk_below HK.out hb)
  clear h hb HB HK
  have k0 := pc0 HK3.out
  have k1 := pc1 HK3.out
  have hq := eqb_self 167772160 8
  go_wp2_with fail
  refine (within_calls 167772160 8 167838211 w3 (by decide) (by decide)).mono ?_
  rw [wit_awake]
  rintro e w4 ⟨rfl, hb⟩
  have HB4 := Aside0.mk (below_step HB3.out hb)
  clear hb HB3 HK3 k0 k1
  go_wp2
  go_ret
  exact ⟨rfl, HB4.out⟩
theorem three (w1 : World) (n : Nat) (hn : w1.heap.size = n) (o1 o2 o3 : Obj) : (((w1.alloc o1).alloc o2).alloc o3).heap[n]? = some o1 ∧ (((w1.alloc o1).alloc o2).alloc o3).heap[n + 1]? = some o2 ∧ (((w1.alloc o1).alloc o2).alloc o3).heap[n + 1 + 1]? = some o3 := by
  subst hn
  refine ⟨blk_alloc (blk_alloc (blk_new w1 o1) _) _, ?_, ?_⟩
  · have h := blk_alloc (blk_new (w1.alloc o1) o2) o3
    simpa using h
  · have h := blk_new ((w1.alloc o1).alloc o2) o3
    simpa using h
end Go.Proofs.YtagpkphehkfjgaaDoor.Px
