/- Contract of the reference's Line. Contract of the reference's Act. Contract of the reference's Get. Contract of the reference's Same on acts; what is read of a row of acts. The script's awake, and the law ScriptGets, for every text. -/
import Derived.Test.YtagpkphehkfjgaaDoorSmD
set_option linter.unusedVariables false
set_option linter.unusedSimpArgs false
namespace Go.Proofs.YtagpkphehkfjgaaDoor.Sc
open Go.RowKit Go.Proofs.YtagpkphehkfjgaaDoorW.PrintWords Go.Proofs.YtagpkphehkfjgaaDoorW.PrintLast Go.Proofs.YtagpkphehkfjgaaDoorW.PrintMore Go.Proofs.YtagpkphehkfjgaaDoor.Px
theorem glue_flat (c : UInt8) : ∀ (w : List UInt8) (ws : List (List UInt8)), glue c (w :: ws) = w ++ ws.flatMap (fun x => c :: x)
  | w, [] => by simp [glue]
  | w, x :: r => by
    rw [glue_cons c w _ (by simp), glue_flat c x r]
    simp
/-- The words of tears, a blank ahead of each. -/
def tearsW (ts : List Tear) : List UInt8 := ts.flatMap fun t => 32 :: tearW t
theorem tearsW_take {ts : List Tear} {k : Nat} {t : Tear} (h : ts[k]? = some t) : tearsW (ts.take (k + 1)) = (tearsW (ts.take k) ++ [32]) ++ tearW t := by
  unfold tearsW
  rw [List.take_add_one, h]
  simp
theorem tearW_len {t : Tear} (h : TearOk t) : (tearW t).length ≤ 81 := by
  unfold tearW
  rcases h with ⟨h1, h2⟩ | ⟨h1, h2⟩ | ⟨h1, h2, h3⟩
  · rw [if_pos h1]; simp
  · rw [if_neg (by omega), if_pos h1]; simp
  · rw [if_neg (by omega), if_neg (by omega), List.length_cons, hexs_len]; omega
theorem tearsW_len {ts : List Tear} (h : ∀ t ∈ ts, TearOk t) : (tearsW ts).length ≤ 82 * ts.length := by
  induction ts with
  | nil => simp [tearsW]
  | cons t ts ih =>
    have h1 := ih (fun m hm => h m (List.mem_cons_of_mem _ hm))
    have h2 := tearW_len (h t (by simp))
    unfold tearsW at h1 ⊢
    rw [List.flatMap_cons, List.length_append, List.length_cons, List.length_cons]
    omega
theorem nums_z (g c m : Nat) (ns : List Int) (cs : Array Value) (T : TypeId) (w : World) (hg : w.heap[g]? = some (.cells cs T (0, 0))) (hc : cs = (ns.map (fun n => Value.int .i64 n)).toArray) (hin : ∀ n ∈ ns, In n) (hl : ns.length ≤ 4) (hm : m = ns.length) :
    Calls Tryd.prog 57 #[.slice (some ⟨g, 0, none⟩) m c] w fun e w' => e = .returned (Sv (numsW ns)) ∧ Below w.heap.size w w' := by
  subst hm hc
  refine nums_calls g c ns w (blk_lt hg) (fun j n hn => ?_) hin hl
  rw [blk_cell hg j]
  simp [hn]
theorem lineT_1 (a b n x y : Int) (ts : List Tear) : lineT ⟨1, a, b, n, x, y, ts⟩ = (form 1).1 ++ numsW [a] := by
  unfold lineT wordsOf
  rw [glue_flat]
  simp [form, pw, Act.get, numsW]
theorem lineT_2 (a b n x y : Int) (ts : List Tear) : lineT ⟨2, a, b, n, x, y, ts⟩ = (form 2).1 ++ numsW [a, b, x, y] := by
  unfold lineT wordsOf
  rw [glue_flat]
  simp [form, pw, Act.get, numsW]
theorem lineT_3 (a b n x y : Int) (ts : List Tear) : lineT ⟨3, a, b, n, x, y, ts⟩ = (form 3).1 ++ numsW [a, b] := by
  unfold lineT wordsOf
  rw [glue_flat]
  simp [form, pw, Act.get, numsW]
theorem lineT_4 (a b n x y : Int) (ts : List Tear) : lineT ⟨4, a, b, n, x, y, ts⟩ = (form 4).1 ++ numsW [a] := by
  unfold lineT wordsOf
  rw [glue_flat]
  simp [form, pw, Act.get, numsW]
theorem lineT_5 (a b n x y : Int) (ts : List Tear) : lineT ⟨5, a, b, n, x, y, ts⟩ = (form 5).1 ++ numsW [a, b, n] := by
  unfold lineT wordsOf
  rw [glue_flat]
  simp [form, pw, Act.get, numsW]
theorem lineT_6 (a b n x y : Int) (ts : List Tear) : lineT ⟨6, a, b, n, x, y, ts⟩ = (form 6).1 ++ numsW [a, b, n] := by
  unfold lineT wordsOf
  rw [glue_flat]
  simp [form, pw, Act.get, numsW]
theorem lineT_7 (a b n x y : Int) (ts : List Tear) : lineT ⟨7, a, b, n, x, y, ts⟩ = (form 7).1 ++ numsW [a, b, n] := by
  unfold lineT wordsOf
  rw [glue_flat]
  simp [form, pw, Act.get, numsW]
theorem lineT_8 (a b n x y : Int) (ts : List Tear) : lineT ⟨8, a, b, n, x, y, ts⟩ = (form 8).1 ++ numsW [a, n] := by
  unfold lineT wordsOf
  rw [glue_flat]
  simp [form, pw, Act.get, numsW]
theorem lineT_9 (a b n x y : Int) (ts : List Tear) : lineT ⟨9, a, b, n, x, y, ts⟩ = ((form 9).1 ++ numsW [a]) ++ tearsW ts := by
  unfold lineT wordsOf
  rw [glue_flat]
  simp [form, pw, Act.get, numsW, tearsW, List.flatMap_map]
theorem lineT_10 (a b n x y : Int) (ts : List Tear) : lineT ⟨10, a, b, n, x, y, ts⟩ = (form 10).1 ++ numsW [a] := by
  unfold lineT wordsOf
  rw [glue_flat]
  simp [form, pw, Act.get, numsW]
theorem lineT_11 (a b n x y : Int) (ts : List Tear) : lineT ⟨11, a, b, n, x, y, ts⟩ = (form 11).1 ++ numsW [a] := by
  unfold lineT wordsOf
  rw [glue_flat]
  simp [form, pw, Act.get, numsW]
theorem lineT_12 (a b n x y : Int) (ts : List Tear) : lineT ⟨12, a, b, n, x, y, ts⟩ = (form 12).1 ++ numsW [a] := by
  unfold lineT wordsOf
  rw [glue_flat]
  simp [form, pw, Act.get, numsW]
set_option maxHeartbeats 1600000 in
set_option maxRecDepth 100000 in
theorem line_1 (a b n x y : Int) (A : Option Addr) (c : Nat) (w : World) (za : In a) : Calls Tryd.prog 31 #[.agg #[.int .i64 1, .int .i64 a, .int .i64 b, .int .i64 n, .int .i64 x, .int .i64 y, .slice A 0 c]] w fun e w' => e = .returned (Sv (lineT ⟨1, a, b, n, x, y, []⟩)) ∧ Below w.heap.size w w' := by
  have HL := Aside0.mk (lineT_1 a b n x y [])
  have HIN : Aside0 (∀ m ∈ [a], In m) := ⟨by simp; exact za⟩
  have HNL : Aside0 ((numsW [a]).length ≤ 88) := ⟨by have := numsW_len HIN.out; simp at this; omega⟩
  go_enter Tryd.func31, Tryd.ntmps31
  go_upto_region 1 with (fail)
  obtain ⟨g1, hg1⟩ : ∃ g1, w.heap.size = g1 := ⟨_, rfl⟩
  rw [hg1]
  refine wp_world (fun W => Aside0 (B60 W g1 ⟨1, a, b, n, x, y, []⟩ (.slice A 0 c)) ∧ Aside0 (Below w.heap.size w W)) (by
    subst hg1
    exact ⟨⟨blk_new w _⟩, ⟨below_alloc (Below.refl _ _) _⟩⟩) ?_
  clear hg1
  rintro w1 ⟨HBA, HB⟩
  obtain ⟨s0, s1, s2, s3, s4, s5, s6⟩ := HBA.out.all
  simp only [] at s0 s1 s2 s3 s4 s5 s6
  go_upto_region 2 with (first | (go_at_call 56; (with_reducible refine (word_1 _).mono ?_); rintro e w2 ⟨rfl, hb⟩))
  refine wp_world (fun W => Aside0 (B60 W g1 ⟨1, a, b, n, x, y, []⟩ (.slice A 0 c)) ∧ Aside0 (Below w.heap.size w W)) (by
    exact ⟨⟨blk_below HBA.out hb⟩, ⟨below_step HB.out hb⟩⟩) ?_
  clear hb s0 s1 s2 s3 s4 s5 s6 HBA HB
  rintro w2 ⟨HBA, HB⟩
  obtain ⟨s0, s1, s2, s3, s4, s5, s6⟩ := HBA.out.all
  simp only [] at s0 s1 s2 s3 s4 s5 s6
  have hl1 : ¬ 9223372036854775807 < (form 1).1.length + (numsW [a]).length := by have := HNL.out; simp [form]; omega
  have HM : Aside0 (1 = [a].length) := ⟨rfl⟩
  have HCS : Aside0 ((#[.int .i64 a] : Array Value) = ([a].map (fun n => Value.int .i64 n)).toArray) := ⟨rfl⟩
  have HL4 : Aside0 ([a].length ≤ 4) := ⟨by simp⟩
  go_upto_region 14 with (first | (go_at_call 57; (with_reducible refine (nums_z _ _ _ [a] _ _ _ (blk_new _ _) HCS.out HIN.out HL4.out HM.out).mono ?_); rintro e w3 ⟨rfl, hb⟩))
  have HB3 := Aside0.mk (below_step (below_alloc HB.out _) hb)
  have HBA3 : Aside0 (B60 w3 g1 ⟨1, a, b, n, x, y, []⟩ (.slice A 0 c)) := ⟨blk_below (blk_alloc HBA.out _) hb⟩
  clear hb HBA HB hl1 s0 s1 s2 s3 s4 s5 s6
  have HPL : Aside0 (((form 1).1 ++ numsW [a]).length ≤ 100) := ⟨by have := HNL.out; rw [List.length_append]; simp [form]; omega⟩
  rw [cat_bytes]
  obtain ⟨p, hp⟩ : ∃ p, (form 1).1 ++ numsW [a] = p := ⟨_, rfl⟩
  rw [hp] at HL HPL
  rw [hp]
  clear hp
  go_wp2_with fail
  go_loopw [3, 4] (fun v3 v4 W => v3 = Sv p ∧ v4 = .int .i64 0 ∧ Aside0 (B60 W g1 ⟨1, a, b, n, x, y, []⟩ (.slice A 0 c)) ∧ Aside0 (Below w.heap.size w W)) (fun _ _ _ => 0)
  case atStart => exact ⟨rfl, rfl, HBA3, HB3⟩
  case round =>
    clear HBA3 HB3
    obtain ⟨rfl, rfl, HBA, HB⟩ := hrel
    have s6 := HBA.out.c6
    go_wp2
    go_ret
    exact ⟨by rw [HL.out]; rfl, HB.out⟩
set_option maxHeartbeats 1600000 in
set_option maxRecDepth 100000 in
theorem line_2 (a b n x y : Int) (ts : List Tear) (A : Option Addr) (c : Nat) (w : World) (za : In a) (zb : In b) (zx : In x) (zy : In y) : Calls Tryd.prog 31 #[.agg #[.int .i64 2, .int .i64 a, .int .i64 b, .int .i64 n, .int .i64 x, .int .i64 y, .slice A ts.length c]] w fun e w' => e = .returned (Sv (lineT ⟨2, a, b, n, x, y, ts⟩)) ∧ Below w.heap.size w w' := by
  have HL := Aside0.mk (lineT_2 a b n x y ts)
  have HIN : Aside0 (∀ m ∈ [a, b, x, y], In m) := ⟨by simp; exact ⟨za, zb, zx, zy⟩⟩
  have HNL : Aside0 ((numsW [a, b, x, y]).length ≤ 88) := ⟨by have := numsW_len HIN.out; simp at this; omega⟩
  go_enter Tryd.func31, Tryd.ntmps31
  go_upto_region 1 with (fail)
  obtain ⟨g1, hg1⟩ : ∃ g1, w.heap.size = g1 := ⟨_, rfl⟩
  rw [hg1]
  refine wp_world (fun W => Aside0 (B60 W g1 ⟨2, a, b, n, x, y, ts⟩ (.slice A ts.length c)) ∧ Aside0 (Below w.heap.size w W)) (by
    subst hg1
    exact ⟨⟨blk_new w _⟩, ⟨below_alloc (Below.refl _ _) _⟩⟩) ?_
  clear hg1
  rintro w1 ⟨HBA, HB⟩
  obtain ⟨s0, s1, s2, s3, s4, s5, s6⟩ := HBA.out.all
  simp only [] at s0 s1 s2 s3 s4 s5 s6
  go_upto_region 2 with (first | (go_at_call 56; (with_reducible refine (word_2 _).mono ?_); rintro e w2 ⟨rfl, hb⟩))
  refine wp_world (fun W => Aside0 (B60 W g1 ⟨2, a, b, n, x, y, ts⟩ (.slice A ts.length c)) ∧ Aside0 (Below w.heap.size w W)) (by
    exact ⟨⟨blk_below HBA.out hb⟩, ⟨below_step HB.out hb⟩⟩) ?_
  clear hb s0 s1 s2 s3 s4 s5 s6 HBA HB
  rintro w2 ⟨HBA, HB⟩
  obtain ⟨s0, s1, s2, s3, s4, s5, s6⟩ := HBA.out.all
  simp only [] at s0 s1 s2 s3 s4 s5 s6
  have hl1 : ¬ 9223372036854775807 < (form 2).1.length + (numsW [a, b, x, y]).length := by have := HNL.out; simp [form]; omega
  have HM : Aside0 (4 = [a, b, x, y].length) := ⟨rfl⟩
  have HCS : Aside0 ((#[.int .i64 a, .int .i64 b, .int .i64 x, .int .i64 y] : Array Value) = ([a, b, x, y].map (fun n => Value.int .i64 n)).toArray) := ⟨rfl⟩
  have HL4 : Aside0 ([a, b, x, y].length ≤ 4) := ⟨by simp⟩
  go_wp2_with (first | (go_at_call 57; (with_reducible refine (nums_z _ _ _ [a, b, x, y] _ _ _ (blk_new _ _) HCS.out HIN.out HL4.out HM.out).mono ?_); rintro e w3 ⟨rfl, hb⟩))
  have HB3 := Aside0.mk (below_step (below_alloc HB.out _) hb)
  clear hb
  go_ret
  exact ⟨by rw [HL.out]; exact congrArg (fun x => Ending.returned (Value.string x)) (cat_bytes _ _), HB3.out⟩
set_option maxHeartbeats 1600000 in
set_option maxRecDepth 100000 in
theorem line_3 (a b n x y : Int) (ts : List Tear) (A : Option Addr) (c : Nat) (w : World) (za : In a) (zb : In b) : Calls Tryd.prog 31 #[.agg #[.int .i64 3, .int .i64 a, .int .i64 b, .int .i64 n, .int .i64 x, .int .i64 y, .slice A ts.length c]] w fun e w' => e = .returned (Sv (lineT ⟨3, a, b, n, x, y, ts⟩)) ∧ Below w.heap.size w w' := by
  have HL := Aside0.mk (lineT_3 a b n x y ts)
  have HIN : Aside0 (∀ m ∈ [a, b], In m) := ⟨by simp; exact ⟨za, zb⟩⟩
  have HNL : Aside0 ((numsW [a, b]).length ≤ 88) := ⟨by have := numsW_len HIN.out; simp at this; omega⟩
  go_enter Tryd.func31, Tryd.ntmps31
  go_upto_region 1 with (fail)
  obtain ⟨g1, hg1⟩ : ∃ g1, w.heap.size = g1 := ⟨_, rfl⟩
  rw [hg1]
  refine wp_world (fun W => Aside0 (B60 W g1 ⟨3, a, b, n, x, y, ts⟩ (.slice A ts.length c)) ∧ Aside0 (Below w.heap.size w W)) (by
    subst hg1
    exact ⟨⟨blk_new w _⟩, ⟨below_alloc (Below.refl _ _) _⟩⟩) ?_
  clear hg1
  rintro w1 ⟨HBA, HB⟩
  obtain ⟨s0, s1, s2, s3, s4, s5, s6⟩ := HBA.out.all
  simp only [] at s0 s1 s2 s3 s4 s5 s6
  go_upto_region 2 with (first | (go_at_call 56; (with_reducible refine (word_3 _).mono ?_); rintro e w2 ⟨rfl, hb⟩))
  refine wp_world (fun W => Aside0 (B60 W g1 ⟨3, a, b, n, x, y, ts⟩ (.slice A ts.length c)) ∧ Aside0 (Below w.heap.size w W)) (by
    exact ⟨⟨blk_below HBA.out hb⟩, ⟨below_step HB.out hb⟩⟩) ?_
  clear hb s0 s1 s2 s3 s4 s5 s6 HBA HB
  rintro w2 ⟨HBA, HB⟩
  obtain ⟨s0, s1, s2, s3, s4, s5, s6⟩ := HBA.out.all
  simp only [] at s0 s1 s2 s3 s4 s5 s6
  have hl1 : ¬ 9223372036854775807 < (form 3).1.length + (numsW [a, b]).length := by have := HNL.out; simp [form]; omega
  have HM : Aside0 (2 = [a, b].length) := ⟨rfl⟩
  have HCS : Aside0 ((#[.int .i64 a, .int .i64 b] : Array Value) = ([a, b].map (fun n => Value.int .i64 n)).toArray) := ⟨rfl⟩
  have HL4 : Aside0 ([a, b].length ≤ 4) := ⟨by simp⟩
  go_wp2_with (first | (go_at_call 57; (with_reducible refine (nums_z _ _ _ [a, b] _ _ _ (blk_new _ _) HCS.out HIN.out HL4.out HM.out).mono ?_); rintro e w3 ⟨rfl, hb⟩))
  have HB3 := Aside0.mk (below_step (below_alloc HB.out _) hb)
  clear hb
  go_ret
  exact ⟨by rw [HL.out]; exact congrArg (fun x => Ending.returned (Value.string x)) (cat_bytes _ _), HB3.out⟩
set_option maxHeartbeats 1600000 in
set_option maxRecDepth 100000 in
theorem line_4 (a b n x y : Int) (A : Option Addr) (c : Nat) (w : World) (za : In a) : Calls Tryd.prog 31 #[.agg #[.int .i64 4, .int .i64 a, .int .i64 b, .int .i64 n, .int .i64 x, .int .i64 y, .slice A 0 c]] w fun e w' => e = .returned (Sv (lineT ⟨4, a, b, n, x, y, []⟩)) ∧ Below w.heap.size w w' := by
  have HL := Aside0.mk (lineT_4 a b n x y [])
  have HIN : Aside0 (∀ m ∈ [a], In m) := ⟨by simp; exact za⟩
  have HNL : Aside0 ((numsW [a]).length ≤ 88) := ⟨by have := numsW_len HIN.out; simp at this; omega⟩
  go_enter Tryd.func31, Tryd.ntmps31
  go_upto_region 1 with (fail)
  obtain ⟨g1, hg1⟩ : ∃ g1, w.heap.size = g1 := ⟨_, rfl⟩
  rw [hg1]
  refine wp_world (fun W => Aside0 (B60 W g1 ⟨4, a, b, n, x, y, []⟩ (.slice A 0 c)) ∧ Aside0 (Below w.heap.size w W)) (by
    subst hg1
    exact ⟨⟨blk_new w _⟩, ⟨below_alloc (Below.refl _ _) _⟩⟩) ?_
  clear hg1
  rintro w1 ⟨HBA, HB⟩
  obtain ⟨s0, s1, s2, s3, s4, s5, s6⟩ := HBA.out.all
  simp only [] at s0 s1 s2 s3 s4 s5 s6
  go_upto_region 2 with (first | (go_at_call 56; (with_reducible refine (word_4 _).mono ?_); rintro e w2 ⟨rfl, hb⟩))
  refine wp_world (fun W => Aside0 (B60 W g1 ⟨4, a, b, n, x, y, []⟩ (.slice A 0 c)) ∧ Aside0 (Below w.heap.size w W)) (by
    exact ⟨⟨blk_below HBA.out hb⟩, ⟨below_step HB.out hb⟩⟩) ?_
  clear hb s0 s1 s2 s3 s4 s5 s6 HBA HB
  rintro w2 ⟨HBA, HB⟩
  obtain ⟨s0, s1, s2, s3, s4, s5, s6⟩ := HBA.out.all
  simp only [] at s0 s1 s2 s3 s4 s5 s6
  have hl1 : ¬ 9223372036854775807 < (form 4).1.length + (numsW [a]).length := by have := HNL.out; simp [form]; omega
  have HM : Aside0 (1 = [a].length) := ⟨rfl⟩
  have HCS : Aside0 ((#[.int .i64 a] : Array Value) = ([a].map (fun n => Value.int .i64 n)).toArray) := ⟨rfl⟩
  have HL4 : Aside0 ([a].length ≤ 4) := ⟨by simp⟩
  go_upto_region 14 with (first | (go_at_call 57; (with_reducible refine (nums_z _ _ _ [a] _ _ _ (blk_new _ _) HCS.out HIN.out HL4.out HM.out).mono ?_); rintro e w3 ⟨rfl, hb⟩))
  have HB3 := Aside0.mk (below_step (below_alloc HB.out _) hb)
  have HBA3 : Aside0 (B60 w3 g1 ⟨4, a, b, n, x, y, []⟩ (.slice A 0 c)) := ⟨blk_below (blk_alloc HBA.out _) hb⟩
  clear hb HBA HB hl1 s0 s1 s2 s3 s4 s5 s6
  have HPL : Aside0 (((form 4).1 ++ numsW [a]).length ≤ 100) := ⟨by have := HNL.out; rw [List.length_append]; simp [form]; omega⟩
  rw [cat_bytes]
  obtain ⟨p, hp⟩ : ∃ p, (form 4).1 ++ numsW [a] = p := ⟨_, rfl⟩
  rw [hp] at HL HPL
  rw [hp]
  clear hp
  go_wp2_with fail
  go_loopw [3, 4] (fun v3 v4 W => v3 = Sv p ∧ v4 = .int .i64 0 ∧ Aside0 (B60 W g1 ⟨4, a, b, n, x, y, []⟩ (.slice A 0 c)) ∧ Aside0 (Below w.heap.size w W)) (fun _ _ _ => 0)
  case atStart => exact ⟨rfl, rfl, HBA3, HB3⟩
  case round =>
    clear HBA3 HB3
    obtain ⟨rfl, rfl, HBA, HB⟩ := hrel
    have s6 := HBA.out.c6
    go_wp2
    go_ret
    exact ⟨by rw [HL.out]; rfl, HB.out⟩
set_option maxHeartbeats 1600000 in
set_option maxRecDepth 100000 in
theorem line_5 (a b n x y : Int) (ts : List Tear) (A : Option Addr) (c : Nat) (w : World) (za : In a) (zb : In b) (zn : In n) : Calls Tryd.prog 31 #[.agg #[.int .i64 5, .int .i64 a, .int .i64 b, .int .i64 n, .int .i64 x, .int .i64 y, .slice A ts.length c]] w fun e w' => e = .returned (Sv (lineT ⟨5, a, b, n, x, y, ts⟩)) ∧ Below w.heap.size w w' := by
  have HL := Aside0.mk (lineT_5 a b n x y ts)
  have HIN : Aside0 (∀ m ∈ [a, b, n], In m) := ⟨by simp; exact ⟨za, zb, zn⟩⟩
  have HNL : Aside0 ((numsW [a, b, n]).length ≤ 88) := ⟨by have := numsW_len HIN.out; simp at this; omega⟩
  go_enter Tryd.func31, Tryd.ntmps31
  go_upto_region 1 with (fail)
  obtain ⟨g1, hg1⟩ : ∃ g1, w.heap.size = g1 := ⟨_, rfl⟩
  rw [hg1]
  refine wp_world (fun W => Aside0 (B60 W g1 ⟨5, a, b, n, x, y, ts⟩ (.slice A ts.length c)) ∧ Aside0 (Below w.heap.size w W)) (by
    subst hg1
    exact ⟨⟨blk_new w _⟩, ⟨below_alloc (Below.refl _ _) _⟩⟩) ?_
  clear hg1
  rintro w1 ⟨HBA, HB⟩
  obtain ⟨s0, s1, s2, s3, s4, s5, s6⟩ := HBA.out.all
  simp only [] at s0 s1 s2 s3 s4 s5 s6
  go_upto_region 2 with (first | (go_at_call 56; (with_reducible refine (word_5 _).mono ?_); rintro e w2 ⟨rfl, hb⟩))
  refine wp_world (fun W => Aside0 (B60 W g1 ⟨5, a, b, n, x, y, ts⟩ (.slice A ts.length c)) ∧ Aside0 (Below w.heap.size w W)) (by
    exact ⟨⟨blk_below HBA.out hb⟩, ⟨below_step HB.out hb⟩⟩) ?_
  clear hb s0 s1 s2 s3 s4 s5 s6 HBA HB
  rintro w2 ⟨HBA, HB⟩
  obtain ⟨s0, s1, s2, s3, s4, s5, s6⟩ := HBA.out.all
  simp only [] at s0 s1 s2 s3 s4 s5 s6
  have hl1 : ¬ 9223372036854775807 < (form 5).1.length + (numsW [a, b, n]).length := by have := HNL.out; simp [form]; omega
  have HM : Aside0 (3 = [a, b, n].length) := ⟨rfl⟩
  have HCS : Aside0 ((#[.int .i64 a, .int .i64 b, .int .i64 n] : Array Value) = ([a, b, n].map (fun n => Value.int .i64 n)).toArray) := ⟨rfl⟩
  have HL4 : Aside0 ([a, b, n].length ≤ 4) := ⟨by simp⟩
  go_wp2_with (first | (go_at_call 57; (with_reducible refine (nums_z _ _ _ [a, b, n] _ _ _ (blk_new _ _) HCS.out HIN.out HL4.out HM.out).mono ?_); rintro e w3 ⟨rfl, hb⟩))
  have HB3 := Aside0.mk (below_step (below_alloc HB.out _) hb)
  clear hb
  go_ret
  exact ⟨by rw [HL.out]; exact congrArg (fun x => Ending.returned (Value.string x)) (cat_bytes _ _), HB3.out⟩
set_option maxHeartbeats 1600000 in
set_option maxRecDepth 100000 in
theorem line_6 (a b n x y : Int) (ts : List Tear) (A : Option Addr) (c : Nat) (w : World) (za : In a) (zb : In b) (zn : In n) : Calls Tryd.prog 31 #[.agg #[.int .i64 6, .int .i64 a, .int .i64 b, .int .i64 n, .int .i64 x, .int .i64 y, .slice A ts.length c]] w fun e w' => e = .returned (Sv (lineT ⟨6, a, b, n, x, y, ts⟩)) ∧ Below w.heap.size w w' := by
  have HL := Aside0.mk (lineT_6 a b n x y ts)
  have HIN : Aside0 (∀ m ∈ [a, b, n], In m) := ⟨by simp; exact ⟨za, zb, zn⟩⟩
  have HNL : Aside0 ((numsW [a, b, n]).length ≤ 88) := ⟨by have := numsW_len HIN.out; simp at this; omega⟩
  go_enter Tryd.func31, Tryd.ntmps31
  go_upto_region 1 with (fail)
  obtain ⟨g1, hg1⟩ : ∃ g1, w.heap.size = g1 := ⟨_, rfl⟩
  rw [hg1]
  refine wp_world (fun W => Aside0 (B60 W g1 ⟨6, a, b, n, x, y, ts⟩ (.slice A ts.length c)) ∧ Aside0 (Below w.heap.size w W)) (by
    subst hg1
    exact ⟨⟨blk_new w _⟩, ⟨below_alloc (Below.refl _ _) _⟩⟩) ?_
  clear hg1
  rintro w1 ⟨HBA, HB⟩
  obtain ⟨s0, s1, s2, s3, s4, s5, s6⟩ := HBA.out.all
  simp only [] at s0 s1 s2 s3 s4 s5 s6
  go_upto_region 2 with (first | (go_at_call 56; (with_reducible refine (word_6 _).mono ?_); rintro e w2 ⟨rfl, hb⟩))
  refine wp_world (fun W => Aside0 (B60 W g1 ⟨6, a, b, n, x, y, ts⟩ (.slice A ts.length c)) ∧ Aside0 (Below w.heap.size w W)) (by
    exact ⟨⟨blk_below HBA.out hb⟩, ⟨below_step HB.out hb⟩⟩) ?_
  clear hb s0 s1 s2 s3 s4 s5 s6 HBA HB
  rintro w2 ⟨HBA, HB⟩
  obtain ⟨s0, s1, s2, s3, s4, s5, s6⟩ := HBA.out.all
  simp only [] at s0 s1 s2 s3 s4 s5 s6
  have hl1 : ¬ 9223372036854775807 < (form 6).1.length + (numsW [a, b, n]).length := by have := HNL.out; simp [form]; omega
  have HM : Aside0 (3 = [a, b, n].length) := ⟨rfl⟩
  have HCS : Aside0 ((#[.int .i64 a, .int .i64 b, .int .i64 n] : Array Value) = ([a, b, n].map (fun n => Value.int .i64 n)).toArray) := ⟨rfl⟩
  have HL4 : Aside0 ([a, b, n].length ≤ 4) := ⟨by simp⟩
  go_wp2_with (first | (go_at_call 57; (with_reducible refine (nums_z _ _ _ [a, b, n] _ _ _ (blk_new _ _) HCS.out HIN.out HL4.out HM.out).mono ?_); rintro e w3 ⟨rfl, hb⟩))
  have HB3 := Aside0.mk (below_step (below_alloc HB.out _) hb)
  clear hb
  go_ret
  exact ⟨by rw [HL.out]; exact congrArg (fun x => Ending.returned (Value.string x)) (cat_bytes _ _), HB3.out⟩
set_option maxHeartbeats 1600000 in
set_option maxRecDepth 100000 in
theorem line_7 (a b n x y : Int) (ts : List Tear) (A : Option Addr) (c : Nat) (w : World) (za : In a) (zb : In b) (zn : In n) : Calls Tryd.prog 31 #[.agg #[.int .i64 7, .int .i64 a, .int .i64 b, .int .i64 n, .int .i64 x, .int .i64 y, .slice A ts.length c]] w fun e w' => e = .returned (Sv (lineT ⟨7, a, b, n, x, y, ts⟩)) ∧ Below w.heap.size w w' := by
  have HL := Aside0.mk (lineT_7 a b n x y ts)
  have HIN : Aside0 (∀ m ∈ [a, b, n], In m) := ⟨by simp; exact ⟨za, zb, zn⟩⟩
  have HNL : Aside0 ((numsW [a, b, n]).length ≤ 88) := ⟨by have := numsW_len HIN.out; simp at this; omega⟩
  go_enter Tryd.func31, Tryd.ntmps31
  go_upto_region 1 with (fail)
  obtain ⟨g1, hg1⟩ : ∃ g1, w.heap.size = g1 := ⟨_, rfl⟩
  rw [hg1]
  refine wp_world (fun W => Aside0 (B60 W g1 ⟨7, a, b, n, x, y, ts⟩ (.slice A ts.length c)) ∧ Aside0 (Below w.heap.size w W)) (by
    subst hg1
    exact ⟨⟨blk_new w _⟩, ⟨below_alloc (Below.refl _ _) _⟩⟩) ?_
  clear hg1
  rintro w1 ⟨HBA, HB⟩
  obtain ⟨s0, s1, s2, s3, s4, s5, s6⟩ := HBA.out.all
  simp only [] at s0 s1 s2 s3 s4 s5 s6
  go_upto_region 2 with (first | (go_at_call 56; (with_reducible refine (word_7 _).mono ?_); rintro e w2 ⟨rfl, hb⟩))
  refine wp_world (fun W => Aside0 (B60 W g1 ⟨7, a, b, n, x, y, ts⟩ (.slice A ts.length c)) ∧ Aside0 (Below w.heap.size w W)) (by
    exact ⟨⟨blk_below HBA.out hb⟩, ⟨below_step HB.out hb⟩⟩) ?_
  clear hb s0 s1 s2 s3 s4 s5 s6 HBA HB
  rintro w2 ⟨HBA, HB⟩
  obtain ⟨s0, s1, s2, s3, s4, s5, s6⟩ := HBA.out.all
  simp only [] at s0 s1 s2 s3 s4 s5 s6
  have hl1 : ¬ 9223372036854775807 < (form 7).1.length + (numsW [a, b, n]).length := by have := HNL.out; simp [form]; omega
  have HM : Aside0 (3 = [a, b, n].length) := ⟨rfl⟩
  have HCS : Aside0 ((#[.int .i64 a, .int .i64 b, .int .i64 n] : Array Value) = ([a, b, n].map (fun n => Value.int .i64 n)).toArray) := ⟨rfl⟩
  have HL4 : Aside0 ([a, b, n].length ≤ 4) := ⟨by simp⟩
  go_wp2_with (first | (go_at_call 57; (with_reducible refine (nums_z _ _ _ [a, b, n] _ _ _ (blk_new _ _) HCS.out HIN.out HL4.out HM.out).mono ?_); rintro e w3 ⟨rfl, hb⟩))
  have HB3 := Aside0.mk (below_step (below_alloc HB.out _) hb)
  clear hb
  go_ret
  exact ⟨by rw [HL.out]; exact congrArg (fun x => Ending.returned (Value.string x)) (cat_bytes _ _), HB3.out⟩
set_option maxHeartbeats 1600000 in
set_option maxRecDepth 100000 in
theorem line_8 (a b n x y : Int) (ts : List Tear) (A : Option Addr) (c : Nat) (w : World) (za : In a) (zn : In n) : Calls Tryd.prog 31 #[.agg #[.int .i64 8, .int .i64 a, .int .i64 b, .int .i64 n, .int .i64 x, .int .i64 y, .slice A ts.length c]] w fun e w' => e = .returned (Sv (lineT ⟨8, a, b, n, x, y, ts⟩)) ∧ Below w.heap.size w w' := by
  have HL := Aside0.mk (lineT_8 a b n x y ts)
  have HIN : Aside0 (∀ m ∈ [a, n], In m) := ⟨by simp; exact ⟨za, zn⟩⟩
  have HNL : Aside0 ((numsW [a, n]).length ≤ 88) := ⟨by have := numsW_len HIN.out; simp at this; omega⟩
  go_enter Tryd.func31, Tryd.ntmps31
  go_upto_region 1 with (fail)
  obtain ⟨g1, hg1⟩ : ∃ g1, w.heap.size = g1 := ⟨_, rfl⟩
  rw [hg1]
  refine wp_world (fun W => Aside0 (B60 W g1 ⟨8, a, b, n, x, y, ts⟩ (.slice A ts.length c)) ∧ Aside0 (Below w.heap.size w W)) (by
    subst hg1
    exact ⟨⟨blk_new w _⟩, ⟨below_alloc (Below.refl _ _) _⟩⟩) ?_
  clear hg1
  rintro w1 ⟨HBA, HB⟩
  obtain ⟨s0, s1, s2, s3, s4, s5, s6⟩ := HBA.out.all
  simp only [] at s0 s1 s2 s3 s4 s5 s6
  go_upto_region 2 with (first | (go_at_call 56; (with_reducible refine (word_8 _).mono ?_); rintro e w2 ⟨rfl, hb⟩))
  refine wp_world (fun W => Aside0 (B60 W g1 ⟨8, a, b, n, x, y, ts⟩ (.slice A ts.length c)) ∧ Aside0 (Below w.heap.size w W)) (by
    exact ⟨⟨blk_below HBA.out hb⟩, ⟨below_step HB.out hb⟩⟩) ?_
  clear hb s0 s1 s2 s3 s4 s5 s6 HBA HB
  rintro w2 ⟨HBA, HB⟩
  obtain ⟨s0, s1, s2, s3, s4, s5, s6⟩ := HBA.out.all
  simp only [] at s0 s1 s2 s3 s4 s5 s6
  have hl1 : ¬ 9223372036854775807 < (form 8).1.length + (numsW [a, n]).length := by have := HNL.out; simp [form]; omega
  have HM : Aside0 (2 = [a, n].length) := ⟨rfl⟩
  have HCS : Aside0 ((#[.int .i64 a, .int .i64 n] : Array Value) = ([a, n].map (fun n => Value.int .i64 n)).toArray) := ⟨rfl⟩
  have HL4 : Aside0 ([a, n].length ≤ 4) := ⟨by simp⟩
  go_wp2_with (first | (go_at_call 57; (with_reducible refine (nums_z _ _ _ [a, n] _ _ _ (blk_new _ _) HCS.out HIN.out HL4.out HM.out).mono ?_); rintro e w3 ⟨rfl, hb⟩))
  have HB3 := Aside0.mk (below_step (below_alloc HB.out _) hb)
  clear hb
  go_ret
  exact ⟨by rw [HL.out]; exact congrArg (fun x => Ending.returned (Value.string x)) (cat_bytes _ _), HB3.out⟩
set_option maxHeartbeats 1600000 in
set_option maxRecDepth 100000 in
theorem line_9 (a b n x y : Int) (ts : List Tear) (A : Option Addr) (c : Nat) (w : World) (za : In a) (htk : TK w (.slice A ts.length c) ts) (hto : ∀ t ∈ ts, TearOk t) (hln : ts.length ≤ 8) : Calls Tryd.prog 31 #[.agg #[.int .i64 9, .int .i64 a, .int .i64 b, .int .i64 n, .int .i64 x, .int .i64 y, .slice A ts.length c]] w fun e w' => e = .returned (Sv (lineT ⟨9, a, b, n, x, y, ts⟩)) ∧ Below w.heap.size w w' := by
  have HL := Aside0.mk (lineT_9 a b n x y ts)
  have HIN : Aside0 (∀ m ∈ [a], In m) := ⟨by simp; exact za⟩
  have HNL : Aside0 ((numsW [a]).length ≤ 88) := ⟨by have := numsW_len HIN.out; simp at this; omega⟩
  have HTK := Aside0.mk htk
  have HTO := Aside0.mk hto
  have HLN := Aside0.mk hln
  clear htk hto hln
  go_enter Tryd.func31, Tryd.ntmps31
  go_upto_region 1 with (fail)
  obtain ⟨g1, hg1⟩ : ∃ g1, w.heap.size = g1 := ⟨_, rfl⟩
  rw [hg1]
  refine wp_world (fun W => Aside0 (O1 w g1 ⟨9, a, b, n, x, y, ts⟩ (.slice A ts.length c) W) ∧ Aside0 (Below w.heap.size w W)) (by
    subst hg1
    exact ⟨⟨⟨blk_new w _, HTK.out.below (below_alloc (Below.refl _ _) _), below_alloc (Below.refl _ _) _⟩⟩, ⟨below_alloc (Below.refl _ _) _⟩⟩) ?_
  clear hg1
  rintro w1 ⟨HBA, HB⟩
  obtain ⟨s0, s1, s2, s3, s4, s5, s6⟩ := HBA.out.c1.all
  simp only [] at s0 s1 s2 s3 s4 s5 s6
  go_upto_region 2 with (first | (go_at_call 56; (with_reducible refine (word_9 _).mono ?_); rintro e w2 ⟨rfl, hb⟩))
  refine wp_world (fun W => Aside0 (O1 w g1 ⟨9, a, b, n, x, y, ts⟩ (.slice A ts.length c) W) ∧ Aside0 (Below w.heap.size w W)) (by
    exact ⟨⟨HBA.out.below hb⟩, ⟨below_step HB.out hb⟩⟩) ?_
  clear hb s0 s1 s2 s3 s4 s5 s6 HBA HB
  rintro w2 ⟨HBA, HB⟩
  obtain ⟨s0, s1, s2, s3, s4, s5, s6⟩ := HBA.out.c1.all
  simp only [] at s0 s1 s2 s3 s4 s5 s6
  have hl1 : ¬ 9223372036854775807 < (form 9).1.length + (numsW [a]).length := by have := HNL.out; simp [form]; omega
  have HM : Aside0 (1 = [a].length) := ⟨rfl⟩
  have HCS : Aside0 ((#[.int .i64 a] : Array Value) = ([a].map (fun n => Value.int .i64 n)).toArray) := ⟨rfl⟩
  have HL4 : Aside0 ([a].length ≤ 4) := ⟨by simp⟩
  go_upto_region 14 with (first | (go_at_call 57; (with_reducible refine (nums_z _ _ _ [a] _ _ _ (blk_new _ _) HCS.out HIN.out HL4.out HM.out).mono ?_); rintro e w3 ⟨rfl, hb⟩))
  have HB3 := Aside0.mk (below_step (below_alloc HB.out _) hb)
  have HBA3 : Aside0 (O1 w g1 ⟨9, a, b, n, x, y, ts⟩ (.slice A ts.length c) w3) := ⟨(HBA.out.below (below_alloc (Below.refl _ _) _)).below hb⟩
  clear hb HBA HB hl1 s0 s1 s2 s3 s4 s5 s6
  have HPL : Aside0 (((form 9).1 ++ numsW [a]).length ≤ 100) := ⟨by have := HNL.out; rw [List.length_append]; simp [form]; omega⟩
  rw [cat_bytes]
  obtain ⟨p, hp⟩ : ∃ p, (form 9).1 ++ numsW [a] = p := ⟨_, rfl⟩
  rw [hp] at HL HPL
  rw [hp]
  clear hp
  go_wp2_with fail
  go_loopw [3, 4] (fun v3 v4 W => ∃ j : Nat, j ≤ ts.length ∧ v3 = Sv (p ++ tearsW (ts.take j)) ∧ v4 = .int .i64 j ∧ Aside0 (O1 w g1 ⟨9, a, b, n, x, y, ts⟩ (.slice A ts.length c) W)) (fun _ v4 _ => ts.length - (intOf v4).toNat)
  case atStart => exact ⟨0, Nat.zero_le _, by simp [tearsW], rfl, HBA3⟩
  case round =>
    clear HBA3 HB3
    obtain ⟨j, hj, rfl, rfl, HO⟩ := hrel
    have hln := HLN.out
    have c0 := HO.out.c1.all.1
    have c6 := HO.out.c1.c6
    simp only [] at c0 c6
    by_cases hlt : j < ts.length
    · have d0 : decide ((j : Int) < (ts.length : Int)) = true := decide_eq_true (by omega)
      obtain ⟨ad, c2, t, bv, e1, _, ht, cx, cy, hbk⟩ := HO.out.t1.at hlt
      injection e1 with e1 _ e3
      subst e1 e3
      have HBK := Aside0.mk hbk
      have hk1 : (j : Int) < (ts.length : Int) := by omega
      have hk3 : (j : Int) ≤ 8 := by omega
      have HTX := Aside0.mk (tearsW_take ht)
      have HOK : Aside0 (TearOk t) := ⟨HTO.out t (List.mem_of_getElem? ht)⟩
      have HTL := Aside0.mk (tearW_len HOK.out)
      obtain ⟨q, hq⟩ : ∃ q, p ++ tearsW (ts.take j) = q := ⟨_, rfl⟩
      have HQL : Aside0 (q.length ≤ 1000) := ⟨by
        have h1 := tearsW_len (ts := ts.take j) (fun m hm => HTO.out m (List.mem_of_mem_take hm))
        rw [List.length_take] at h1
        have h2 := HPL.out
        rw [← hq, List.length_append]
        omega⟩
      have HQ : Aside0 (p ++ tearsW (ts.take (j + 1)) = (q ++ [32]) ++ tearW t) := ⟨by rw [HTX.out, ← hq]; simp⟩
      rw [hq]
      clear ht hbk hq hln
      rw [← add_off] at cy
      obtain ⟨tk, tb⟩ := t
      simp only [] at cx cy
      have HCY := Aside0.mk cy
      rcases HOK.out with ⟨h1, h2⟩ | ⟨h1, h2⟩ | ⟨h1, _, h3⟩
      · simp only [] at h1 h2
        subst h1 h2
        have hl2 : ¬ 9223372036854775807 < q.length + 5 := by have := HQL.out; omega
        have HE : Aside0 (tearW ⟨0, []⟩ = [108, 111, 115, 116]) := ⟨rfl⟩
        clear cy
        go_wp2
        go_roundw
        case rel => exact ⟨j + 1, by omega, by rw [HQ.out, HE.out]; show Value.string (⟨q.toArray⟩ ++ ⟨[32, 108, 111, 115, 116].toArray⟩) = Value.string ⟨((q ++ [32]) ++ [108, 111, 115, 116]).toArray⟩; rw [cat_bytes]; simp, by go_num, HO⟩
        case measure => simp [intOf]; omega
      · simp only [] at h1 h2
        subst h1 h2
        have hl2 : ¬ 9223372036854775807 < q.length + 5 := by have := HQL.out; omega
        have HE : Aside0 (tearW ⟨1, []⟩ = [107, 101, 112, 116]) := ⟨rfl⟩
        clear cy
        go_wp2
        go_roundw
        case rel => exact ⟨j + 1, by omega, by rw [HQ.out, HE.out]; show Value.string (⟨q.toArray⟩ ++ ⟨[32, 107, 101, 112, 116].toArray⟩) = Value.string ⟨((q ++ [32]) ++ [107, 101, 112, 116]).toArray⟩; rw [cat_bytes]; simp, by go_num, HO⟩
        case measure => simp [intOf]; omega
      · simp only [] at h1 h3
        subst h1
        have HTB : Aside0 (tb.length ≤ 100000) := ⟨by omega⟩
        have HE : Aside0 (tearW ⟨2, tb⟩ = 61 :: hexs tb) := ⟨rfl⟩
        have HHL : Aside0 ((61 :: hexs tb).length ≤ 81) := ⟨HTL.out⟩
        have hl2 : ¬ 9223372036854775807 < q.length + 1 := by have := HQL.out; omega
        obtain ⟨z, hz⟩ : ∃ z, 61 :: hexs tb = z := ⟨_, rfl⟩
        rw [hz] at HE HHL
        have HZ := Aside0.mk hz
        have hl3 : ¬ 9223372036854775807 < q.length + 1 + z.length := by have := HQL.out; have := HHL.out; omega
        clear h3 hz
        go_wp2_with (first | (go_at_call 58; (with_reducible refine (hex_calls bv tb _ HBK.out HTB.out).mono ?_); rw [HZ.out]; rintro e w4 ⟨rfl, hb⟩; have HO4 := Aside0.mk (HO.out.below hb); clear hb c0 c6 cx cy; go_wp2_with fail))
        go_roundw
        case rel => exact ⟨j + 1, by omega, by rw [HQ.out, HE.out]; show Value.string _ = Value.string ⟨((q ++ [32]) ++ z).toArray⟩; rw [← cat_bytes, ← cat_bytes], by go_num, HO4⟩
        case measure => simp [intOf]; omega
    · obtain rfl : j = ts.length := by omega
      have d0 : decide ((ts.length : Int) < (ts.length : Int)) = false := decide_eq_false (by omega)
      have HE : Aside0 (ts.take ts.length = ts) := ⟨List.take_of_length_le (Nat.le_refl _)⟩
      go_wp2
      go_ret
      exact ⟨by rw [HL.out, HE.out]; rfl, HO.out.bl⟩
set_option maxHeartbeats 1600000 in
set_option maxRecDepth 100000 in
theorem line_10 (a b n x y : Int) (A : Option Addr) (c : Nat) (w : World) (za : In a) : Calls Tryd.prog 31 #[.agg #[.int .i64 10, .int .i64 a, .int .i64 b, .int .i64 n, .int .i64 x, .int .i64 y, .slice A 0 c]] w fun e w' => e = .returned (Sv (lineT ⟨10, a, b, n, x, y, []⟩)) ∧ Below w.heap.size w w' := by
  have HL := Aside0.mk (lineT_10 a b n x y [])
  have HIN : Aside0 (∀ m ∈ [a], In m) := ⟨by simp; exact za⟩
  have HNL : Aside0 ((numsW [a]).length ≤ 88) := ⟨by have := numsW_len HIN.out; simp at this; omega⟩
  go_enter Tryd.func31, Tryd.ntmps31
  go_upto_region 1 with (fail)
  obtain ⟨g1, hg1⟩ : ∃ g1, w.heap.size = g1 := ⟨_, rfl⟩
  rw [hg1]
  refine wp_world (fun W => Aside0 (B60 W g1 ⟨10, a, b, n, x, y, []⟩ (.slice A 0 c)) ∧ Aside0 (Below w.heap.size w W)) (by
    subst hg1
    exact ⟨⟨blk_new w _⟩, ⟨below_alloc (Below.refl _ _) _⟩⟩) ?_
  clear hg1
  rintro w1 ⟨HBA, HB⟩
  obtain ⟨s0, s1, s2, s3, s4, s5, s6⟩ := HBA.out.all
  simp only [] at s0 s1 s2 s3 s4 s5 s6
  go_upto_region 2 with (first | (go_at_call 56; (with_reducible refine (word_10 _).mono ?_); rintro e w2 ⟨rfl, hb⟩))
  refine wp_world (fun W => Aside0 (B60 W g1 ⟨10, a, b, n, x, y, []⟩ (.slice A 0 c)) ∧ Aside0 (Below w.heap.size w W)) (by
    exact ⟨⟨blk_below HBA.out hb⟩, ⟨below_step HB.out hb⟩⟩) ?_
  clear hb s0 s1 s2 s3 s4 s5 s6 HBA HB
  rintro w2 ⟨HBA, HB⟩
  obtain ⟨s0, s1, s2, s3, s4, s5, s6⟩ := HBA.out.all
  simp only [] at s0 s1 s2 s3 s4 s5 s6
  have hl1 : ¬ 9223372036854775807 < (form 10).1.length + (numsW [a]).length := by have := HNL.out; simp [form]; omega
  have HM : Aside0 (1 = [a].length) := ⟨rfl⟩
  have HCS : Aside0 ((#[.int .i64 a] : Array Value) = ([a].map (fun n => Value.int .i64 n)).toArray) := ⟨rfl⟩
  have HL4 : Aside0 ([a].length ≤ 4) := ⟨by simp⟩
  go_upto_region 14 with (first | (go_at_call 57; (with_reducible refine (nums_z _ _ _ [a] _ _ _ (blk_new _ _) HCS.out HIN.out HL4.out HM.out).mono ?_); rintro e w3 ⟨rfl, hb⟩))
  have HB3 := Aside0.mk (below_step (below_alloc HB.out _) hb)
  have HBA3 : Aside0 (B60 w3 g1 ⟨10, a, b, n, x, y, []⟩ (.slice A 0 c)) := ⟨blk_below (blk_alloc HBA.out _) hb⟩
  clear hb HBA HB hl1 s0 s1 s2 s3 s4 s5 s6
  have HPL : Aside0 (((form 10).1 ++ numsW [a]).length ≤ 100) := ⟨by have := HNL.out; rw [List.length_append]; simp [form]; omega⟩
  rw [cat_bytes]
  obtain ⟨p, hp⟩ : ∃ p, (form 10).1 ++ numsW [a] = p := ⟨_, rfl⟩
  rw [hp] at HL HPL
  rw [hp]
  clear hp
  go_wp2_with fail
  go_loopw [3, 4] (fun v3 v4 W => v3 = Sv p ∧ v4 = .int .i64 0 ∧ Aside0 (B60 W g1 ⟨10, a, b, n, x, y, []⟩ (.slice A 0 c)) ∧ Aside0 (Below w.heap.size w W)) (fun _ _ _ => 0)
  case atStart => exact ⟨rfl, rfl, HBA3, HB3⟩
  case round =>
    clear HBA3 HB3
    obtain ⟨rfl, rfl, HBA, HB⟩ := hrel
    have s6 := HBA.out.c6
    go_wp2
    go_ret
    exact ⟨by rw [HL.out]; rfl, HB.out⟩
set_option maxHeartbeats 1600000 in
set_option maxRecDepth 100000 in
theorem line_11 (a b n x y : Int) (A : Option Addr) (c : Nat) (w : World) (za : In a) : Calls Tryd.prog 31 #[.agg #[.int .i64 11, .int .i64 a, .int .i64 b, .int .i64 n, .int .i64 x, .int .i64 y, .slice A 0 c]] w fun e w' => e = .returned (Sv (lineT ⟨11, a, b, n, x, y, []⟩)) ∧ Below w.heap.size w w' := by
  have HL := Aside0.mk (lineT_11 a b n x y [])
  have HIN : Aside0 (∀ m ∈ [a], In m) := ⟨by simp; exact za⟩
  have HNL : Aside0 ((numsW [a]).length ≤ 88) := ⟨by have := numsW_len HIN.out; simp at this; omega⟩
  go_enter Tryd.func31, Tryd.ntmps31
  go_upto_region 1 with (fail)
  obtain ⟨g1, hg1⟩ : ∃ g1, w.heap.size = g1 := ⟨_, rfl⟩
  rw [hg1]
  refine wp_world (fun W => Aside0 (B60 W g1 ⟨11, a, b, n, x, y, []⟩ (.slice A 0 c)) ∧ Aside0 (Below w.heap.size w W)) (by
    subst hg1
    exact ⟨⟨blk_new w _⟩, ⟨below_alloc (Below.refl _ _) _⟩⟩) ?_
  clear hg1
  rintro w1 ⟨HBA, HB⟩
  obtain ⟨s0, s1, s2, s3, s4, s5, s6⟩ := HBA.out.all
  simp only [] at s0 s1 s2 s3 s4 s5 s6
  go_upto_region 2 with (first | (go_at_call 56; (with_reducible refine (word_11 _).mono ?_); rintro e w2 ⟨rfl, hb⟩))
  refine wp_world (fun W => Aside0 (B60 W g1 ⟨11, a, b, n, x, y, []⟩ (.slice A 0 c)) ∧ Aside0 (Below w.heap.size w W)) (by
    exact ⟨⟨blk_below HBA.out hb⟩, ⟨below_step HB.out hb⟩⟩) ?_
  clear hb s0 s1 s2 s3 s4 s5 s6 HBA HB
  rintro w2 ⟨HBA, HB⟩
  obtain ⟨s0, s1, s2, s3, s4, s5, s6⟩ := HBA.out.all
  simp only [] at s0 s1 s2 s3 s4 s5 s6
  have hl1 : ¬ 9223372036854775807 < (form 11).1.length + (numsW [a]).length := by have := HNL.out; simp [form]; omega
  have HM : Aside0 (1 = [a].length) := ⟨rfl⟩
  have HCS : Aside0 ((#[.int .i64 a] : Array Value) = ([a].map (fun n => Value.int .i64 n)).toArray) := ⟨rfl⟩
  have HL4 : Aside0 ([a].length ≤ 4) := ⟨by simp⟩
  go_upto_region 14 with (first | (go_at_call 57; (with_reducible refine (nums_z _ _ _ [a] _ _ _ (blk_new _ _) HCS.out HIN.out HL4.out HM.out).mono ?_); rintro e w3 ⟨rfl, hb⟩))
  have HB3 := Aside0.mk (below_step (below_alloc HB.out _) hb)
  have HBA3 : Aside0 (B60 w3 g1 ⟨11, a, b, n, x, y, []⟩ (.slice A 0 c)) := ⟨blk_below (blk_alloc HBA.out _) hb⟩
  clear hb HBA HB hl1 s0 s1 s2 s3 s4 s5 s6
  have HPL : Aside0 (((form 11).1 ++ numsW [a]).length ≤ 100) := ⟨by have := HNL.out; rw [List.length_append]; simp [form]; omega⟩
  rw [cat_bytes]
  obtain ⟨p, hp⟩ : ∃ p, (form 11).1 ++ numsW [a] = p := ⟨_, rfl⟩
  rw [hp] at HL HPL
  rw [hp]
  clear hp
  go_wp2_with fail
  go_loopw [3, 4] (fun v3 v4 W => v3 = Sv p ∧ v4 = .int .i64 0 ∧ Aside0 (B60 W g1 ⟨11, a, b, n, x, y, []⟩ (.slice A 0 c)) ∧ Aside0 (Below w.heap.size w W)) (fun _ _ _ => 0)
  case atStart => exact ⟨rfl, rfl, HBA3, HB3⟩
  case round =>
    clear HBA3 HB3
    obtain ⟨rfl, rfl, HBA, HB⟩ := hrel
    have s6 := HBA.out.c6
    go_wp2
    go_ret
    exact ⟨by rw [HL.out]; rfl, HB.out⟩
set_option maxHeartbeats 1600000 in
set_option maxRecDepth 100000 in
theorem line_12 (a b n x y : Int) (A : Option Addr) (c : Nat) (w : World) (za : In a) : Calls Tryd.prog 31 #[.agg #[.int .i64 12, .int .i64 a, .int .i64 b, .int .i64 n, .int .i64 x, .int .i64 y, .slice A 0 c]] w fun e w' => e = .returned (Sv (lineT ⟨12, a, b, n, x, y, []⟩)) ∧ Below w.heap.size w w' := by
  have HL := Aside0.mk (lineT_12 a b n x y [])
  have HIN : Aside0 (∀ m ∈ [a], In m) := ⟨by simp; exact za⟩
  have HNL : Aside0 ((numsW [a]).length ≤ 88) := ⟨by have := numsW_len HIN.out; simp at this; omega⟩
  go_enter Tryd.func31, Tryd.ntmps31
  go_upto_region 1 with (fail)
  obtain ⟨g1, hg1⟩ : ∃ g1, w.heap.size = g1 := ⟨_, rfl⟩
  rw [hg1]
  refine wp_world (fun W => Aside0 (B60 W g1 ⟨12, a, b, n, x, y, []⟩ (.slice A 0 c)) ∧ Aside0 (Below w.heap.size w W)) (by
    subst hg1
    exact ⟨⟨blk_new w _⟩, ⟨below_alloc (Below.refl _ _) _⟩⟩) ?_
  clear hg1
  rintro w1 ⟨HBA, HB⟩
  obtain ⟨s0, s1, s2, s3, s4, s5, s6⟩ := HBA.out.all
  simp only [] at s0 s1 s2 s3 s4 s5 s6
  go_upto_region 2 with (first | (go_at_call 56; (with_reducible refine (word_12 _).mono ?_); rintro e w2 ⟨rfl, hb⟩))
  refine wp_world (fun W => Aside0 (B60 W g1 ⟨12, a, b, n, x, y, []⟩ (.slice A 0 c)) ∧ Aside0 (Below w.heap.size w W)) (by
    exact ⟨⟨blk_below HBA.out hb⟩, ⟨below_step HB.out hb⟩⟩) ?_
  clear hb s0 s1 s2 s3 s4 s5 s6 HBA HB
  rintro w2 ⟨HBA, HB⟩
  obtain ⟨s0, s1, s2, s3, s4, s5, s6⟩ := HBA.out.all
  simp only [] at s0 s1 s2 s3 s4 s5 s6
  have hl1 : ¬ 9223372036854775807 < (form 12).1.length + (numsW [a]).length := by have := HNL.out; simp [form]; omega
  have HM : Aside0 (1 = [a].length) := ⟨rfl⟩
  have HCS : Aside0 ((#[.int .i64 a] : Array Value) = ([a].map (fun n => Value.int .i64 n)).toArray) := ⟨rfl⟩
  have HL4 : Aside0 ([a].length ≤ 4) := ⟨by simp⟩
  go_upto_region 14 with (first | (go_at_call 57; (with_reducible refine (nums_z _ _ _ [a] _ _ _ (blk_new _ _) HCS.out HIN.out HL4.out HM.out).mono ?_); rintro e w3 ⟨rfl, hb⟩))
  have HB3 := Aside0.mk (below_step (below_alloc HB.out _) hb)
  have HBA3 : Aside0 (B60 w3 g1 ⟨12, a, b, n, x, y, []⟩ (.slice A 0 c)) := ⟨blk_below (blk_alloc HBA.out _) hb⟩
  clear hb HBA HB hl1 s0 s1 s2 s3 s4 s5 s6
  have HPL : Aside0 (((form 12).1 ++ numsW [a]).length ≤ 100) := ⟨by have := HNL.out; rw [List.length_append]; simp [form]; omega⟩
  rw [cat_bytes]
  obtain ⟨p, hp⟩ : ∃ p, (form 12).1 ++ numsW [a] = p := ⟨_, rfl⟩
  rw [hp] at HL HPL
  rw [hp]
  clear hp
  go_wp2_with fail
  go_loopw [3, 4] (fun v3 v4 W => v3 = Sv p ∧ v4 = .int .i64 0 ∧ Aside0 (B60 W g1 ⟨12, a, b, n, x, y, []⟩ (.slice A 0 c)) ∧ Aside0 (Below w.heap.size w W)) (fun _ _ _ => 0)
  case atStart => exact ⟨rfl, rfl, HBA3, HB3⟩
  case round =>
    clear HBA3 HB3
    obtain ⟨rfl, rfl, HBA, HB⟩ := hrel
    have s6 := HBA.out.c6
    go_wp2
    go_ret
    exact ⟨by rw [HL.out]; rfl, HB.out⟩
end Go.Proofs.YtagpkphehkfjgaaDoor.Sc

namespace Go.Proofs.YtagpkphehkfjgaaDoor.Sc
open Go.RowKit Go.Proofs.YtagpkphehkfjgaaDoorW.PrintWords Go.Proofs.YtagpkphehkfjgaaDoorW.PrintLast Go.Proofs.YtagpkphehkfjgaaDoorW.PrintMore Go.Proofs.YtagpkphehkfjgaaDoor.Px
theorem flat_tears {a : Act} (h : MayA a) (hk : a.k ≠ 9) : a.t = [] := by
  have := h.ie
  rcases bare_tears a with h1 | h1
  · rw [← this] at h1; exact h1
  · unfold bare at this
    rw [this]
    repeat (split; first | rfl | (exact absurd (by assumption) hk))
    rfl
theorem line_calls (a : Act) (A : Option Addr) (c : Nat) (w : World) (hm : MayA a) (htk : TK w (.slice A a.t.length c) a.t) : Calls Tryd.prog 31 #[actV a (.slice A a.t.length c)] w fun e w' => e = .returned (Sv (lineT a)) ∧ Below w.heap.size w w' := by
  have hf := flat_tears hm
  obtain ⟨k, a, b, n, x, y, ts⟩ := a
  have hk : 1 ≤ k ∧ k ≤ 12 := hm.ik
  have ia : In a := hm.ia
  have ib : In b := hm.ib
  have ic : In n := hm.ic
  have ix : In x := hm.ix
  have iy : In y := hm.iy
  rcases kinds hk with rfl | rfl | rfl | rfl | rfl | rfl | rfl | rfl | rfl | rfl | rfl | rfl
  · obtain rfl : ts = [] := hf (show _ ≠ (9 : Int) by simp)
    exact line_1 a b n x y A c w ia
  · exact line_2 a b n x y ts A c w ia ib ix iy
  · exact line_3 a b n x y ts A c w ia ib
  · obtain rfl : ts = [] := hf (show _ ≠ (9 : Int) by simp)
    exact line_4 a b n x y A c w ia
  · exact line_5 a b n x y ts A c w ia ib ic
  · exact line_6 a b n x y ts A c w ia ib ic
  · exact line_7 a b n x y ts A c w ia ib ic
  · exact line_8 a b n x y ts A c w ia ic
  · exact line_9 a b n x y ts A c w ia htk hm.it hm.il
  · obtain rfl : ts = [] := hf (show _ ≠ (9 : Int) by simp)
    exact line_10 a b n x y A c w ia
  · obtain rfl : ts = [] := hf (show _ ≠ (9 : Int) by simp)
    exact line_11 a b n x y A c w ia
  · obtain rfl : ts = [] := hf (show _ ≠ (9 : Int) by simp)
    exact line_12 a b n x y A c w ia
/-- The words' row is there. -/
theorem wr_of_rs {w : World} {base : Nat} {v : Value} {ws : List (List UInt8)} (h : RS w base v ws) (hne : 0 < ws.length) (hl : ∀ x ∈ ws, x.length ≤ 100000) (hn : ws.length ≤ 100000) : ∃ g c, v = .slice (some ⟨g, 0, none⟩) ws.length c ∧ WR w g 0 ws := by
  obtain ⟨g, c, h1, _, h3, h4⟩ := rs_open h hne
  exact ⟨g, c, h1, h3, fun j x hx => by rw [Nat.zero_add]; exact h4 j x hx, hl, hn⟩
theorem tearG_len (s : List UInt8) : (tearG s).b.length ≤ s.length := by
  unfold tearG
  split
  · simp
  · split
    · simp
    · simp only [unhex_len, List.length_drop]; omega
theorem tb_guess {ws : List (List UInt8)} (h : ∀ x ∈ ws, x.length ≤ 100000) (k : Int) : TB (guessL ws k).t := by
  have hn : TB [] := ⟨by simp, by simp⟩
  have h9 : TB (((ws.drop 2).take 9).map tearG) := by
    refine ⟨by simp; omega, fun t ht => ?_⟩
    obtain ⟨s, hs, rfl⟩ := List.mem_map.1 ht
    have := tearG_len s
    have := h s (List.mem_of_mem_drop (List.mem_of_mem_take hs))
    omega
  unfold guessL
  repeat (split; first | exact hn | exact h9)
  exact hn
/-- What Act answers. -/
def LN (l : List UInt8) (a : Act) (ok : Bool) : Prop := (ok = true ∧ lineA l = some a) ∨ (ok = false ∧ lineA l = none ∧ a = zAct)
theorem ln_yes {l : List UInt8} {a : Act} (h : MayA a) (e : lineT a = l) : LN l a true := Or.inl ⟨rfl, lineA_some ⟨h, e.symm⟩⟩
theorem ln_no {l : List UInt8} (h : ∀ k : Int, 1 ≤ k → k < 13 → ¬ (MayA (guessL (pieces 32 l) k) ∧ lineT (guessL (pieces 32 l) k) = l)) : LN l zAct false := by
  refine Or.inr ⟨rfl, lineA_none fun b hb => ?_, rfl⟩
  have h1 := isLine_iff.1 hb
  have h2 := guess_words hb.1
  rw [h1.2] at h2
  have h3 := hb.1.ik
  refine h b.k h3.1 (by omega) ?_
  rw [h2]
  exact ⟨hb.1, hb.2.symm⟩
def ActPost (l : List UInt8) (w : World) (e : Ending) (w' : World) : Prop := ∃ ok a v, e = .returned (.tuple #[actV a v, .bool ok]) ∧ LN l a ok ∧ RT w' w.heap.size (fun _ => True) v a.t ∧ Below w.heap.size w w'
theorem ap_mk {l : List UInt8} {w w' : World} {e : Ending} (ok : Bool) (a : Act) (v : Value) (he : e = .returned (.tuple #[actV a v, .bool ok])) (hn : LN l a ok) (hr : RT w' w.heap.size (fun _ => True) v a.t) (hb : Below w.heap.size w w') : ActPost l w e w' := ⟨ok, a, v, he, hn, hr, hb⟩
/-- A guess, beside the result's variable. -/
structure GS (w : World) (gr ga gw : Nat) (a : Act) (v : Value) (ws : List (List UInt8)) (W : World) : Prop where
  r : B60 W gr zAct (.slice none 0 0)
  c : B60 W ga a v
  o : RT W w.heap.size (fun k => k ≠ gr) v a.t
  er : w.heap.size ≤ gr
  wr : WR W gw 0 ws
  b : Below w.heap.size w W
theorem GS.below {w W W' : World} {gr ga gw : Nat} {a : Act} {v : Value} {ws : List (List UInt8)} (h : GS w gr ga gw a v ws W) (hb : Below W.heap.size W W') : GS w gr ga gw a v ws W' :=
  ⟨blk_below h.r hb, blk_below h.c hb, Kd.R_below h.o hb, h.er, h.wr.below hb, below_step h.b hb⟩
theorem rt_beside {w W W' : World} {gr : Nat} {b : Act} {u v : Value} {ts : List Tear} (hr : B60 W gr b u) (hw : Below w.heap.size w W) (h : RT W' W.heap.size (fun _ => True) v ts) : RT W' w.heap.size (fun k => k ≠ gr) v ts := by
  refine Kd.R_lower (Kd.R_mono (Kd.R_bound h) (fun k hk => ?_)) hw.size
  obtain ⟨_, h1, _⟩ := hk
  have h2 := blk_lt hr
  omega
set_option maxHeartbeats 3200000 in
set_option maxRecDepth 100000 in
theorem act_calls (l : List UInt8) (w : World) (hl : l.length ≤ 65536) : Calls Tryd.prog 44 #[Sv l] w (ActPost l w) := by
  have HL := Aside0.mk hl
  clear hl
  go_enter Tryd.func44, Tryd.ntmps44
  go_upto_region 1 with (fail)
  obtain ⟨gr, hgr⟩ : ∃ gr, w.heap.size = gr := ⟨_, rfl⟩
  rw [hgr]
  refine wp_world (fun W => Aside0 (B60 W gr zAct (.slice none 0 0)) ∧ Aside0 (w.heap.size ≤ gr) ∧ Aside0 (Below w.heap.size w W)) (by
    subst hgr
    exact ⟨⟨blk_new w _⟩, ⟨Nat.le_refl _⟩, ⟨below_alloc (Below.refl _ _) _⟩⟩) ?_
  clear hgr
  rintro w1 ⟨HBR, HGE, HB⟩
  go_wp2_with fail
  refine (rcut31_calls l 32 32 _ (by have := HL.out; omega) rfl).mono ?_
  rintro e w2 ⟨⟨v, rfl, hrs⟩, hb⟩
  obtain ⟨gw, c, rfl, hwr⟩ := wr_of_rs hrs (by
    cases h : pieces 32 l with
    | nil => exact absurd h (pieces_ne 32 l)
    | cons x ls => simp) (fun x hx => by
    have h := pieces_len 32 l x hx
    have := HL.out
    omega) (by
    have h := pieces_count 32 l
    have := HL.out
    omega)
  have HW := Aside0.mk hwr
  have HBR2 := Aside0.mk (blk_below HBR.out hb)
  have HB2 := Aside0.mk (below_step HB.out hb)
  have HNO := Aside0.mk (ln_no (l := l))
  clear hrs hb hwr HBR HB
  obtain ⟨ws, hws⟩ : ∃ ws, pieces 32 l = ws := ⟨_, rfl⟩
  rw [hws] at HW HNO
  rw [hws]
  clear hws
  go_wp2_with fail
  go_loopw [5] (fun v5 W => ∃ k : Int, 1 ≤ k ∧ k ≤ 13 ∧ v5 = .int .i64 k ∧ Aside0 (∀ j : Int, 1 ≤ j → j < k → ¬ (MayA (guessL ws j) ∧ lineT (guessL ws j) = l)) ∧ Aside0 (B60 W gr zAct (.slice none 0 0)) ∧ Aside0 (WR W gw 0 ws) ∧ Aside0 (Below w.heap.size w W)) (fun v5 _ => (13 - intOf v5).toNat)
  case atStart => exact ⟨1, by omega, by omega, rfl, ⟨fun j h1 h2 => by omega⟩, HBR2, HW, HB2⟩
  case round =>
    clear HBR2 HW HB2
    obtain ⟨k, hk1, hk2, rfl, HN, HBR, HW, HB⟩ := hrel
    by_cases hk : k ≤ 12
    · have d0 : decide (k ≤ (12 : Int)) = true := decide_eq_true hk
      have HK : Aside0 (1 ≤ k ∧ k ≤ 12) := ⟨hk1, hk⟩
      have HTB := Aside0.mk (tb_guess HW.out.l k)
      obtain ⟨a, ha⟩ : ∃ a, guessL ws k = a := ⟨_, rfl⟩
      have HA := Aside0.mk ha
      rw [ha] at HTB
      clear ha
      go_wp2_with fail
      refine (guess_calls k HK.out gw c ws _ HW.out).mono ?_
      rintro e w3 ⟨v, he, hrt, hb⟩
      rw [HA.out] at he hrt
      subst he
      obtain ⟨A, cv, ev⟩ := Kd.R_slice hrt
      subst ev
      go_upto_region 6 with (fail)
      obtain ⟨ga, hga⟩ : ∃ ga, w3.heap.size = ga := ⟨_, rfl⟩
      refine wp_world (GS w gr ga gw a (.slice A a.t.length cv) ws) (by
        subst hga
        have hal := below_alloc (Below.refl w3.heap.size w3) (.cells #[.int .i64 a.k, .int .i64 a.a, .int .i64 a.b, .int .i64 a.n, .int .i64 a.x, .int .i64 a.y, .slice A a.t.length cv] 60)
        exact ⟨blk_below (blk_below HBR.out hb) hal, blk_new w3 _, Kd.R_below (rt_beside HBR.out HB.out hrt) hal, HGE.out, (HW.out.below hb).below hal, below_step (below_step HB.out hb) hal⟩) ?_
      rw [hga]
      clear hga hrt hb HBR HW HB
      intro w4 hs
      have HS := Aside0.mk hs
      clear hs
      obtain ⟨c0, c1, c2, c3, c4, c5, c6⟩ := HS.out.c.all
      go_wp2_with fail
      refine (may_calls a A cv _ (TK.of_R HS.out.o) HTB.out).mono ?_
      rintro e w5 ⟨r, rfl, hr, hb⟩
      have HR := Aside0.mk hr
      have HS5 := Aside0.mk (HS.out.below hb)
      clear hr hb HS c0 c1 c2 c3 c4 c5 c6
      cases r
      · have HN2 : Aside0 (∀ j : Int, 1 ≤ j → j < k + 1 → ¬ (MayA (guessL ws j) ∧ lineT (guessL ws j) = l)) := ⟨fun j h1 h2 h => by
          by_cases hj : j = k
          · rw [hj, HA.out] at h
            exact absurd (HR.out.2 h.1) (by decide)
          · exact HN.out j h1 (by omega) h⟩
        have HBR5 := Aside0.mk HS5.out.r
        have HW5 := Aside0.mk HS5.out.wr
        have HB5 := Aside0.mk HS5.out.b
        have hk3 : (0 : Int) ≤ k := by omega
        have hk4 : k ≤ (12 : Int) := hk
        go_wp2
        go_roundw
        case rel => exact ⟨k + 1, by omega, by omega, rfl, HN2, HBR5, HW5, HB5⟩
        case measure => simp [intOf]; omega
      · have HM := Aside0.mk (HR.out.1 rfl)
        obtain ⟨c0, c1, c2, c3, c4, c5, c6⟩ := HS5.out.c.all
        go_wp2_with fail
        refine (line_calls a A cv _ HM.out (TK.of_R HS5.out.o)).mono ?_
        rintro e w6 ⟨rfl, hb⟩
        have HS6 := Aside0.mk (HS5.out.below hb)
        clear hb HS5 c0 c1 c2 c3 c4 c5 c6
        by_cases hl : lineT a = l
        · have q0 : (lineT a == l) = true := beq_iff_eq.2 hl
          have HLN := Aside0.mk (ln_yes HM.out hl)
          obtain ⟨c0, c1, c2, c3, c4, c5, c6⟩ := HS6.out.c.all
          obtain ⟨r0, r1, r2, r3, r4, r5, r6⟩ := HS6.out.r.all
          obtain ⟨f0, f1, f2, f3, f4, f5, f6⟩ := HS6.out.r.frz
          have HP := Aside0.mk (put7_blk HS6.out.r a (.slice A a.t.length cv))
          have HQ := Aside0.mk (put7_below HS6.out.b HS6.out.er a (.slice A a.t.length cv))
          have HT := Aside0.mk (Kd.R_mono (put7_R HS6.out.o (fun k hk => hk) a (.slice A a.t.length cv)) (ok' := fun _ => True) (fun _ _ => trivial))
          clear hl
          go_wp2
          refine bodyPost_ret (results_ct rfl _ _ gr 60 #[.int .i64 a.k, .int .i64 a.a, .int .i64 a.b, .int .i64 a.n, .int .i64 a.x, .int .i64 a.y, .slice A a.t.length cv] (0, 0) _ rfl HP.out Tryd.underlying60 rfl (by kernel_rfl)) rfl ?_
          exact ap_mk true a _ rfl HLN.out HT.out HQ.out
        · have q0 : (lineT a == l) = false := beq_eq_false_iff_ne.2 hl
          have HN2 : Aside0 (∀ j : Int, 1 ≤ j → j < k + 1 → ¬ (MayA (guessL ws j) ∧ lineT (guessL ws j) = l)) := ⟨fun j h1 h2 h => by
            by_cases hj : j = k
            · rw [hj, HA.out] at h
              exact hl h.2
            · exact HN.out j h1 (by omega) h⟩
          have HBR5 := Aside0.mk HS6.out.r
          have HW5 := Aside0.mk HS6.out.wr
          have HB5 := Aside0.mk HS6.out.b
          have hk3 : (0 : Int) ≤ k := by omega
          have hk4 : k ≤ (12 : Int) := hk
          clear hl
          go_wp2
          go_roundw
          case rel => exact ⟨k + 1, by omega, by omega, rfl, HN2, HBR5, HW5, HB5⟩
          case measure => simp [intOf]; omega
    · obtain rfl : k = 13 := by omega
      have d0 : decide ((13 : Int) ≤ (12 : Int)) = false := by decide
      have HLN : Aside0 (LN l zAct false) := ⟨HNO.out HN.out⟩
      obtain ⟨r0, r1, r2, r3, r4, r5, r6⟩ := HBR.out.all
      obtain ⟨f0, f1, f2, f3, f4, f5, f6⟩ := HBR.out.frz
      have HP := Aside0.mk (put7_blk HBR.out zAct (.slice none 0 0))
      have HQ := Aside0.mk (put7_below HB.out HGE.out zAct (.slice none 0 0))
      clear hk1 hk2 hk
      go_wp2
      refine bodyPost_ret (results_ct rfl _ _ gr 60 #[.int .i64 0, .int .i64 0, .int .i64 0, .int .i64 0, .int .i64 0, .int .i64 0, .slice none 0 0] (0, 0) _ rfl HP.out Tryd.underlying60 rfl (by kernel_rfl)) rfl ?_
      exact ap_mk false zAct _ rfl HLN.out (Kd.R_nil _ _ _ _ _) HQ.out
end Go.Proofs.YtagpkphehkfjgaaDoor.Sc

namespace Go.Proofs.YtagpkphehkfjgaaDoor.Sc
open Go.RowKit Go.Proofs.YtagpkphehkfjgaaDoorW.PrintWords Go.Proofs.YtagpkphehkfjgaaDoorW.PrintLast Go.Proofs.YtagpkphehkfjgaaDoorW.PrintMore Go.Proofs.YtagpkphehkfjgaaDoor.Px
theorem getF_one {l : List UInt8} (hne : l ≠ []) (done : List Act) : getF [l] done = ([], done.length + 1, 2) := by
  unfold getF
  rw [if_neg hne]
theorem getF_zero (done : List Act) : getF [[]] done = (done, 0, 0) := by
  unfold getF
  rw [if_pos rfl]
theorem getF_two (l m : List UInt8) (r : List (List UInt8)) (done : List Act) : getF (l :: m :: r) done = match lineA l with | none => ([], done.length + 1, 2) | some a => if done.length = 400 then ([], done.length + 1, 2) else getF (m :: r) (done ++ [a]) := by
  rw [getF]; cases lineA l <;> rfl
theorem drop_cons {ls : List (List UInt8)} {i : Nat} {x : List UInt8} (h : ls[i]? = some x) : ls.drop i = x :: ls.drop (i + 1) := by
  obtain ⟨h1, rfl⟩ := List.getElem?_eq_some_iff.1 h
  exact List.drop_eq_getElem_cons h1
theorem drop_last {ls : List (List UInt8)} {i : Nat} (h : i + 1 = ls.length) : ls.drop (i + 1) = [] := List.drop_of_length_le (by omega)
theorem getF_next {ls : List (List UInt8)} {i : Nat} {x : List UInt8} (h : ls[i]? = some x) (hl : i + 1 < ls.length) (done : List Act) : getF (ls.drop i) done = match lineA x with | none => ([], done.length + 1, 2) | some a => if done.length = 400 then ([], done.length + 1, 2) else getF (ls.drop (i + 1)) (done ++ [a]) := by
  rw [drop_cons h]
  cases hd : ls.drop (i + 1) with
  | nil => have := congrArg List.length hd; simp at this; omega
  | cons m r => exact getF_two x m r done
theorem wr_grown {W W2 : World} {gw : Nat} {ls : List (List UInt8)} {row : Option Nat} (h : WR W gw 0 ls) (hg : W.grownBy W2 row) (hne : some gw ≠ row) : WR W2 gw 0 ls :=
  ⟨Nat.lt_of_lt_of_le h.g hg.size, fun j x hx => hg.cell (a := ⟨gw, 0 + j, none⟩) (h.c j x hx) hne, h.l, h.n⟩
theorem nb_step {W : World} {gw : Nat} {v v2 : Value} (hne : some gw ≠ v.ownBlock) (hlt : gw < W.heap.size) (hat : v2.ownBlock = v.ownBlock ∨ ∃ b, v2.ownBlock = some b ∧ W.heap.size ≤ b) : some gw ≠ v2.ownBlock := by
  rcases hat with h | ⟨b, h, hb⟩
  · rw [h]; exact hne
  · rw [h]; intro e; injection e with e; omega
set_option maxHeartbeats 3200000 in
set_option maxRecDepth 100000 in
theorem rget_calls (l : List UInt8) (w : World) (hl : l.length ≤ 65536) : Calls Tryd.prog 25 #[Sv l] w (GetPost l w) := by
  have HL := Aside0.mk hl
  clear hl
  go_enter Tryd.func25, Tryd.ntmps25
  go_wp2_with (first | ((with_reducible refine gate_dst (N := 10) rfl ?_); refine Kd.R_lit kAct (w0 := w) w.heap.size 60 ?hg (N := 10) ?hd (xs := ([] : List Act)) (inner := []) (ok := fun _ => True) (okp := fun _ => True) ?hr ?hp (fun _ hk => hk) trivial (Below.refl _ _) (Nat.le_refl _) (by simp) ?_; (case hd => rfl); (case hg => rfl); (case hr => first | (go_simp; done) | (go_simp; rfl)); (case hp => exact (Reps.none _ _)); intro v1 w1 ho hb hg_ hnew_; have HR : Aside0 (RA w1 w.heap.size (fun _ => True) v1 []) := ⟨ho⟩; have HB := Aside0.mk hb; clear ho hb hg_ hnew_))
  go_wp2_with fail
  refine (rcut31_calls l 10 10 _ (by have := HL.out; omega) rfl).mono ?_
  rintro e w2 ⟨⟨v, rfl, hrs⟩, hb⟩
  have hbase : ∀ k, v.ownBlock = some k → w1.heap.size ≤ k := fun k hk => by
    obtain ⟨inner, ho⟩ := Kd.R_own hrs
    exact own_base ho k hk
  obtain ⟨gw, c, rfl, hwr⟩ := wr_of_rs hrs (by
    cases h : pieces 10 l with
    | nil => exact absurd h (pieces_ne 10 l)
    | cons x ls => simp) (fun x hx => by
    have h := pieces_len 10 l x hx
    have := HL.out
    omega) (by
    have h := pieces_count 10 l
    have := HL.out
    omega)
  have HW := Aside0.mk hwr
  have HNB : Aside0 (some gw ≠ v1.ownBlock) := ⟨fun e => by
    have h1 := (ra_own HR.out gw e.symm).2
    have h2 := hbase gw rfl
    omega⟩
  have HR2 := Aside0.mk (Kd.R_below HR.out hb)
  have HB2 := Aside0.mk (below_step HB.out hb)
  have HLL : Aside0 (∀ x ∈ pieces 10 l, x.length ≤ 65536) := ⟨fun x hx => by
    have h := pieces_len 10 l x hx
    have := HL.out
    omega⟩
  clear hrs hb hwr HR HB hbase
  obtain ⟨ls, hls⟩ : ∃ ls, pieces 10 l = ls := ⟨_, rfl⟩
  have HLS := Aside0.mk hls
  have HNE : Aside0 (0 < ls.length) := ⟨by
    rw [← hls]
    cases h : pieces 10 l with
    | nil => exact absurd h (pieces_ne 10 l)
    | cons x ls => simp⟩
  rw [hls] at HW HLL
  rw [hls]
  clear hls
  go_wp2_with fail
  go_loopw [5, 7] (fun v5 v7 W => ∃ (i : Nat) (done : List Act), v7 = .int .i64 i ∧ i < ls.length ∧ done.length = i ∧ Aside0 (getF ls [] = getF (ls.drop i) done) ∧ Aside0 (RA W w.heap.size (fun _ => True) v5 done) ∧ Aside0 (WR W gw 0 ls) ∧ Aside0 (some gw ≠ v5.ownBlock) ∧ Aside0 (Below w.heap.size w W)) (fun _ v7 _ => ls.length - (intOf v7).toNat)
  case atStart => exact ⟨0, [], rfl, HNE.out, rfl, ⟨rfl⟩, HR2, HW, HNB, HB2⟩
  case round =>
    clear HR2 HW HB2 HNB
    obtain ⟨i, done, rfl, hi, hd, HF, HR, HW, HNB, HB⟩ := hrel
    have HD := Aside0.mk hd
    have HI := Aside0.mk hi
    have HLN : Aside0 (ls.length ≤ 100000) := ⟨HW.out.n⟩
    obtain ⟨A, cv, ev⟩ := Kd.R_slice HR.out
    subst ev
    have d0 : decide ((i : Int) < (ls.length : Int)) = true := decide_eq_true (by omega)
    have hk1 : (i : Int) < (ls.length : Int) := by omega
    have hk2 : (ls.length : Int) ≤ 100000 := by have := HLN.out; omega
    have hk3 : (1 : Int) ≤ (ls.length : Int) := by omega
    obtain ⟨x, hx⟩ : ∃ x, ls[i]? = some x := ⟨_, List.getElem?_eq_getElem hi⟩
    have c0 : wr.cell? ⟨gw, i, none⟩ = some (Sv x) := by have := HW.out.c i x hx; rwa [Nat.zero_add] at this
    have HX := Aside0.mk hx
    have HXL : Aside0 (x.length ≤ 65536) := ⟨HLL.out x (List.mem_of_getElem? hx)⟩
    clear hx hd hi
    by_cases hlast : i + 1 = ls.length
    · have q1 : ((i : Int) == (ls.length : Int) - 1) = true := by rw [beq_iff_eq]; omega
      have HLAST : Aside0 (ls.drop i = [x]) := ⟨by rw [drop_cons HX.out, drop_last hlast]⟩
      clear hlast
      by_cases hxe : x = []
      · have q2 : (x == []) = true := beq_iff_eq.2 hxe
        have HE : Aside0 (getF (pieces 10 l) [] = (done, 0, 0)) := ⟨by rw [HLS.out, HF.out, HLAST.out, hxe]; exact getF_zero done⟩
        clear hxe
        go_wp2
        go_ret3
        exact gp_mk done _ 0 0 rfl HE.out HR.out HB.out
      · have q2 : (x == []) = false := beq_eq_false_iff_ne.2 hxe
        have HE : Aside0 (getF (pieces 10 l) [] = ([], done.length + 1, 2)) := ⟨by rw [HLS.out, HF.out, HLAST.out]; exact getF_one hxe done⟩
        clear hxe
        go_wp2_with fail
        refine (act_calls x _ HXL.out).mono ?_
        rintro e w4 ⟨ok, a, v, rfl, hln, hrt, hb⟩
        obtain ⟨At, ct, ev⟩ := Kd.R_slice hrt
        subst ev
        have HB4 := Aside0.mk (below_step HB.out hb)
        clear hln hrt hb c0
        go_upto_region 9 with (fail)
        obtain ⟨gt, hgt⟩ : ∃ gt, w4.heap.size = gt := ⟨_, rfl⟩
        refine wp_world (fun W => Aside0 (Below w.heap.size w W)) ⟨below_alloc HB4.out _⟩ ?_
        rw [hgt]
        clear hgt HB4
        rintro w5 HB5
        cases ok
        · go_wp2
          go_ret3
          exact gp_mk [] _ (done.length + 1) 2 (by rw [HD.out]; rfl) HE.out (Kd.R_nil _ _ _ _ _) HB5.out
        · go_wp2
          go_ret3
          exact gp_mk [] _ (done.length + 1) 2 (by rw [HD.out]; rfl) HE.out (Kd.R_nil _ _ _ _ _) HB5.out
    · have q1 : ((i : Int) == (ls.length : Int) - 1) = false := by rw [beq_eq_false_iff_ne]; omega
      have HLT : Aside0 (i + 1 < ls.length) := ⟨by have := HI.out; omega⟩
      have HF2 := Aside0.mk (getF_next HX.out HLT.out done)
      clear hlast
      go_wp2_with fail
      refine (act_calls x _ HXL.out).mono ?_
      rintro e w4 ⟨ok, a, v, rfl, hln, hrt, hb⟩
      obtain ⟨At, ct, ev⟩ := Kd.R_slice hrt
      subst ev
      have HLNN := Aside0.mk hln
      have HRT := Aside0.mk (rt_apart HR.out HB.out.size hrt)
      have HR4 := Aside0.mk (Kd.R_below HR.out hb)
      have HW4 := Aside0.mk (HW.out.below hb)
      have HB4 := Aside0.mk (below_step HB.out hb)
      clear hln hrt hb c0 HR HW HB
      go_upto_region 9 with (fail)
      obtain ⟨gt, hgt⟩ : ∃ gt, w4.heap.size = gt := ⟨_, rfl⟩
      refine wp_world (fun W => Aside0 (B60 W gt a (.slice At a.t.length ct)) ∧ Aside0 (RA W w.heap.size (fun _ => True) (.slice A done.length cv) done) ∧ Aside0 (RT W w.heap.size (fun k => some k ≠ (Value.slice A done.length cv).ownBlock) (.slice At a.t.length ct) a.t) ∧ Aside0 (WR W gw 0 ls) ∧ Aside0 (Below w.heap.size w W)) (by
        subst hgt
        exact ⟨⟨blk_new w4 _⟩, ⟨Kd.R_below HR4.out (below_alloc (Below.refl _ _) _)⟩, ⟨Kd.R_below HRT.out (below_alloc (Below.refl _ _) _)⟩, ⟨HW4.out.below (below_alloc (Below.refl _ _) _)⟩, ⟨below_alloc HB4.out _⟩⟩) ?_
      rw [hgt]
      clear hgt HR4 HB4 HRT HW4
      rintro w5 ⟨HBT, HR5, HRT5, HW5, HB5⟩
      rcases HLNN.out with ⟨rfl, hla⟩ | ⟨rfl, hla, _⟩
      · have HF3 := HF2.out
        rw [hla] at HF3
        simp only [] at HF3
        clear hla HLNN
        by_cases h4 : done.length = 400
        · have q4 : ((done.length : Int) == 400) = true := by rw [beq_iff_eq]; omega
          rw [if_pos h4] at HF3
          have HE : Aside0 (getF (pieces 10 l) [] = ([], done.length + 1, 2)) := ⟨by rw [HLS.out, HF.out]; exact HF3⟩
          clear HF3 h4 HF2
          go_wp2
          go_ret3
          exact gp_mk [] _ (done.length + 1) 2 (by rw [HD.out]; rfl) HE.out (Kd.R_nil _ _ _ _ _) HB5.out
        · have q4 : ((done.length : Int) == 400) = false := by rw [beq_eq_false_iff_ne]; omega
          rw [if_neg h4] at HF3
          have HE : Aside0 (getF ls [] = getF (ls.drop (i + 1)) (done ++ [a])) := ⟨HF.out.trans HF3⟩
          have HD2 : Aside0 ((done ++ [a]).length = i + 1) := ⟨by have := HD.out; simp; omega⟩
          clear HF3 h4 HF2
          obtain ⟨s0, s1, s2, s3, s4, s5, s6⟩ := HBT.out.all
          go_wp2_with (first | ((with_reducible refine gate_builtin (b := .append) (xs := #[.tmp 56, .tmp 58]) rfl ?_); at_builtin; refine Kd.R_append kAct (w0 := w) w.heap.size rfl (.tmp 56) (.tmp 58) 49 60 (.agg #[.int .i64 0, .int .i64 0, .int .i64 0, .int .i64 0, .int .i64 0, .int .i64 0, .slice none 0 0]) 72 rfl Tryd.underlying49 info60 rfl (by decide) (by omega) (.slice A done.length cv) done a [.int .i64 a.k, .int .i64 a.a, .int .i64 a.b, .int .i64 a.n, .int .i64 a.x, .int .i64 a.y, .slice At a.t.length ct] (fun _ => True) (fun k => some k ≠ (Value.slice A done.length cv).ownBlock) rfl rfl ?aP ?aK ?aF ?aO ?aB ?aS ?aL ?_; (case aP => exact kAct_M HRT5.out); (case aK => exact fun _ hk => ⟨trivial, hk⟩); (case aF => exact (fun _ _ => trivial)); (case aO => exact HR5.out); (case aB => exact HB5.out); (case aS => exact HB5.out.size); (case aL => have := HD.out; have := HI.out; have := HLN.out; omega); intro v2 w6 ho hb hg hat; have HO := Aside0.mk ho; have HB6 := Aside0.mk hb; have HW6 := Aside0.mk (wr_grown HW5.out hg HNB.out); have HNB6 := Aside0.mk (nb_step HNB.out HW5.out.g hat); clear ho hb hg hat s0 s1 s2 s3 s4 s5 s6))
          clear HBT HR5 HRT5 HB5
          go_roundw
          case rel => exact ⟨i + 1, done ++ [a], by go_num, HLT.out, HD2.out, HE, HO, HW6, HNB6, HB6⟩
          case measure => simp [intOf]; omega
      · have HE : Aside0 (getF (pieces 10 l) [] = ([], done.length + 1, 2)) := ⟨by rw [HLS.out, HF.out, HF2.out, hla]⟩
        clear hla HLNN HF2
        go_wp2
        go_ret3
        exact gp_mk [] _ (done.length + 1) 2 (by rw [HD.out]; rfl) HE.out (Kd.R_nil _ _ _ _ _) HB5.out
end Go.Proofs.YtagpkphehkfjgaaDoor.Sc

namespace Go.Proofs.YtagpkphehkfjgaaDoor.Sc
open Go.RowKit Go.Proofs.YtagpkphehkfjgaaDoorW.PrintWords Go.Proofs.YtagpkphehkfjgaaDoorW.PrintLast Go.Proofs.YtagpkphehkfjgaaDoorW.PrintMore Go.Proofs.YtagpkphehkfjgaaDoor.Px
theorem kAct_sz : kAct.sz = 7 := rfl
/-- What is read of a row of acts. -/
def AK (w : World) (v : Value) (xs : List Act) : Prop := ∃ A c, v = .slice A xs.length c ∧ xs.length ≤ c ∧ Kd.C kAct w A xs.length xs
theorem AK.of_R {w : World} {base : Nat} {ok : Nat → Prop} {v : Value} {xs : List Act} (h : RA w base ok v xs) : AK w v xs := Kd.R_reads h
theorem AK.below {w W : World} {v : Value} {xs : List Act} (h : AK w v xs) (hb : Below w.heap.size w W) : AK W v xs := by
  obtain ⟨A, c, h1, h2, h3⟩ := h
  exact ⟨A, c, h1, h2, Kd.C_below h3 hb⟩
theorem add_offs (ad : Addr) (m i : Nat) (h : 0 < i) : (⟨(ad.add m).block, (ad.add m).off + i, none⟩ : Addr) = ad.add (m + i) := by
  unfold Addr.add
  by_cases h0 : m = 0
  · subst h0; simp; omega
  · simp [h0, Nat.add_assoc]
/-- An act's cells at an address. -/
structure AC (w : World) (p : Addr) (a : Act) (v : Value) : Prop where
  c0 : w.cell? p = some (.int .i64 a.k)
  c1 : w.cell? ⟨p.block, p.off + 1, none⟩ = some (.int .i64 a.a)
  c2 : w.cell? ⟨p.block, p.off + 2, none⟩ = some (.int .i64 a.b)
  c3 : w.cell? ⟨p.block, p.off + 3, none⟩ = some (.int .i64 a.n)
  c4 : w.cell? ⟨p.block, p.off + 4, none⟩ = some (.int .i64 a.x)
  c5 : w.cell? ⟨p.block, p.off + 5, none⟩ = some (.int .i64 a.y)
  c6 : w.cell? ⟨p.block, p.off + 6, none⟩ = some v
theorem AK.at {w : World} {v : Value} {xs : List Act} (h : AK w v xs) {k : Nat} (hk : k < xs.length) :
    ∃ ad c a A2 n2, v = .slice (some ad) xs.length c ∧ xs[k]? = some a ∧ AC w (ad.add (k * 7)) a (.slice A2 a.t.length n2) ∧ TK w (.slice A2 a.t.length n2) a.t := by
  obtain ⟨A, c, h1, h2, h3⟩ := h
  obtain ⟨ad, a, cs, rfl, ha, ⟨c0, r0, rfl, e0, c1, r1, rfl, e1, c2, r2, rfl, e2, c3, r3, rfl, e3, c4, r4, rfl, e4, c5, r5, rfl, e5, A2, n2, e6, e7, e8⟩, hc⟩ := el_at zAct h3 hk
  obtain rfl : c0 = [.int .i64 a.k] := e0
  obtain rfl : c1 = [.int .i64 a.a] := e1
  obtain rfl : c2 = [.int .i64 a.b] := e2
  obtain rfl : c3 = [.int .i64 a.n] := e3
  obtain rfl : c4 = [.int .i64 a.x] := e4
  obtain rfl : c5 = [.int .i64 a.y] := e5
  obtain rfl : r5 = [.slice A2 a.t.length n2] := e6
  refine ⟨ad, c, a, A2, n2, h1, ha, ⟨?_, ?_, ?_, ?_, ?_, ?_, ?_⟩, A2, n2, rfl, e7, e8⟩
  · have := hc 0 _ rfl
    rwa [kAct_sz, Nat.add_zero] at this
  · rw [add_offs _ _ _ (by decide)]
    have := hc 1 _ rfl
    rwa [kAct_sz] at this
  · rw [add_offs _ _ _ (by decide)]
    have := hc 2 _ rfl
    rwa [kAct_sz] at this
  · rw [add_offs _ _ _ (by decide)]
    have := hc 3 _ rfl
    rwa [kAct_sz] at this
  · rw [add_offs _ _ _ (by decide)]
    have := hc 4 _ rfl
    rwa [kAct_sz] at this
  · rw [add_offs _ _ _ (by decide)]
    have := hc 5 _ rfl
    rwa [kAct_sz] at this
  · rw [add_offs _ _ _ (by decide)]
    have := hc 6 _ rfl
    rwa [kAct_sz] at this
/-- Acts not too great. -/
structure AB (xs : List Act) : Prop where
  l : xs.length ≤ 100000
  b : ∀ a ∈ xs, TB a.t
theorem tb_may {a : Act} (h : MayA a) : TB a.t := ⟨by have := h.il; omega, fun t ht => by
  rcases h.it t ht with ⟨_, h⟩ | ⟨_, h⟩ | ⟨_, _, h⟩
  · rw [h]; simp
  · rw [h]; simp
  · omega⟩
theorem getF_ok : ∀ (ls : List (List UInt8)) (done xs : List Act) (at_ er : Nat), getF ls done = (xs, at_, er) → (∀ a ∈ done, MayA a) → done.length ≤ 400 → (∀ a ∈ xs, MayA a) ∧ xs.length ≤ 400
  | [], done, xs, at_, er, h, hd, hl => by
    unfold getF at h
    injection h with h _
    subst h
    exact ⟨hd, hl⟩
  | [l], done, xs, at_, er, h, hd, hl => by
    unfold getF at h
    split at h
    · injection h with h _; subst h; exact ⟨hd, hl⟩
    · injection h with h _; subst h; exact ⟨by simp, by simp⟩
  | l :: m :: r, done, xs, at_, er, h, hd, hl => by
    rw [getF_two] at h
    cases hla : lineA l with
    | none => rw [hla] at h; simp only [] at h; injection h with h _; subst h; exact ⟨by simp, by simp⟩
    | some a =>
      rw [hla] at h
      simp only [] at h
      split at h
      · injection h with h _; subst h; exact ⟨by simp, by simp⟩
      · refine getF_ok (m :: r) (done ++ [a]) xs at_ er h (fun b hb => ?_) (by simp; omega)
        rcases List.mem_append.1 hb with hb | hb
        · exact hd b hb
        · simp at hb; rw [hb]; exact (lineA_is hla).1
theorem ab_get {l : List UInt8} {xs : List Act} {at_ er : Nat} (h : getF (pieces 10 l) [] = (xs, at_, er)) : AB xs := by
  obtain ⟨h1, h2⟩ := getF_ok _ _ _ _ _ h (by simp) (by simp)
  exact ⟨by omega, fun a ha => tb_may (h1 a ha)⟩
theorem ak_next {l m : List Act} {k : Nat} {x y : Act} (h : l.take k = m.take k) (h1 : l[k]? = some x) (h2 : m[k]? = some y) (he : x = y) : l.take (k + 1) = m.take (k + 1) := by
  rw [List.take_add_one, List.take_add_one, h, h1, h2, he]
theorem keep_14 {w1 W W' : World} {a0 a1 a2 a3 a4 a5 a6 a7 a8 a9 a10 a11 a12 a13 : Addr} {v0 v1 v2 v3 v4 v5 v6 v7 v8 v9 v10 v11 v12 v13 : Value} (h : (W.cell? a0 = some v0 ∧ W.cell? a1 = some v1 ∧ W.cell? a2 = some v2 ∧ W.cell? a3 = some v3 ∧ W.cell? a4 = some v4 ∧ W.cell? a5 = some v5 ∧ W.cell? a6 = some v6 ∧ W.cell? a7 = some v7 ∧ W.cell? a8 = some v8 ∧ W.cell? a9 = some v9 ∧ W.cell? a10 = some v10 ∧ W.cell? a11 = some v11 ∧ W.cell? a12 = some v12 ∧ W.cell? a13 = some v13) ∧ Aside0 (Below w1.heap.size w1 W)) (hb : Below W.heap.size W W') : (W'.cell? a0 = some v0 ∧ W'.cell? a1 = some v1 ∧ W'.cell? a2 = some v2 ∧ W'.cell? a3 = some v3 ∧ W'.cell? a4 = some v4 ∧ W'.cell? a5 = some v5 ∧ W'.cell? a6 = some v6 ∧ W'.cell? a7 = some v7 ∧ W'.cell? a8 = some v8 ∧ W'.cell? a9 = some v9 ∧ W'.cell? a10 = some v10 ∧ W'.cell? a11 = some v11 ∧ W'.cell? a12 = some v12 ∧ W'.cell? a13 = some v13) ∧ Aside0 (Below w1.heap.size w1 W') :=
  ⟨⟨pw_cell_below hb h.1.1, pw_cell_below hb h.1.2.1, pw_cell_below hb h.1.2.2.1, pw_cell_below hb h.1.2.2.2.1, pw_cell_below hb h.1.2.2.2.2.1, pw_cell_below hb h.1.2.2.2.2.2.1, pw_cell_below hb h.1.2.2.2.2.2.2.1, pw_cell_below hb h.1.2.2.2.2.2.2.2.1, pw_cell_below hb h.1.2.2.2.2.2.2.2.2.1, pw_cell_below hb h.1.2.2.2.2.2.2.2.2.2.1, pw_cell_below hb h.1.2.2.2.2.2.2.2.2.2.2.1, pw_cell_below hb h.1.2.2.2.2.2.2.2.2.2.2.2.1, pw_cell_below hb h.1.2.2.2.2.2.2.2.2.2.2.2.2.1, pw_cell_below hb h.1.2.2.2.2.2.2.2.2.2.2.2.2.2⟩, ⟨below_step h.2.out hb⟩⟩
set_option maxHeartbeats 3200000 in
set_option maxRecDepth 100000 in
theorem rsame_calls (v u : Value) (xs ys : List Act) (w : World) (h1 : AK w v xs) (h2 : AK w u ys) (hx : AB xs) (hy : AB ys) : Calls Tryd.prog 26 #[v, u] w fun e w' => e = .returned (.bool (decide (xs = ys))) ∧ Below w.heap.size w w' := by
  have HV := Aside0.mk h1
  have HU := Aside0.mk h2
  have HX := Aside0.mk hx
  have HY := Aside0.mk hy
  have hl : xs.length ≤ 100000 := hx.l
  have hm : ys.length ≤ 100000 := hy.l
  have HL := Aside0.mk hl
  clear hx hy
  obtain ⟨A, c, rfl, _⟩ := h1
  obtain ⟨B, d, rfl, _⟩ := h2
  by_cases hlen : xs.length = ys.length
  · have q0 : ((xs.length : Int) == (ys.length : Int)) = true := by rw [beq_iff_eq]; omega
    have q1 : ((xs.length : Int) != (ys.length : Int)) = false := by rw [bne_eq_false_iff_eq]; omega
    have HLEN := Aside0.mk hlen
    clear hl hm hlen
    go_enter Tryd.func26, Tryd.ntmps26
    go_wp2
    clear q0 q1
    go_loopw [5] (fun v5 W => ∃ k : Nat, k ≤ xs.length ∧ v5 = .int .i64 k ∧ Aside0 (xs.take k = ys.take k) ∧ Aside0 (AK W (.slice A xs.length c) xs) ∧ Aside0 (AK W (.slice B ys.length d) ys) ∧ Aside0 (Below w.heap.size w W)) (fun v5 _ => xs.length - (intOf v5).toNat)
    case atStart => exact ⟨0, Nat.zero_le _, rfl, ⟨by simp⟩, HV, HU, ⟨Below.refl _ _⟩⟩
    case round =>
      clear HV HU
      obtain ⟨i, hi, rfl, HT, HV, HU, HB⟩ := hrel
      have hl := HL.out
      by_cases hlt : i < xs.length
      · have d0 : decide ((i : Int) < (xs.length : Int)) = true := decide_eq_true (by omega)
        obtain ⟨ad, c2, x, A2, n2, e1, hx, hac, htk⟩ := HV.out.at hlt
        obtain ⟨bd, d2, y, B2, m2, e2, hy, hbc, hts⟩ := HU.out.at (k := i) (by have := HLEN.out; omega)
        injection e1 with e1 _ e3
        injection e2 with e2 _ e4
        subst e1 e2 e3 e4
        have hk1 : (i : Int) < (xs.length : Int) := by omega
        have hk2 : (i : Int) < (ys.length : Int) := by have := HLEN.out; omega
        have hk3 : (i : Int) ≤ 100000 := by omega
        have HVX := Aside0.mk hx
        have HVY := Aside0.mk hy
        have HTX := Aside0.mk (HX.out.b x (List.mem_of_getElem? hx))
        have HTY := Aside0.mk (HY.out.b y (List.mem_of_getElem? hy))
        have HTK := Aside0.mk htk
        have HTS := Aside0.mk hts
        obtain ⟨c0, c1, c2, c3, c4, c5, c6⟩ := hac
        obtain ⟨b0, b1, b2, b3, b4, b5, b6⟩ := hbc
        obtain ⟨D, hD⟩ : ∃ D, decide (x = y) = D := ⟨_, rfl⟩
        have HD := Aside0.mk hD
        clear hx hy htk hts hD
        go_upto_region 6 with (fail)
        go_region_held3 (fun W => (W.cell? (ad.add (i * 7)) = some (.int .i64 x.k) ∧ W.cell? ⟨(ad.add (i * 7)).block, (ad.add (i * 7)).off + 1, none⟩ = some (.int .i64 x.a) ∧ W.cell? ⟨(ad.add (i * 7)).block, (ad.add (i * 7)).off + 2, none⟩ = some (.int .i64 x.b) ∧ W.cell? ⟨(ad.add (i * 7)).block, (ad.add (i * 7)).off + 3, none⟩ = some (.int .i64 x.n) ∧ W.cell? ⟨(ad.add (i * 7)).block, (ad.add (i * 7)).off + 4, none⟩ = some (.int .i64 x.x) ∧ W.cell? ⟨(ad.add (i * 7)).block, (ad.add (i * 7)).off + 5, none⟩ = some (.int .i64 x.y) ∧ W.cell? ⟨(ad.add (i * 7)).block, (ad.add (i * 7)).off + 6, none⟩ = some (.slice A2 x.t.length n2) ∧ W.cell? (bd.add (i * 7)) = some (.int .i64 y.k) ∧ W.cell? ⟨(bd.add (i * 7)).block, (bd.add (i * 7)).off + 1, none⟩ = some (.int .i64 y.a) ∧ W.cell? ⟨(bd.add (i * 7)).block, (bd.add (i * 7)).off + 2, none⟩ = some (.int .i64 y.b) ∧ W.cell? ⟨(bd.add (i * 7)).block, (bd.add (i * 7)).off + 3, none⟩ = some (.int .i64 y.n) ∧ W.cell? ⟨(bd.add (i * 7)).block, (bd.add (i * 7)).off + 4, none⟩ = some (.int .i64 y.x) ∧ W.cell? ⟨(bd.add (i * 7)).block, (bd.add (i * 7)).off + 5, none⟩ = some (.int .i64 y.y) ∧ W.cell? ⟨(bd.add (i * 7)).block, (bd.add (i * 7)).off + 6, none⟩ = some (.slice B2 y.t.length m2)) ∧ Aside0 (Below wr.heap.size wr W))
          ((first | (with_reducible assumption) | exact ⟨⟨c0, c1, c2, c3, c4, c5, c6, b0, b1, b2, b3, b4, b5, b6⟩, ⟨below_drew (Below.refl _ _)⟩⟩ | exact ⟨⟨c0, c1, c2, c3, c4, c5, c6, b0, b1, b2, b3, b4, b5, b6⟩, ⟨Below.refl _ _⟩⟩))
          (first | (go_at_call 45; (with_reducible refine (one_calls x y A2 B2 n2 m2 _ (tk_and HTK.out (by with_reducible assumption)) (tk_and HTS.out (by with_reducible assumption)) HTX.out HTY.out).mono ?_); rintro e w' ⟨rfl, hb⟩; rw [HD.out]; have hS' := keep_14 (by with_reducible assumption) hb))
        have HB2 := Aside0.mk (below_step HB.out hS'.2.out)
        have HV2 := Aside0.mk (HV.out.below hS'.2.out)
        have HU2 := Aside0.mk (HU.out.below hS'.2.out)
        clear hS' c0 c1 c2 c3 c4 c5 c6 b0 b1 b2 b3 b4 b5 b6
        cases D
        · have HF : Aside0 (decide (xs = ys) = false) := ⟨decide_eq_false (fun e => (of_decide_eq_false HD.out) (by
            have h := HVX.out
            rw [e, HVY.out] at h
            injection h with h
            exact h.symm))⟩
          go_wp2
          go_ret
          exact ⟨by rw [HF.out]; rfl, HB2.out⟩
        · have HT2 : Aside0 (xs.take (i + 1) = ys.take (i + 1)) := ⟨ak_next HT.out HVX.out HVY.out (of_decide_eq_true HD.out)⟩
          go_wp2
          go_roundw
          case rel => exact ⟨i + 1, by omega, by go_num, HT2, HV2, HU2, HB2⟩
          case measure => simp [intOf]; omega
      · obtain rfl : i = xs.length := by omega
        have d0 : decide ((xs.length : Int) < (xs.length : Int)) = false := decide_eq_false (by omega)
        have HD : Aside0 (decide (xs = ys) = true) := ⟨decide_eq_true (by
          have h := HT.out
          have := HLEN.out
          rwa [List.take_of_length_le (Nat.le_refl _), List.take_of_length_le (by omega)] at h)⟩
        go_wp2
        go_ret
        exact ⟨by rw [HD.out]; rfl, HB.out⟩
  · have q0 : ((xs.length : Int) == (ys.length : Int)) = false := by rw [beq_eq_false_iff_ne]; omega
    have q1 : ((xs.length : Int) != (ys.length : Int)) = true := by rw [bne_iff_ne]; omega
    have HD : Aside0 (decide (xs = ys) = false) := ⟨decide_eq_false (fun e => hlen (by rw [e]))⟩
    rw [HD.out]
    clear hl hm hlen
    go_enter Tryd.func26, Tryd.ntmps26
    go_wp2
    go_ret
    exact ⟨rfl, Below.refl _ _⟩
end Go.Proofs.YtagpkphehkfjgaaDoor.Sc

namespace Go.Proofs.YtagpkphehkfjgaaDoor.Sc
open Go.RowKit Go.Proofs.YtagpkphehkfjgaaDoorW.PrintWords Go.Proofs.YtagpkphehkfjgaaDoorW.PrintLast Go.Proofs.YtagpkphehkfjgaaDoorW.PrintMore Go.Proofs.YtagpkphehkfjgaaDoor.Px
abbrev line1 : List UInt8 := [108, 105, 110, 107, 32, 49, 32, 50, 32, 51, 32, 52]
abbrev line2 : List UInt8 := [99, 114, 97, 115, 104, 32, 50, 32, 107, 101, 112, 116, 32, 61, 48, 55]
abbrev text1 : List UInt8 := [108, 105, 110, 107, 32, 49, 32, 50, 32, 51, 32, 52, 10, 99, 114, 97, 115, 104, 32, 50, 32, 107, 101, 112, 116, 32, 61, 48, 55, 10]
abbrev act1 : Act := ⟨2, 1, 2, 0, 3, 4, []⟩
abbrev act2 : Act := ⟨9, 2, 0, 0, 0, 0, [⟨1, []⟩, ⟨2, [7]⟩]⟩
theorem itw1 : itw 1 = [49] := by rw [(itw_in (n := 1) ⟨by decide, by decide⟩).1]; exact dd_small (by decide)
theorem itw2 : itw 2 = [50] := by rw [(itw_in (n := 2) ⟨by decide, by decide⟩).1]; exact dd_small (by decide)
theorem itw3 : itw 3 = [51] := by rw [(itw_in (n := 3) ⟨by decide, by decide⟩).1]; exact dd_small (by decide)
theorem itw4 : itw 4 = [52] := by rw [(itw_in (n := 4) ⟨by decide, by decide⟩).1]; exact dd_small (by decide)
theorem in_small {n : Int} (h0 : 0 ≤ n) (h1 : n ≤ 4) : In n := ⟨h0, by omega⟩
theorem may1 : MayA act1 := ⟨by decide, in_small (by decide) (by decide), in_small (by decide) (by decide), in_small (by decide) (by decide), in_small (by decide) (by decide), in_small (by decide) (by decide), by decide, by simp, rfl⟩
theorem may2 : MayA act2 := ⟨by decide, in_small (by decide) (by decide), in_small (by decide) (by decide), in_small (by decide) (by decide), in_small (by decide) (by decide), in_small (by decide) (by decide), by decide, by
  intro t ht
  simp at ht
  rcases ht with rfl | rfl
  · exact Or.inr (Or.inl ⟨rfl, rfl⟩)
  · exact Or.inr (Or.inr ⟨rfl, by simp, by simp⟩), rfl⟩
theorem lt1 : lineT act1 = line1 := by
  rw [lineT_2]
  simp [numsW, form, itw1, itw2, itw3, itw4]
theorem hexs7 : hexs [7] = [48, 55] := by decide
theorem lt2 : lineT act2 = line2 := by
  rw [lineT_9]
  simp [numsW, tearsW, tearW, form, itw2, hexs7]
theorem parts1 : pieces 10 text1 = [line1, line2, []] := by decide
theorem get1 : getF (pieces 10 text1) [] = ([act1, act2], 0, 0) := by
  rw [parts1, getF_two, lineA_some (⟨may1, lt1.symm⟩ : IsLine line1 act1)]
  simp only [List.length_nil, List.nil_append]
  rw [if_neg (by decide), getF_two, lineA_some (⟨may2, lt2.symm⟩ : IsLine line2 act2)]
  simp only [List.length_singleton, List.singleton_append]
  rw [if_neg (by decide)]
  exact getF_zero _
set_option maxHeartbeats 1600000 in
set_option maxRecDepth 100000 in
theorem awake_calls (w : World) (hg : Gl w) : Calls Tryd.prog 23 #[] w fun e w' => e = .returned (.bool true) ∧ Below w.heap.size w w' := by
  have HG := Aside0.mk hg
  clear hg
  go_enter Tryd.func23, Tryd.ntmps23
  go_wp2_with fail
  refine (get_calls text1 _ (by decide) HG.out).mono ?_
  rintro e w2 ⟨xs, v, at_, er, rfl, hgf, hra, hb⟩
  have h := get1.symm.trans hgf
  injection h with h1 h2
  injection h2 with h2 h3
  subst h1 h2 h3
  have HB := Aside0.mk hb
  obtain ⟨ad, c, x, A2, n2, e1, hx, hac, htk⟩ := (AK.of_R hra).at (k := 0) (by decide)
  obtain ⟨ad', c', y, B2, m2, e2, hy, hbc, hts⟩ := (AK.of_R hra).at (k := 1) (by decide)
  obtain rfl : act1 = x := by simpa using hx
  obtain rfl : act2 = y := by simpa using hy
  subst e1
  injection e2 with e2 _ e3
  injection e2 with e2
  subst e2 e3
  obtain ⟨bd, d2, t, tv, e5, _, ht, ct0, ct1, bt⟩ := hts.at (k := 1) (by decide)
  obtain rfl : (⟨2, [7]⟩ : Tear) = t := by simpa using ht
  injection e5 with e5 _ e6
  subst e5 e6
  have s5 : w2.cell? ⟨ad.block, ad.off + 5, none⟩ = some (.int .i64 4) := hac.c5
  have u6 : w2.cell? ⟨ad.block, ad.off + 7 + 6, none⟩ = some (.slice (some bd) 2 m2) := hbc.c6
  have t0 : w2.cell? ⟨bd.block, bd.off + 2, none⟩ = some (.int .i64 2) := ct0
  clear hgf hra hb hac htk hbc ct0 ct1 bt hx hy ht
  go_wp2
  go_ret
  exact ⟨rfl, HB.out⟩
set_option maxHeartbeats 1600000 in
set_option maxRecDepth 100000 in
theorem gets_calls (l : List UInt8) (w : World) (hg : Gl w) : Calls Tryd.prog 6 #[Sv l] w fun e w' => e = .returned (.bool true) ∧ Below w.heap.size w w' := by
  have HG := Aside0.mk hg
  clear hg
  by_cases hl : 4000 < l.length
  · have d0 : decide ((4000 : Int) < (l.length : Int)) = true := decide_eq_true (by omega)
    clear hl
    go_enter Tryd.func6, Tryd.ntmps6
    go_wp2_with fail
    refine (awake_calls _ HG.out).mono ?_
    rintro e w2 ⟨rfl, hb⟩
    have HB := Aside0.mk hb
    clear hb
    go_wp2
    go_ret
    exact ⟨rfl, HB.out⟩
  · have d0 : decide ((4000 : Int) < (l.length : Int)) = false := decide_eq_false (by omega)
    have HL : Aside0 (l.length ≤ 65536) := ⟨by omega⟩
    clear hl
    go_enter Tryd.func6, Tryd.ntmps6
    go_wp2_with fail
    refine (get_calls l _ HL.out HG.out).mono ?_
    rintro e w2 ⟨xs, v, at_, er, rfl, hgf, hra, hb⟩
    have HF := Aside0.mk hgf
    have HA := Aside0.mk (AK.of_R hra)
    have HB := Aside0.mk hb
    clear hgf hra hb d0
    go_wp2_with fail
    refine (rget_calls l _ HL.out).mono ?_
    rintro e w3 ⟨xs2, v2, at2, er2, rfl, hgf, hra, hb⟩
    have h := HF.out.symm.trans hgf
    injection h with h1 h2
    injection h2 with h2 h3
    subst h1 h2 h3
    have HA2 := Aside0.mk (HA.out.below hb)
    have HA3 := Aside0.mk (AK.of_R hra)
    have HB2 := Aside0.mk (below_step HB.out hb)
    have HAB := Aside0.mk (ab_get HF.out)
    clear hgf hra hb HA HB
    go_wp2_with fail
    refine (rsame_calls v v2 xs xs _ HA2.out HA3.out HAB.out HAB.out).mono ?_
    rintro e w4 ⟨rfl, hb⟩
    have HB3 := Aside0.mk (below_step HB2.out hb)
    have e0 : decide (xs = xs) = true := decide_eq_true rfl
    have q1 : ((at_ : Int) == (at_ : Int)) = true := by simp
    have q2 : ((er : Int) == (er : Int)) = true := by simp
    rw [e0]
    clear hb e0
    go_wp2_with fail
    refine (awake_calls _ (HG.out.below HB3.out)).mono ?_
    rintro e w5 ⟨rfl, hb⟩
    have HB4 := Aside0.mk (below_step HB3.out hb)
    clear hb
    go_wp2
    go_ret
    exact ⟨rfl, HB4.out⟩
theorem gets_str (s : ByteArray) (w : World) (hg : Gl w) : Calls Tryd.prog 6 #[.string s] w fun e w' => e = .returned (.bool true) ∧ Below w.heap.size w w' := by
  have h := gets_calls s.data.toList w hg
  have e : (⟨s.data.toList.toArray⟩ : ByteArray) = s := by cases s; simp
  rw [Sv, e] at h
  exact h
end Go.Proofs.YtagpkphehkfjgaaDoor.Sc
