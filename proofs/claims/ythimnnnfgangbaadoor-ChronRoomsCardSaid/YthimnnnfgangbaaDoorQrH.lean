/- Contracts of the query's line: word, nums, for every input. -/
import Derived.Test.YthimnnnfgangbaaDoorQrG
set_option linter.unusedVariables false
set_option linter.unusedSimpArgs false
namespace Go.Proofs.YthimnnnfgangbaaDoor.Qr
open Go.RowKit Go.Proofs.YthimnnnfgangbaaDoorW.PrintWords Go.Proofs.YthimnnnfgangbaaDoorW.PrintLast Go.Proofs.YthimnnnfgangbaaDoorW.PrintMore

/-- A line at block b, of the text l. -/
def LN (B b : Nat) (l : List UInt8) (w : World) : Prop := Lib.IsBuilder 80 5 B b (Lib.byteCells l) w
/-- A word is put behind a text. -/
def wd (l s : List UInt8) : List UInt8 := if l = [] then s else l ++ 32 :: s
theorem wd_length (l s : List UInt8) : (wd l s).length ≤ l.length + 1 + s.length := by unfold wd; split <;> simp <;> omega
theorem LN.base {B b : Nat} {l : List UInt8} {w : World} (h : LN B b l w) : B ≤ b := by
  rcases h with h | h
  · exact h.1
  · exact h.1
theorem LN.lt {B b : Nat} {l : List UInt8} {w : World} (h : LN B b l w) : b < w.heap.size := by
  rcases h with h | h
  · exact h.lt
  · exact h.lt
theorem at_below {T : TypeId} {B b : Nat} {p : Value} {bs : List Value} {w w' : World} (h : Lib.BuilderAt T 5 B b p bs w) (hb : Below w.heap.size w w') : Lib.BuilderAt T 5 B b p bs w' := by
  obtain ⟨h1, v, h2, h3, h4⟩ := h
  exact ⟨h1, v, blk_below h2 hb, pw_own_below h3 hb, h4⟩
theorem LN.below {B b : Nat} {l : List UInt8} {w w' : World} (h : LN B b l w) (hb : Below w.heap.size w w') : LN B b l w' := by
  rcases h with h | h
  · exact .inl (at_below h hb)
  · exact .inr (at_below h hb)
theorem cells_snoc (l : List UInt8) : Lib.byteCells l ++ [.int .u8 32] = Lib.byteCells (l ++ [32]) := by simp [Lib.byteCells]
theorem cells_app (l s : List UInt8) : Lib.byteCells l ++ Lib.strCells ⟨s.toArray⟩ = Lib.byteCells (l ++ s) := by simp [Lib.byteCells, Lib.strCells_eq]

set_option maxHeartbeats 1600000 in
set_option maxRecDepth 100000 in
theorem word_calls (B b : Nat) (l s : List UInt8) (w : World) (h : LN B b l w) (hB : B ≤ w.heap.size) (hl : l.length + s.length ≤ 1000000000) :
    Calls Tryd.prog 36 #[.pointer (some ⟨b, 0, none⟩), .string ⟨s.toArray⟩] w fun e w' => e = .returned (.tuple #[]) ∧ LN B b (wd l s) w' ∧ Below B w w' ∧ Fr 80 w w' := by
  have H := Aside0.mk h
  have HBB := Aside0.mk hB
  have HL := Aside0.mk hl
  by_cases h0 : l = []
  · subst h0
    have HW : Aside0 (wd [] s = s) := ⟨rfl⟩
    clear h hB hl
    go_enter Tryd.func36, Tryd.ntmps36
    go_wp2_with fail
    refine (len_calls 80 B b (Lib.byteCells []) _ H.out).mono ?_
    rintro e w1 ⟨rfl, rfl⟩
    go_wp2_with fail
    refine (str_calls 80 bt80 B b (Lib.byteCells []) ⟨s.toArray⟩ _ H.out (by have := HL.out; simp [Lib.byteCells, ByteArray.size] at this ⊢; omega) HBB.out).mono ?_
    rintro e w2 ⟨rfl, h2, hb, hf⟩
    have H2 := Aside0.mk h2
    have HB := Aside0.mk hb
    have HF := Aside0.mk hf
    clear h2 hb hf
    go_wp2
    go_end0
    refine ⟨rfl, ?_, HB.out, HF.out⟩
    rw [HW.out]
    have h3 := H2.out
    rw [cells_app, List.nil_append] at h3
    exact .inr h3
  · have HW : Aside0 (wd l s = l ++ [32] ++ s) := ⟨by unfold wd; rw [if_neg h0]; simp⟩
    have hp : ¬ ((Lib.byteCells l).length : Int) ≤ 0 := by
      rw [Lib.byteCells_length]
      have := List.length_pos_iff.2 h0
      omega
    have hp2 : (0 : Int) < ((Lib.byteCells l).length : Int) := by omega
    clear h hB hl h0
    go_enter Tryd.func36, Tryd.ntmps36
    go_wp2_with fail
    refine (len_calls 80 B b (Lib.byteCells l) _ H.out).mono ?_
    rintro e w1 ⟨rfl, rfl⟩
    go_wp2_with fail
    refine (byte_calls 80 bt80 B b (Lib.byteCells l) 32 _ H.out (by have := HL.out; rw [Lib.byteCells_length]; omega) HBB.out).mono ?_
    rintro e w2 ⟨rfl, h2, hb, hf⟩
    rw [cells_snoc] at h2
    have H2 := Aside0.mk h2
    have HB := Aside0.mk hb
    have HF := Aside0.mk hf
    clear h2 hb hf
    go_wp2_with fail
    refine (str_calls 80 bt80 B b (Lib.byteCells (l ++ [32])) ⟨s.toArray⟩ _ (.inr H2.out) (by have := HL.out; rw [Lib.byteCells_length]; simp [ByteArray.size] at this ⊢; omega) (Nat.le_trans HBB.out HB.out.size)).mono ?_
    rintro e w3 ⟨rfl, h3, hb, hf⟩
    rw [cells_app] at h3
    have H3 := Aside0.mk h3
    have HB3 := Aside0.mk (HB.out.trans hb)
    have HF3 := Aside0.mk (HF.out.trans hf)
    clear h3 hb hf
    go_wp2
    go_end0
    exact ⟨rfl, by rw [HW.out]; exact .inr H3.out, HB3.out, HF3.out⟩
/-- Numbers are put behind a text. -/
def nw (l : List UInt8) (ns : List Int) : List UInt8 := ns.foldl (fun l n => wd l (it n)) l
theorem nw_take {ns : List Int} {l : List UInt8} {k : Nat} (hk : k < ns.length) : nw l (ns.take (k + 1)) = wd (nw l (ns.take k)) (it (ns.getD k 0)) := by
  unfold nw
  rw [List.take_succ_eq_append_getElem hk, List.foldl_append]
  simp [List.getD_eq_getElem?_getD, List.getElem?_eq_getElem hk]
/-- Whole numbers of 64 bits. -/
def i64 (n : Int) : Prop := -9223372036854775808 ≤ n ∧ n ≤ 9223372036854775807
theorem nw_length {ns : List Int} (hn : ∀ n ∈ ns, i64 n) (l : List UInt8) : (nw l ns).length ≤ l.length + 22 * ns.length := by
  induction ns generalizing l with
  | nil => simp [nw]
  | cons n ns ih =>
    have h1 := ih (fun m hm => hn m (by simp [hm])) (wd l (it n))
    have h2 := wd_length l (it n)
    have h3 := (it_len (hn n (by simp)).1 (hn n (by simp)).2).2
    show (nw (wd l (it n)) ns).length ≤ _
    simp only [List.length_cons]
    omega
theorem tabVar : Tryd.prog.globalNamed "internal/strconv.uint64pow10" = some 0 := by kernel_rfl
theorem tab_keep {B : Nat} {w w' : World} (h : Tab w) (hb : Below B w w') (hB : 0 < B) : Tab w' := by
  unfold Tab Lib.TabIs World.var? at *
  rw [tabVar] at h ⊢
  simp only [Option.bind_some] at h ⊢
  rw [hb.block 0 hB]
  exact h
theorem tab_pos {w : World} (h : Tab w) : 0 < w.heap.size := by
  unfold Tab Lib.TabIs World.var? at h
  rw [tabVar] at h
  simp only [Option.bind_some] at h
  rcases Nat.eq_zero_or_pos w.heap.size with h0 | h0
  · rw [Array.getElem?_eq_none (by omega)] at h; simp at h
  · exact h0
theorem row_cell {w : World} {g t : Nat} {ns : List Int} (h : w.heap[g]? = some (.cells (ns.map fun n => Value.int .i64 n).toArray t (0, 0))) {k : Nat} (hk : k < ns.length) : w.cell? ⟨g, k, none⟩ = some (.int .i64 (ns.getD k 0)) := by
  rw [blk_cell h k]
  simp [List.getD_eq_getElem?_getD, List.getElem?_eq_getElem hk]
set_option maxHeartbeats 1600000 in
set_option maxRecDepth 100000 in
theorem nums_calls (B b gn : Nat) (l : List UInt8) (ns : List Int) (w : World) (h : LN B b l w) (hB : B ≤ w.heap.size) (ht : Tab w) (htB : 0 < B) (hl : l.length + 22 * ns.length ≤ 100000000) (hn : ∀ n ∈ ns, i64 n)
    (hg : w.heap[gn]? = some (.cells (ns.map fun n => Value.int .i64 n).toArray 3 (0, 0))) (h0 : 0 < ns.length) :
    Calls Tryd.prog 37 #[.pointer (some ⟨b, 0, none⟩), .slice (some ⟨gn, 0, none⟩) ns.length ns.length] w fun e w' => e = .returned (.tuple #[]) ∧ LN B b (nw l ns) w' ∧ Below B w w' ∧ Fr 80 w w' := by
  have H := Aside0.mk h
  have HBB := Aside0.mk hB
  have HL := Aside0.mk hl
  have HN := Aside0.mk hn
  have HG := Aside0.mk hg
  have HT := Aside0.mk ht
  have HTB := Aside0.mk htB
  clear h hB hl hn hg ht htB h0
  go_enter Tryd.func37, Tryd.ntmps37
  go_wp2_with fail
  go_loopw [8] (fun v8 W => ∃ k : Nat, k ≤ ns.length ∧ v8 = .int .i64 k ∧ Aside0 (LN B b (nw l (ns.take k)) W) ∧ Aside0 (Below B w W) ∧ Aside0 (Fr 80 w W)) (fun v8 _ => ns.length - (intOf v8).toNat)
  case atStart => exact ⟨0, Nat.zero_le _, rfl, H, ⟨Below.refl _ _⟩, ⟨Fr.refl _ _⟩⟩
  case round =>
    obtain ⟨k, hk, rfl, HK, HB, HF⟩ := hrel
    by_cases hlt : k < ns.length
    · have hG := HF.out gn _ 3 (by decide) (by decide) HG.out
      have c1 := row_cell hG hlt
      have hi : i64 (ns.getD k 0) := HN.out _ (by rw [List.getD_eq_getElem?_getD, List.getElem?_eq_getElem hlt]; exact List.getElem_mem hlt)
      have HI := Aside0.mk hi
      have HT2 := Aside0.mk (tab_keep HT.out HB.out HTB.out)
      have HLT := Aside0.mk hlt
      have hk5 : (k : Int) ≤ 100000000 := by have := HL.out; omega
      obtain ⟨n, hn⟩ : ∃ n, ns.getD k 0 = n := ⟨_, rfl⟩
      have HNN := Aside0.mk hn
      rw [hn] at c1
      clear hG hi hn
      go_wp2_with fail
      refine (itoa_calls n (HNN.out ▸ HI.out).1 (HNN.out ▸ HI.out).2 _ HT2.out).mono ?_
      rintro e w1 ⟨rfl, hb⟩
      have HB1 := Aside0.mk hb
      clear hb c1
      go_wp2_with fail
      have hlen : (nw l (ns.take k)).length ≤ l.length + 22 * (ns.take k).length := nw_length (fun m hm => HN.out m (List.mem_of_mem_take hm)) l
      have hlen2 : (it n).length ≤ 21 := (it_len (HNN.out ▸ HI.out).1 (HNN.out ▸ HI.out).2).2
      have hlen3 : (ns.take k).length = k := by rw [List.length_take]; omega
      have HS : Aside0 ((nw l (ns.take k)).length + (it n).length ≤ 1000000000) := ⟨by have := HL.out; rw [hlen3] at hlen; omega⟩
      have HLN := Aside0.mk (HK.out.below HB1.out)
      have HSZ : Aside0 (B ≤ w1.heap.size) := ⟨Nat.le_trans HBB.out (Nat.le_trans HB.out.size HB1.out.size)⟩
      clear hlen hlen2 hlen3
      refine (word_calls B b (nw l (ns.take k)) (it n) _ HLN.out HSZ.out HS.out).mono ?_
      rintro e w2 ⟨rfl, h2, hb, hf⟩
      have H2 := Aside0.mk h2
      have HB2 := Aside0.mk ((HB.out.trans (HB1.out.mono (Nat.le_trans HBB.out HB.out.size))).trans hb)
      have HF2 := Aside0.mk ((HF.out.trans (Fr.of_below HB1.out)).trans hf)
      have HW : Aside0 (nw l (ns.take (k + 1)) = wd (nw l (ns.take k)) (it n)) := ⟨by rw [nw_take HLT.out, HNN.out]⟩
      clear h2 hb hf HK HB HF HLN
      go_wp2
      go_roundw
      case rel => exact ⟨k + 1, HLT.out, by go_num, ⟨by rw [HW.out]; exact H2.out⟩, HB2, HF2⟩
      case measure => have := HLT.out; simp [intOf]; omega
    · obtain rfl : k = ns.length := by omega
      go_wp2
      go_end0
      have h3 := HK.out
      rw [List.take_length] at h3
      exact ⟨rfl, h3, HB.out, HF.out⟩
end Go.Proofs.YthimnnnfgangbaaDoor.Qr
