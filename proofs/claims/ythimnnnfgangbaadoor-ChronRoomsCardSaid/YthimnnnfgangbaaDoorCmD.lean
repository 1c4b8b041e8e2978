/- Contract of (*Chron).Text: for every input. Contracts of the reference's There, Since, Of: for every input. Contract of the reference's Text: for every input. -/
import Derived.Test.YthimnnnfgangbaaDoorCmC
import Derived.Lib.Join
import Derived.Test.YthimnnnfgangbaaDoorQrN
set_option linter.unusedVariables false
set_option linter.unusedSimpArgs false
namespace Go.Proofs.YthimnnnfgangbaaDoor.Cn
open Go.Proofs.YthimnnnfgangbaaDoor.Ts (cell_lt R_new)
open Go.RowKit Go.Proofs.YthimnnnfgangbaaDoorW.PrintWords Go.Proofs.YthimnnnfgangbaaDoorW.PrintLast Go.Proofs.YthimnnnfgangbaaDoorW.PrintMore Go.Proofs.YthimnnnfgangbaaDoor.Qr
theorem RE_fr {w w1 : World} {B : Nat} {T : TypeId} {v : Value} {xs : List E} (h : RE w B v xs) (hf : Fr T w w1) (hT : T ≠ 93) : RE w1 B v xs := by
  obtain ⟨h0, inner, ⟨h1, h2⟩, hr⟩ := h
  refine ⟨h0, inner, ⟨h1, ?_⟩, hr.imp_ (fun p c hp => KMM hp)⟩
  rcases h2 with h2 | ⟨g, cap, cur, rfl, hg, hh, r⟩
  · exact .inl h2
  · exact .inr ⟨g, cap, cur, rfl, hg, hf g cur 93 (by decide) (Ne.symm hT) hh, r⟩
set_option maxHeartbeats 1000000 in
set_option maxRecDepth 100000 in
theorem string_empty (T : TypeId) (B b : Nat) (w : World) (h : w.heap[b]? = some (.cells #[.pointer none, .slice none 0 0] T (0, 0))) (hB : B ≤ w.heap.size) :
    Calls Tryd.prog 40 #[.pointer (some ⟨b, 0, none⟩)] w fun e w' => e = .returned (.string ⟨#[]⟩) ∧ Below B w w' := by
  have c1 : w.drew.cell? ⟨b, 1, none⟩ = some (.slice none 0 0) := by
    have : w.drew.heap[b]? = some (.cells #[.pointer none, .slice none 0 0] T (0, 0)) := h
    rw [Lib.cell_of_heap this]; rfl
  have hSD : (Builtin.unsafeSliceData_ #[76] 120 #[.slice none 0 0]).run Tryd.prog w.drew = .ok (.pointer none) w.drew := Lib.run_unsafeSliceData_nil _ _ _ _ _
  have hUS : (Builtin.unsafeString_ #[120, 3] 9 #[.pointer none, .int .i64 0]).run Tryd.prog w.drew = .ok (.string .empty) w.drew := Lib.run_unsafeString_none _ _ _ _ _
  go_enter Tryd.func40, Tryd.ntmps40
  go_wp2
  go_region
  all_goals (go_wp2; go_ret; exact ⟨rfl, Below.drew (Below.refl B w)⟩)
/-- An event's line. -/
def lineE (x : E) : List UInt8 := it x.n.1 ++ [32] ++ it x.a.1 ++ [32] ++ it x.d.1 ++ [32] ++ x.s.data.toList
/-- The text of a row of events. -/
def textL (xs : List E) : List UInt8 := (xs.map fun x => lineE x ++ [10]).flatten
theorem textL_take {xs : List E} {k : Nat} {x : E} (h : xs[k]? = some x) : textL (xs.take (k + 1)) = textL (xs.take k) ++ lineE x ++ [10] := by
  unfold textL
  rw [List.take_add_one, h]
  simp
theorem lineE_len {x : E} (h : x.s.size ≤ 100) : (lineE x).length ≤ 170 := by
  have l1 := (it_len x.n.2.1 x.n.2.2).2
  have l2 := (it_len x.a.2.1 x.a.2.2).2
  have l3 := (it_len x.d.2.1 x.d.2.2).2
  have h' : x.s.data.toList.length ≤ 100 := h
  unfold lineE
  simp only [List.length_append, List.length_cons, List.length_nil]
  omega
theorem textL_len {xs : List E} (h : ∀ x ∈ xs, x.s.size ≤ 100) : (textL xs).length ≤ 171 * xs.length := by
  induction xs with
  | nil => simp [textL]
  | cons x xs ih =>
    have h1 := lineE_len (h x (by simp))
    have h2 := ih fun y hy => h y (List.mem_cons_of_mem _ hy)
    unfold textL at h2 ⊢
    simp only [List.map_cons, List.flatten_cons, List.length_append, List.length_cons, List.length_nil] at h2 ⊢
    omega
theorem join4 (x : E) (hs : x.s.size ≤ 100) (W : World) (gb : Nat) (hb : W.heap[gb]? = some (.cells #[.string ⟨(it x.n.1).toArray⟩, .string ⟨(it x.a.1).toArray⟩, .string ⟨(it x.d.1).toArray⟩, .string x.s] 9 (0, 0))) :
    Calls Tryd.prog 50 #[.slice (some ⟨gb, 0, none⟩) 4 4, .string ⟨#[32]⟩] W fun e w' => e = .returned (.string ⟨(lineE x).toArray⟩) ∧ Below W.heap.size W w' := by
  have hj : Lib.join (([⟨(it x.n.1).toArray⟩, ⟨(it x.a.1).toArray⟩, ⟨(it x.d.1).toArray⟩, x.s] : List ByteArray).map (·.data.toList)) [32] = lineE x := by
    simp [Lib.join, lineE]
  have h := Tryd.strings_Join gb 0 4 [⟨(it x.n.1).toArray⟩, ⟨(it x.a.1).toArray⟩, ⟨(it x.d.1).toArray⟩, x.s] ⟨#[32]⟩ W (fun j y hy => by
    rw [Nat.zero_add, blk_cell hb]
    match j, hy with
    | 0, hy => simp at hy; subst hy; rfl
    | 1, hy => simp at hy; subst hy; rfl
    | 2, hy => simp at hy; subst hy; rfl
    | 3, hy => simp at hy; subst hy; rfl) (blk_lt hb) (by show 4 ≤ _; omega) (Nat.le_refl 4) (by
    have := lineE_len hs
    show (Lib.join _ [32]).length ≤ _
    rw [hj]
    omega)
  have h2 : Lib.join (([⟨(it x.n.1).toArray⟩, ⟨(it x.a.1).toArray⟩, ⟨(it x.d.1).toArray⟩, x.s] : List ByteArray).map (·.data.toList)) (ByteArray.mk #[32]).data.toList = lineE x := hj
  rw [h2] at h
  exact h
/-- A builder in block b that holds a text. -/
def BL (B b : Nat) (l : List UInt8) (W : World) : Prop := B ≤ b ∧ ((l = [] ∧ W.heap[b]? = some (.cells #[.pointer none, .slice none 0 0] 78 (0, 0))) ∨ (l ≠ [] ∧ Lib.BuilderAt 78 5 B b (.pointer (some ⟨b, 0, none⟩)) (Lib.byteCells l) W))
theorem BL.is {B b : Nat} {l : List UInt8} {W : World} (h : BL B b l W) : Lib.IsBuilder 78 5 B b (Lib.byteCells l) W := by
  obtain ⟨hB, ⟨rfl, hb⟩ | ⟨_, h⟩⟩ := h
  · exact .inl ⟨hB, _, hb, ⟨rfl, .inl ⟨rfl, rfl⟩⟩, by simp [Value.ownBlock]⟩
  · exact .inr h
theorem BL.below {B b : Nat} {l : List UInt8} {w w' : World} (h : BL B b l w) (hb : Below w.heap.size w w') : BL B b l w' := by
  obtain ⟨hB, ⟨h0, h⟩ | ⟨h0, h⟩⟩ := h
  · exact ⟨hB, .inl ⟨h0, blk_below h hb⟩⟩
  · exact ⟨hB, .inr ⟨h0, at_below h hb⟩⟩
theorem BL.string {B b : Nat} {l : List UInt8} {W : World} (h : BL B b l W) (hB : B ≤ W.heap.size) : Calls Tryd.prog 40 #[.pointer (some ⟨b, 0, none⟩)] W fun e w' => e = .returned (.string ⟨l.toArray⟩) ∧ Below B W w' := by
  have h2 := h.is
  obtain ⟨_, ⟨rfl, hb⟩ | ⟨h0, h⟩⟩ := h
  · exact string_empty 78 B b W hb hB
  · exact string_calls 78 B b l W h2 h0
theorem itoa_at {W : World} {p : Prop} (n : Int) (hn : Aside0 (i64 n)) (h : p ∧ Aside0 (Tab W)) : Calls Tryd.prog 51 #[.int .i64 n] W fun e w' => e = .returned (.string ⟨(it n).toArray⟩) ∧ Below W.heap.size W w' := itoa_calls n hn.out.1 hn.out.2 W h.2.out
theorem keep4 {W W' : World} {a0 a1 a2 a3 : Addr} {v0 v1 v2 v3 : Value} (h : (W.cell? a0 = some v0 ∧ W.cell? a1 = some v1 ∧ W.cell? a2 = some v2 ∧ W.cell? a3 = some v3) ∧ Aside0 (Tab W)) (hb : Below W.heap.size W W') : (W'.cell? a0 = some v0 ∧ W'.cell? a1 = some v1 ∧ W'.cell? a2 = some v2 ∧ W'.cell? a3 = some v3) ∧ Aside0 (Tab W') :=
  ⟨⟨pw_cell_below hb h.1.1, pw_cell_below hb h.1.2.1, pw_cell_below hb h.1.2.2.1, pw_cell_below hb h.1.2.2.2⟩, ⟨tab_below h.2.out hb⟩⟩
theorem cells_ten (l : List UInt8) : Lib.byteCells l ++ [.int .u8 10] = Lib.byteCells (l ++ [10]) := by simp [Lib.byteCells]
theorem tellE {b gx : Nat} {v : Value} {xs : List E} {l : List UInt8} {x : E} {w w3 : World} (w7 : World) (hR : RE w3 b v xs) (hL : BL b b l w3) (hB : Below b w w3) (hG : w3.heap[gx]? = some (.cells #[.int .i64 x.n.1, .int .i64 x.a.1, .int .i64 x.d.1, .string x.s] 93 (0, 0))) (hT : ∀ W, Below b w W → Tab W) (hw : ∀ W, Below b w W → b ≤ W.heap.size) (hl : l.length ≤ 1000000) (hx : x.s.size ≤ 100) (hBa : Below w3.heap.size w3 w7) :
    Calls Tryd.prog 49 #[.pointer (some ⟨b, 0, none⟩), .string ⟨(lineE x).toArray⟩] w7 fun e w' => ∃ n, e = .returned (.tuple #[n, .nilIface]) ∧ ((w'.cell? ⟨gx, 0, none⟩ = some (.int .i64 x.n.1) ∧ w'.cell? ⟨gx, 1, none⟩ = some (.int .i64 x.a.1) ∧ w'.cell? ⟨gx, 2, none⟩ = some (.int .i64 x.d.1) ∧ w'.cell? ⟨gx, 3, none⟩ = some (.string x.s)) ∧ Aside0 (Tab w')) ∧ Aside0 (RE w' b v xs ∧ BL b b (l ++ lineE x) w' ∧ Below b w w') := by
  have h7 : Below b w w7 := hB.trans (hBa.mono (hw _ hB))
  refine (str_calls 78 bt78 b b (Lib.byteCells l) ⟨(lineE x).toArray⟩ w7 (hL.below hBa).is (by
    have := lineE_len hx
    rw [Lib.byteCells_length]
    show l.length + (lineE x).toArray.size ≤ _
    rw [List.size_toArray]
    omega) (hw _ h7)).mono ?_
  rintro e w' ⟨rfl, hat, hb, hf⟩
  have h8 : Below b w w' := h7.trans hb
  have hg := hf gx _ 93 (by decide) (by decide) (blk_below hG hBa)
  rw [cells_app] at hat
  refine ⟨_, rfl, ⟨⟨?_, ?_, ?_, ?_⟩, ⟨hT _ h8⟩⟩, ⟨RE_fr (Kd.R_below hR hBa) hf (by decide), ⟨Nat.le_refl _, .inr ⟨by simp [lineE], hat⟩⟩, h8⟩⟩
  · rw [blk_cell hg]; rfl
  · rw [blk_cell hg]; rfl
  · rw [blk_cell hg]; rfl
  · rw [blk_cell hg]; rfl
set_option maxHeartbeats 6400000 in
set_option maxRecDepth 100000 in
theorem text_calls (B g : Nat) (v : Value) (ring : List E) (room many last : Int) (k : Nat) (w : World) (h : CH B w g v ring room (k : Int) many last) (hk : k ≤ ring.length) (hl : ring.length ≤ 1000) (hs : ∀ x ∈ ring, x.s.size ≤ 100) (ht : Tab w) :
    Calls Tryd.prog 29 #[.pointer (some ⟨g, 0, none⟩)] w fun e w' => e = .returned (.string ⟨(textL (ring.drop k ++ ring.take k)).toArray⟩) ∧ Below w.heap.size w w' := by
  have H := Aside0.mk h
  have HK := Aside0.mk hk
  have HL := Aside0.mk hl
  have HS := Aside0.mk hs
  have HT := Aside0.mk ht
  clear h hk hl hs ht
  go_enter Tryd.func29, Tryd.ntmps29
  go_upto_region 2 with (fail)
  obtain ⟨b, hb⟩ : ∃ b, w.heap.size = b := ⟨_, rfl⟩
  refine wp_world (fun W => Aside0 (CH B W g v ring room (k : Int) many last) ∧ Aside0 (BL b b [] W) ∧ Aside0 (Below b w W)) ⟨⟨H.out.below (below_alloc (Below.refl _ _) _)⟩, ⟨Nat.le_refl _, .inl ⟨rfl, by rw [← hb]; exact blk_new w _⟩⟩, ⟨by rw [← hb]; exact below_alloc (Below.refl _ _) _⟩⟩ ?_
  have HTB : Aside0 (∀ W, Below b w W → Tab W) := ⟨fun W hW => tab_below HT.out (by rw [hb]; exact hW)⟩
  have HBW : Aside0 (∀ W, Below b w W → b ≤ W.heap.size) := ⟨fun W hW => by rw [← hb]; exact hW.size⟩
  have HBE := Aside0.mk hb
  rw [hb]
  clear H
  rintro w1 ⟨H, HLN, HB⟩
  go_wp2_with fail
  refine (all_calls B g v ring room many last k w1 H.out HK.out HL.out).mono ?_
  obtain ⟨xs, hxs⟩ : ∃ xs, ring.drop k ++ ring.take k = xs := ⟨_, rfl⟩
  have HXL : Aside0 (xs.length ≤ 1000) := ⟨by rw [← hxs, List.length_append, List.length_drop, List.length_take]; have := HL.out; omega⟩
  have HXS : Aside0 (∀ x ∈ xs, x.s.size ≤ 100) := ⟨fun x hx => by
    rw [← hxs] at hx
    rcases List.mem_append.1 hx with hx | hx
    · exact HS.out x (List.mem_of_mem_drop hx)
    · exact HS.out x (List.mem_of_mem_take hx)⟩
  have HXE := Aside0.mk hxs
  rw [hxs]
  clear hxs
  rintro e w2 ⟨v', rfl, hR, hb2⟩
  have HR := Aside0.mk (Kd.R_lower hR (base' := b) (HBW.out _ HB.out))
  have HLN2 := Aside0.mk (HLN.out.below hb2)
  have HB2 : Aside0 (Below b w w2) := ⟨HB.out.trans (hb2.mono (HBW.out _ HB.out))⟩
  obtain ⟨A, c, rfl, _, _⟩ := Kd.R_reads hR
  clear hR hb2 H HLN HB HS HK HL HT
  go_wp2_with fail
  go_loopw [9] (fun v9 W => ∃ k : Nat, k ≤ xs.length ∧ v9 = .int .i64 k ∧ Aside0 (RE W b (.slice A xs.length c) xs) ∧ Aside0 (BL b b (textL (xs.take k)) W) ∧ Aside0 (Below b w W)) (fun v9 _ => xs.length - (intOf v9).toNat)
  case atStart => exact ⟨0, Nat.zero_le _, rfl, HR, HLN2, HB2⟩
  case round =>
    clear HR HLN2 HB2
    obtain ⟨k, hk, rfl, HR, HLN, HB⟩ := hrel
    by_cases hlt : k < xs.length
    · obtain ⟨A2, c2, hv2, _, hC⟩ := Kd.R_reads HR.out
      obtain ⟨rfl, rfl⟩ : A = A2 ∧ c = c2 := by injection hv2 with h1 _ h2; exact ⟨h1, h2⟩
      obtain ⟨ad, x, rfl, hx, b0, b1, b2, b3⟩ := atE hC hlt
      have HX := Aside0.mk hx
      have HLT := Aside0.mk hlt
      have hk5 : (k : Int) ≤ 1000 := by have := HXL.out; omega
      clear hC hv2 hx
      go_upto_region 5 with (fail)
      obtain ⟨gx, hgx⟩ : ∃ gx, wr.heap.size = gx := ⟨_, rfl⟩
      refine wp_world (fun W => Aside0 (RE W b (.slice (some ad) xs.length c) xs) ∧ Aside0 (BL b b (textL (xs.take k)) W) ∧ Aside0 (Below b w W) ∧ Aside0 (W.heap[gx]? = some (.cells #[.int .i64 x.n.1, .int .i64 x.a.1, .int .i64 x.d.1, .string x.s] 93 (0, 0)))) ⟨⟨Kd.R_below HR.out (below_alloc (Below.refl _ _) _)⟩, ⟨HLN.out.below (below_alloc (Below.refl _ _) _)⟩, ⟨HB.out.trans ((below_alloc (Below.refl _ _) _).mono (HBW.out _ HB.out))⟩, ⟨by rw [← hgx]; exact blk_new wr _⟩⟩ ?_
      rw [hgx]
      clear HR HLN HB b0 b1 b2 b3 hgx
      rintro w3 ⟨HR, HLN, HB, HG⟩
      have e0 := blk_cell HG.out 0
      have e1 := blk_cell HG.out 1
      have e2 := blk_cell HG.out 2
      have e3 := blk_cell HG.out 3
      simp at e0 e1 e2 e3
      have HT3 : Aside0 (Tab w3) := ⟨HTB.out _ HB.out⟩
      have HIN : Aside0 (i64 x.n.1) := ⟨x.n.2⟩
      have HIA : Aside0 (i64 x.a.1) := ⟨x.a.2⟩
      have HID : Aside0 (i64 x.d.1) := ⟨x.d.2⟩
      have HXX : Aside0 (x.s.size ≤ 100) := ⟨HXS.out x (List.mem_of_getElem? HX.out)⟩
      have HBa : Aside0 (Below w3.heap.size w3 w3) := ⟨Below.refl _ _⟩
      have HLEN : Aside0 ((textL (xs.take k)).length ≤ 1000000) := ⟨by
        have := textL_len (xs := xs.take k) (fun y hy => HXS.out y (List.mem_of_mem_take hy))
        have := HXL.out
        rw [List.length_take] at *
        omega⟩
      go_region_held3 (fun W => (W.cell? ⟨gx, 0, none⟩ = some (.int .i64 x.n.1) ∧ W.cell? ⟨gx, 1, none⟩ = some (.int .i64 x.a.1) ∧ W.cell? ⟨gx, 2, none⟩ = some (.int .i64 x.d.1) ∧ W.cell? ⟨gx, 3, none⟩ = some (.string x.s)) ∧ Aside0 (Tab W))
        ((first | (with_reducible assumption) | exact ⟨⟨e0, e1, e2, e3⟩, HT3⟩ | exact keep4 ⟨⟨e0, e1, e2, e3⟩, HT3⟩ (below_drew (Below.refl _ _)) | exact keep4 (by with_reducible assumption) (below_alloc (Below.refl _ _) _) | exact keep4 (by with_reducible assumption) (below_drew (Below.refl _ _)) | exact keep4 (by with_reducible assumption) (below_alloc (below_drew (Below.refl _ _)) _) | exact keep4 (by with_reducible assumption) (below_drew (below_alloc (Below.refl _ _) _))))
        (first
          | (go_at_call 51; (with_reducible refine (itoa_at x.n.1 HIN (by with_reducible assumption)).mono ?_); rintro e w6 ⟨rfl, hb⟩; have hS' := keep4 (by with_reducible assumption) hb; have HBb := HBa; clear HBa; have HBa := Aside0.mk (below_step (by first | exact HBb.out | exact below_drew HBb.out) hb); clear hb HBb)
          | (go_at_call 51; (with_reducible refine (itoa_at x.a.1 HIA (by with_reducible assumption)).mono ?_); rintro e w6 ⟨rfl, hb⟩; have hS' := keep4 (by with_reducible assumption) hb; have HBb := HBa; clear HBa; have HBa := Aside0.mk (below_step (by first | exact HBb.out | exact below_drew HBb.out) hb); clear hb HBb)
          | (go_at_call 51; (with_reducible refine (itoa_at x.d.1 HID (by with_reducible assumption)).mono ?_); rintro e w6 ⟨rfl, hb⟩; have hS' := keep4 (by with_reducible assumption) hb; have HBb := HBa; clear HBa; have HBa := Aside0.mk (below_step (by first | exact HBb.out | exact below_drew HBb.out) hb); clear hb HBb)
          | (go_at_call 50; (with_reducible refine (join4 x HXX.out _ _ (by first | exact blk_new _ _ | exact blk_drew (blk_new _ _))).mono ?_); rintro e w6 ⟨rfl, hb⟩; have hS' := keep4 (by with_reducible assumption) hb; have HBb := HBa; clear HBa; have HBa := Aside0.mk (below_step (by first | exact below_alloc HBb.out _ | exact below_drew (below_alloc HBb.out _) | exact below_alloc (below_drew HBb.out) _) hb); clear hb HBb)
          | (go_at_call 49; (with_reducible refine (tellE _ HR.out HLN.out HB.out HG.out HTB.out HBW.out HLEN.out HXX.out HBa.out).mono ?_); rintro e w6 ⟨n6, rfl, hS', HF⟩))
      clear hS' e0 e1 e2 e3 HT3 HBa HR HLN HB HG HIN HIA HID
      go_wp2_with fail
      refine (byte_calls 78 bt78 b b (Lib.byteCells (textL (xs.take k) ++ lineE x)) 10 _ HF.out.2.1.is (by
        have := lineE_len HXX.out
        have := HLEN.out
        rw [Lib.byteCells_length, List.length_append]
        omega) (HBW.out _ HF.out.2.2)).mono ?_
      rintro e w9 ⟨rfl, hat, hb, hf⟩
      rw [cells_ten] at hat
      have HR9 : Aside0 (RE w9 b (.slice (some ad) xs.length c) xs) := ⟨RE_fr HF.out.1 hf (by decide)⟩
      have HB9 : Aside0 (Below b w w9) := ⟨HF.out.2.2.trans hb⟩
      have HL9 : Aside0 (BL b b (textL (xs.take (k + 1))) w9) := ⟨by
        rw [textL_take HX.out]
        exact ⟨Nat.le_refl _, .inr ⟨by simp, hat⟩⟩⟩
      clear hat hb hf HF
      go_wp2
      go_roundw
      case rel => exact ⟨k + 1, HLT.out, by go_num, HR9, HL9, HB9⟩
      case measure => have := HLT.out; simp [intOf]; omega
    · obtain rfl : k = xs.length := by omega
      have HLL : Aside0 (BL b b (textL xs) wr) := ⟨by have := HLN.out; rw [List.take_length] at this; exact this⟩
      clear HLN
      go_wp2_with fail
      refine (HLL.out.string (HBW.out _ HB.out)).mono ?_
      rintro e w9 ⟨rfl, hb⟩
      have HB9 : Aside0 (Below b w w9) := ⟨HB.out.trans hb⟩
      clear hb
      go_wp2
      go_ret
      exact ⟨by rw [HXE.out]; rfl, by rw [HBE.out]; exact HB9.out⟩
theorem text_nil (w : World) : Calls Tryd.prog 29 #[.pointer none] w fun e w' => e = .returned (.string ⟨#[]⟩) ∧ Below w.heap.size w w' := by
  go_enter Tryd.func29, Tryd.ntmps29
  go_upto_region 2 with (fail)
  obtain ⟨b, hb⟩ : ∃ b, w.heap.size = b := ⟨_, rfl⟩
  refine wp_world (fun W => Aside0 (BL b b [] W) ∧ Aside0 (Below b w W)) ⟨⟨Nat.le_refl _, .inl ⟨rfl, by rw [← hb]; exact blk_new w _⟩⟩, ⟨by rw [← hb]; exact below_alloc (Below.refl _ _) _⟩⟩ ?_
  have HBW : Aside0 (∀ W, Below b w W → b ≤ W.heap.size) := ⟨fun W hW => by rw [← hb]; exact hW.size⟩
  have HBE := Aside0.mk hb
  rw [hb]
  rintro w1 ⟨HLN, HB⟩
  go_wp2_with fail
  refine (all_nil w1).mono ?_
  rintro e w2 ⟨rfl, rfl⟩
  go_wp2_with fail
  go_loopw [9] (fun v9 W => v9 = .int .i64 0 ∧ Aside0 (BL b b [] W) ∧ Aside0 (Below b w W)) (fun v9 _ => 0)
  case atStart => exact ⟨rfl, HLN, HB⟩
  case round =>
    clear HLN HB
    obtain ⟨rfl, HLN, HB⟩ := hrel
    go_wp2_with fail
    refine (HLN.out.string (HBW.out _ HB.out)).mono ?_
    rintro e w9 ⟨rfl, hb⟩
    have HB9 : Aside0 (Below b w w9) := ⟨HB.out.trans hb⟩
    clear hb
    go_wp2
    go_ret
    exact ⟨rfl, by rw [HBE.out]; exact HB9.out⟩
end Go.Proofs.YthimnnnfgangbaaDoor.Cn

namespace Go.Proofs.YthimnnnfgangbaaDoor.Cn
open Go.Proofs.YthimnnnfgangbaaDoor.Ts (cell_lt)
open Go.RowKit Go.Proofs.YthimnnnfgangbaaDoorW.PrintWords Go.Proofs.YthimnnnfgangbaaDoorW.PrintLast Go.Proofs.YthimnnnfgangbaaDoorW.PrintMore Go.Proofs.YthimnnnfgangbaaDoor.Qr
/-- The ones that are there, with so much room. -/
def thereL (xs : List E) (r : Int) : List E := if r < (xs.length : Int) then xs.drop ((xs.length : Int) - r).toNat else xs
set_option maxHeartbeats 1600000 in
theorem there_calls (A : Option Addr) (c : Nat) (xs : List E) (r : Int) (w : World) (hC : Kd.C kE w A xs.length xs) (hc : xs.length ≤ c) (hr : 0 ≤ r) (hl : xs.length ≤ 1000) :
    Calls Tryd.prog 21 #[.slice A xs.length c, .int .i64 r] w fun e w' => w = w' ∧ ∃ A2 c2, e = .returned (.slice A2 (thereL xs r).length c2) ∧ Kd.C kE w A2 (thereL xs r).length (thereL xs r) ∧ (thereL xs r).length ≤ c2 := by
  have HC := Aside0.mk hC
  have HCC := Aside0.mk hc
  by_cases h : r < (xs.length : Int)
  · obtain ⟨m, hm⟩ : ∃ m : Nat, ((xs.length : Int) - r).toNat = m := ⟨_, rfl⟩
    have HD : Aside0 (thereL xs r = xs.drop m) := ⟨by unfold thereL; rw [if_pos h, hm]⟩
    have hmm : (xs.length : Int) - r = (m : Int) := by omega
    have hml : m ≤ xs.length := by omega
    have HML := Aside0.mk hml
    have j1 := fun W => cut_tl A xs.length c m hml W
    rw [← hmm] at j1
    have jw : wrap64 ((xs.length : Int) - r) = (xs.length : Int) - r := by rw [hmm]; exact wrN m (by omega)
    clear hC hc hm hmm hml hl hr
    go_enter Tryd.func21, Tryd.ntmps21
    go_wp2
    go_ret
    have hld : (xs.drop m).length = xs.length - m := List.length_drop
    refine ⟨rfl, tlA A c m, c - m, ?_, ?_, ?_⟩
    · rw [HD.out, hld]; rfl
    · rw [HD.out]; exact C_tl HC.out HML.out HCC.out
    · rw [HD.out, hld]; have := HCC.out; omega
  · have HD : Aside0 (thereL xs r = xs) := ⟨by unfold thereL; rw [if_neg h]⟩
    clear hC hc hl hr
    go_enter Tryd.func21, Tryd.ntmps21
    go_wp2
    go_ret
    refine ⟨rfl, A, c, ?_, ?_, ?_⟩
    · rw [HD.out]; rfl
    · rw [HD.out]; exact HC.out
    · rw [HD.out]; exact HCC.out
theorem RE_none (W : World) (base : Nat) (hb : base ≤ W.heap.size) : RE (W.alloc (.cells #[] 93)) base (.slice (some ⟨W.heap.size, 0, none⟩) 0 0) [] := by
  refine ⟨fun _ _ => trivial, [], ?_, ?_⟩
  · have h2 := World.ownsRow_lit (base := base) (e := 93) (size := 4) W #[] 0 hb (by unfold maxLen; omega) (by simp)
    simpa [kE_sz] using h2
  · exact ⟨rfl, fun j p hp => by simp at hp⟩
set_option maxHeartbeats 3200000 in
set_option maxRecDepth 100000 in
theorem refSince_calls (A : Option Addr) (c : Nat) (xs : List E) (n : Int) (w : World) (hC : Kd.C kE w A xs.length xs) (hl : xs.length ≤ 1000) :
    Calls Tryd.prog 23 #[.slice A xs.length c, .int .i64 n] w fun e w' => ∃ v', e = .returned v' ∧ RE w' w.heap.size v' (sinceL xs n) ∧ Below w.heap.size w w' := by
  have HC := Aside0.mk hC
  have HL := Aside0.mk hl
  clear hC hl
  go_enter Tryd.func23, Tryd.ntmps23
  go_upto_region 2 with (fail)
  refine wp_world (fun W => Aside0 (RE W w.heap.size (.slice (some ⟨w.heap.size, 0, none⟩) 0 0) []) ∧ Aside0 (Below w.heap.size w W)) ⟨⟨RE_none w _ (Nat.le_refl _)⟩, ⟨below_alloc (Below.refl _ _) _⟩⟩ ?_
  obtain ⟨v0, hv0⟩ : ∃ v, Value.slice (some ⟨w.heap.size, 0, none⟩) 0 0 = v := ⟨_, rfl⟩
  rw [hv0]
  clear hv0
  rintro w1 ⟨HR, HB⟩
  go_wp2_with fail
  go_loopw [6, 5] (fun v6 v5 W => ∃ k : Nat, k ≤ xs.length ∧ v6 = .int .i64 k ∧ Aside0 (RE W w.heap.size v5 (sinceL (xs.take k) n)) ∧ Aside0 (Below w.heap.size w W)) (fun v6 _ _ => xs.length - (intOf v6).toNat)
  case atStart => exact ⟨0, Nat.zero_le _, rfl, HR, HB⟩
  case round =>
    clear HR HB
    obtain ⟨k, hk, rfl, HR, HB⟩ := hrel
    by_cases hlt : k < xs.length
    · obtain ⟨ad, x, rfl, hx, b0, b1, b2, b3⟩ := atE HC.out hlt
      have p0 := pw_cell_below HB.out b0
      have p1 := pw_cell_below HB.out b1
      have p2 := pw_cell_below HB.out b2
      have p3 := pw_cell_below HB.out b3
      have HX := Aside0.mk hx
      have HLT := Aside0.mk hlt
      have hk5 : (k : Int) ≤ 1000 := by have := HL.out; omega
      clear b0 b1 b2 b3 hx
      by_cases hp : x.n.1 ≤ n
      · have hp2 : ¬ n < x.n.1 := by omega
        have HR2 : Aside0 (RE wr w.heap.size u5 (sinceL (xs.take (k + 1)) n)) := ⟨by
          rw [List.take_add_one, HX.out]
          show RE _ _ _ (stay _ (xs.take k ++ [x]))
          rw [stay_snoc, if_pos (decide_eq_true hp), List.append_nil]
          exact HR.out⟩
        clear HR hp
        go_wp2
        go_roundw
        case rel => exact ⟨k + 1, HLT.out, by go_num, HR2, HB⟩
        case measure => have := HLT.out; simp [intOf]; omega
      · have hp2 : n < x.n.1 := by omega
        have HNX : Aside0 (sinceL (xs.take (k + 1)) n = sinceL (xs.take k) n ++ [x]) := ⟨by
          rw [List.take_add_one, HX.out]
          show stay _ (xs.take k ++ [x]) = _
          rw [stay_snoc, if_neg (by simpa using hp)]
          rfl⟩
        have HLL : Aside0 (((sinceL (xs.take k) n).length + 1) * 40 ≤ 140737488355328) := ⟨by
          have h1 := stay_len (fun x => decide (x.n.1 ≤ n)) (xs.take k)
          have h2 := List.length_take (i := k) (l := xs)
          have := HL.out
          unfold sinceL
          omega⟩
        obtain ⟨ys, hys⟩ : ∃ ys, sinceL (xs.take k) n = ys := ⟨_, rfl⟩
        rw [hys] at HR HNX HLL
        clear hp hys
        go_wp2_with ((with_reducible refine gate_builtin (b := .append) (xs := #[.tmp 21, .tmp 26]) rfl ?_); at_builtin; refine Kd.R_append kE (w0 := w) w.heap.size rfl (.tmp 21) (.tmp 26) 49 93 zV 40 rfl Tryd.underlying49 info93 rfl (by decide) (by omega) u5 ys x (cE x) (fun _ => True) (fun _ => False) rfl rfl (kE_mkM _ _ _ x) (fun _ hk => hk.elim) (fun _ _ => trivial) HR.out HB.out HB.out.size HLL.out ?_; intro v1 w2 hN hb hg hat)
        have HR2 : Aside0 (RE w2 w.heap.size v1 (sinceL (xs.take (k + 1)) n)) := ⟨by rw [HNX.out]; exact hN⟩
        have HB2 := Aside0.mk hb
        clear hN hb hg hat HR HB HLL
        go_wp2
        go_roundw
        case rel => exact ⟨k + 1, HLT.out, by go_num, HR2, HB2⟩
        case measure => have := HLT.out; simp [intOf]; omega
    · obtain rfl : k = xs.length := by omega
      have HAA : Aside0 (RE wr w.heap.size u5 (sinceL xs n)) := ⟨by have := HR.out; rw [List.take_length] at this; exact this⟩
      clear HR
      go_wp2
      go_ret
      exact ⟨u5, rfl, HAA.out, HB.out⟩
set_option maxHeartbeats 3200000 in
set_option maxRecDepth 100000 in
theorem refOf_calls (A : Option Addr) (c : Nat) (xs : List E) (n : Int) (w : World) (hC : Kd.C kE w A xs.length xs) (hl : xs.length ≤ 1000) :
    Calls Tryd.prog 27 #[.slice A xs.length c, .int .i64 n] w fun e w' => ∃ v', e = .returned v' ∧ RE w' w.heap.size v' (ofL xs n) ∧ Below w.heap.size w w' := by
  have HC := Aside0.mk hC
  have HL := Aside0.mk hl
  clear hC hl
  go_enter Tryd.func27, Tryd.ntmps27
  go_upto_region 2 with (fail)
  refine wp_world (fun W => Aside0 (RE W w.heap.size (.slice (some ⟨w.heap.size, 0, none⟩) 0 0) []) ∧ Aside0 (Below w.heap.size w W)) ⟨⟨RE_none w _ (Nat.le_refl _)⟩, ⟨below_alloc (Below.refl _ _) _⟩⟩ ?_
  obtain ⟨v0, hv0⟩ : ∃ v, Value.slice (some ⟨w.heap.size, 0, none⟩) 0 0 = v := ⟨_, rfl⟩
  rw [hv0]
  clear hv0
  rintro w1 ⟨HR, HB⟩
  go_wp2_with fail
  go_loopw [6, 5] (fun v6 v5 W => ∃ k : Nat, k ≤ xs.length ∧ v6 = .int .i64 k ∧ Aside0 (RE W w.heap.size v5 (ofL (xs.take k) n)) ∧ Aside0 (Below w.heap.size w W)) (fun v6 _ _ => xs.length - (intOf v6).toNat)
  case atStart => exact ⟨0, Nat.zero_le _, rfl, HR, HB⟩
  case round =>
    clear HR HB
    obtain ⟨k, hk, rfl, HR, HB⟩ := hrel
    by_cases hlt : k < xs.length
    · obtain ⟨ad, x, rfl, hx, b0, b1, b2, b3⟩ := atE HC.out hlt
      have p0 := pw_cell_below HB.out b0
      have p1 := pw_cell_below HB.out b1
      have p2 := pw_cell_below HB.out b2
      have p3 := pw_cell_below HB.out b3
      have HX := Aside0.mk hx
      have HLT := Aside0.mk hlt
      have hk5 : (k : Int) ≤ 1000 := by have := HL.out; omega
      clear b0 b1 b2 b3 hx
      by_cases hp : x.d.1 = n
      · have HNX : Aside0 (ofL (xs.take (k + 1)) n = ofL (xs.take k) n ++ [x]) := ⟨by
          rw [List.take_add_one, HX.out]
          show stay _ (xs.take k ++ [x]) = _
          rw [stay_snoc, if_neg (by simpa using hp)]
          rfl⟩
        have HLL : Aside0 (((ofL (xs.take k) n).length + 1) * 40 ≤ 140737488355328) := ⟨by
          have h1 := stay_len (fun x => x.d.1 != n) (xs.take k)
          have h2 := List.length_take (i := k) (l := xs)
          have := HL.out
          unfold ofL
          omega⟩
        obtain ⟨ys, hys⟩ : ∃ ys, ofL (xs.take k) n = ys := ⟨_, rfl⟩
        rw [hys] at HR HNX HLL
        clear hys
        have hpb : (x.d.1 == n) = true := by simpa using hp
        clear hp
        go_wp2_with ((with_reducible refine gate_builtin (b := .append) (xs := #[.tmp 21, .tmp 26]) rfl ?_); at_builtin; refine Kd.R_append kE (w0 := w) w.heap.size rfl (.tmp 21) (.tmp 26) 49 93 zV 40 rfl Tryd.underlying49 info93 rfl (by decide) (by omega) u5 ys x (cE x) (fun _ => True) (fun _ => False) rfl rfl (kE_mkM _ _ _ x) (fun _ hk => hk.elim) (fun _ _ => trivial) HR.out HB.out HB.out.size HLL.out ?_; intro v1 w2 hN hb hg hat)
        have HR2 : Aside0 (RE w2 w.heap.size v1 (ofL (xs.take (k + 1)) n)) := ⟨by rw [HNX.out]; exact hN⟩
        have HB2 := Aside0.mk hb
        clear hN hb hg hat HR HB HLL
        go_wp2
        go_roundw
        case rel => exact ⟨k + 1, HLT.out, by go_num, HR2, HB2⟩
        case measure => have := HLT.out; simp [intOf]; omega
      · have HR2 : Aside0 (RE wr w.heap.size u5 (ofL (xs.take (k + 1)) n)) := ⟨by
          rw [List.take_add_one, HX.out]
          show RE _ _ _ (stay _ (xs.take k ++ [x]))
          rw [stay_snoc, if_pos (by simpa using hp), List.append_nil]
          exact HR.out⟩
        have hpb : (x.d.1 == n) = false := by simpa using hp
        clear HR hp
        go_wp2
        go_roundw
        case rel => exact ⟨k + 1, HLT.out, by go_num, HR2, HB⟩
        case measure => have := HLT.out; simp [intOf]; omega
    · obtain rfl : k = xs.length := by omega
      have HAA : Aside0 (RE wr w.heap.size u5 (ofL xs n)) := ⟨by have := HR.out; rw [List.take_length] at this; exact this⟩
      clear HR
      go_wp2
      go_ret
      exact ⟨u5, rfl, HAA.out, HB.out⟩
attribute [local go_sem high] eqA93
theorem same_lt {xs ys : List E} {k : Nat} {x y : E} (hx : xs[k]? = some x) (hy : ys[k]? = some y) (h : xs.take k = ys.take k) (hxy : x = y) : xs.take (k + 1) = ys.take (k + 1) := by
  rw [List.take_add_one, List.take_add_one, hx, hy, h, hxy]
set_option maxHeartbeats 3200000 in
set_option maxRecDepth 100000 in
theorem same_calls (A A2 : Option Addr) (c c2 : Nat) (xs ys : List E) (w : World) (hx : Kd.C kE w A xs.length xs) (hy : Kd.C kE w A2 ys.length ys) (hl : xs.length ≤ 1000) (hl2 : ys.length ≤ 1000) :
    Calls Tryd.prog 24 #[.slice A xs.length c, .slice A2 ys.length c2] w fun e w' => ∃ r, e = .returned (.bool r) ∧ (r = true ↔ xs = ys) ∧ Below w.heap.size w w' := by
  have HX := Aside0.mk hx
  have HY := Aside0.mk hy
  have HL := Aside0.mk hl
  have HL2 := Aside0.mk hl2
  by_cases hlen : xs.length = ys.length
  · have HLEN := Aside0.mk hlen
    have hlb : (((xs.length : Nat) : Int) != ((ys.length : Nat) : Int)) = false := by simp [hlen]
    clear hx hy hl hl2 hlen
    go_enter Tryd.func24, Tryd.ntmps24
    go_wp2_with fail
    go_loopw [5] (fun v5 W => ∃ k : Nat, k ≤ xs.length ∧ v5 = .int .i64 k ∧ Aside0 (xs.take k = ys.take k) ∧ Aside0 (Below w.heap.size w W)) (fun v5 _ => xs.length - (intOf v5).toNat)
    case atStart => exact ⟨0, Nat.zero_le _, rfl, ⟨rfl⟩, ⟨Below.refl _ _⟩⟩
    case round =>
      obtain ⟨k, hk, rfl, HE, HB⟩ := hrel
      by_cases hlt : k < xs.length
      · have hlt2 : k < ys.length := by have := HLEN.out; omega
        obtain ⟨ad, x, rfl, hx, b0, b1, b2, b3⟩ := atE HX.out hlt
        obtain ⟨ad2, y, rfl, hy, c0, c1, c2, c3⟩ := atE HY.out hlt2
        have p0 := pw_cell_below HB.out b0
        have p1 := pw_cell_below HB.out b1
        have p2 := pw_cell_below HB.out b2
        have p3 := pw_cell_below HB.out b3
        have q0 := pw_cell_below HB.out c0
        have q1 := pw_cell_below HB.out c1
        have q2 := pw_cell_below HB.out c2
        have q3 := pw_cell_below HB.out c3
        have HXX := Aside0.mk hx
        have HYY := Aside0.mk hy
        have HLT := Aside0.mk hlt
        have hk5 : (k : Int) ≤ 1000 := by have := HL.out; omega
        have hi1 : (k : Int) < (xs.length : Int) := by omega
        have hi2 : (k : Int) < (ys.length : Int) := by omega
        have HEQ := Aside0.mk (@E_ext x y)
        clear b0 b1 b2 b3 c0 c1 c2 c3 hx hy
        by_cases he : eqb x.n.1 x.a.1 x.d.1 x.s y.n.1 y.a.1 y.d.1 y.s = true
        · have HXY := Aside0.mk (HEQ.out.2 he)
          have HE2 := Aside0.mk (same_lt HXX.out HYY.out HE.out HXY.out)
          have HB2 : Aside0 (Below w.heap.size w wr.drew) := ⟨below_drew HB.out⟩
          clear HE
          go_wp2_with fail
          go_region
          clear HB p0 p1 p2 p3 q0 q1 q2 q3
          go_wp2
          go_roundw
          case rel => exact ⟨k + 1, HLT.out, by go_num, HE2, HB2⟩
          case measure => have := HLT.out; simp [intOf]; omega
        · have HNE : Aside0 (¬ (xs = ys)) := ⟨fun h => he (HEQ.out.1 (by have h1 := HXX.out; rw [h, HYY.out] at h1; injection h1 with h1; exact h1.symm))⟩
          have hef : eqb x.n.1 x.a.1 x.d.1 x.s y.n.1 y.a.1 y.d.1 y.s = false := by simpa using he
          have HB2 : Aside0 (Below w.heap.size w wr.drew) := ⟨below_drew HB.out⟩
          clear HE he
          go_wp2_with fail
          go_region
          clear HB p0 p1 p2 p3 q0 q1 q2 q3
          go_wp2
          go_ret
          exact ⟨false, rfl, ⟨fun h => (by cases h), fun h => absurd h HNE.out⟩, HB2.out⟩
      · obtain rfl : k = xs.length := by omega
        have HEQ : Aside0 (xs = ys) := ⟨by
          have := HE.out
          rw [List.take_length, HLEN.out, List.take_length] at this
          exact this⟩
        clear HE
        go_wp2
        go_ret
        exact ⟨true, rfl, ⟨fun _ => HEQ.out, fun _ => rfl⟩, HB.out⟩
  · have HNE : Aside0 (¬ (xs = ys)) := ⟨fun h => hlen (by rw [h])⟩
    have hlb : (((xs.length : Nat) : Int) != ((ys.length : Nat) : Int)) = true := by simp; omega
    clear hx hy hl hl2 hlen
    go_enter Tryd.func24, Tryd.ntmps24
    go_wp2
    go_ret
    exact ⟨false, rfl, ⟨fun h => (by cases h), fun h => absurd h HNE.out⟩, Below.refl _ _⟩
end Go.Proofs.YthimnnnfgangbaaDoor.Cn

namespace Go.Proofs.YthimnnnfgangbaaDoor.Cn
open Go.Proofs.YthimnnnfgangbaaDoor.Ts (cell_lt)
open Go.RowKit Go.Proofs.YthimnnnfgangbaaDoorW.PrintWords Go.Proofs.YthimnnnfgangbaaDoorW.PrintLast Go.Proofs.YthimnnnfgangbaaDoorW.PrintMore Go.Proofs.YthimnnnfgangbaaDoor.Qr
set_option maxHeartbeats 6400000 in
set_option maxRecDepth 100000 in
theorem refText_calls (A : Option Addr) (c : Nat) (xs : List E) (w : World) (hC : Kd.C kE w A xs.length xs) (hl : xs.length ≤ 1000) (hs : ∀ x ∈ xs, x.s.size ≤ 100) :
    Calls Tryd.prog 30 #[.slice A xs.length c] w fun e w' => e = .returned (.string ⟨(textL xs).toArray⟩) ∧ Below w.heap.size w w' := by
  have HC := Aside0.mk hC
  have HL := Aside0.mk hl
  have HS := Aside0.mk hs
  have HZ : Aside0 (textL (xs.take 0) = []) := ⟨rfl⟩
  clear hC hl hs
  go_enter Tryd.func30, Tryd.ntmps30
  go_wp2_with fail
  go_loopw [4, 3] (fun v4 v3 W => ∃ k : Nat, k ≤ xs.length ∧ v4 = .int .i64 k ∧ v3 = .string ⟨(textL (xs.take k)).toArray⟩ ∧ Aside0 (Below w.heap.size w W)) (fun v4 _ _ => xs.length - (intOf v4).toNat)
  case atStart => exact ⟨0, Nat.zero_le _, rfl, by rw [HZ.out], ⟨Below.refl _ _⟩⟩
  case round =>
    obtain ⟨k, hk, rfl, rfl, HB⟩ := hrel
    by_cases hlt : k < xs.length
    · obtain ⟨ad, x, rfl, hx, b0, b1, b2, b3⟩ := atE HC.out hlt
      have p0 := pw_cell_below HB.out b0
      have p1 := pw_cell_below HB.out b1
      have p2 := pw_cell_below HB.out b2
      have p3 := pw_cell_below HB.out b3
      have HLT := Aside0.mk hlt
      have hk5 : (k : Int) ≤ 1000 := by have := HL.out; omega
      have HST : Aside0 (textL (xs.take (k + 1)) = textL (xs.take k) ++ lineE x ++ [10]) := ⟨textL_take hx⟩
      have hx1 := HS.out x (List.mem_of_getElem? hx)
      have hPl := textL_len (xs := xs.take k) (fun y hy => HS.out y (List.mem_of_mem_take hy))
      have hPl2 : (xs.take k).length ≤ 1000 := by have := HL.out; rw [List.length_take]; omega
      obtain ⟨P, hP⟩ : ∃ P, textL (xs.take k) = P := ⟨_, rfl⟩
      rw [hP] at HST hPl ⊢
      clear hP b0 b1 b2 b3 hx
      obtain ⟨⟨n, hn⟩, ⟨a, ha⟩, ⟨d, hd⟩, s⟩ := x
      simp only at p0 p1 p2 p3 HST hx1
      obtain ⟨sl, rfl⟩ : ∃ sl : List UInt8, s = ⟨sl.toArray⟩ := ⟨s.data.toList, by simp⟩
      have hsl : sl.length ≤ 100 := by simpa [ByteArray.size] using hx1
      have l1 := (it_len hn.1 hn.2).2
      have l2 := (it_len ha.1 ha.2).2
      have l3 := (it_len hd.1 hd.2).2
      have HIN : Aside0 (i64 n) := ⟨hn⟩
      have HIA : Aside0 (i64 a) := ⟨ha⟩
      have HID : Aside0 (i64 d) := ⟨hd⟩
      have HST2 : Aside0 (textL (xs.take (k + 1)) = P ++ it n ++ [32] ++ it a ++ [32] ++ it d ++ [32] ++ sl ++ [10]) := ⟨by rw [HST.out]; simp [lineE]⟩
      have q0 : ¬ 9223372036854775807 < P.length + (it n).length := by omega
      have q1 : ¬ 9223372036854775807 < P.length + (it n).length + 1 := by omega
      have q2 : ¬ 9223372036854775807 < P.length + (it n).length + 1 + (it a).length := by omega
      have q3 : ¬ 9223372036854775807 < P.length + (it n).length + 1 + (it a).length + 1 := by omega
      have q4 : ¬ 9223372036854775807 < P.length + (it n).length + 1 + (it a).length + 1 + (it d).length := by omega
      have q5 : ¬ 9223372036854775807 < P.length + (it n).length + 1 + (it a).length + 1 + (it d).length + 1 := by omega
      have q6 : ¬ 9223372036854775807 < P.length + (it n).length + 1 + (it a).length + 1 + (it d).length + 1 + sl.length := by omega
      have q7 : ¬ 9223372036854775807 < P.length + (it n).length + 1 + (it a).length + 1 + (it d).length + 1 + sl.length + 1 := by omega
      clear HST hx1 hPl hPl2 l1 l2 l3 hsl hn ha hd
      go_upto_region 5 with (fail)
      go_region_held3 (fun W => (W.cell? (ad.add (k * 4)) = some (.int .i64 n) ∧ W.cell? ⟨(ad.add (k * 4)).block, (ad.add (k * 4)).off + 1, none⟩ = some (.int .i64 a) ∧ W.cell? ⟨(ad.add (k * 4)).block, (ad.add (k * 4)).off + 2, none⟩ = some (.int .i64 d) ∧ W.cell? ⟨(ad.add (k * 4)).block, (ad.add (k * 4)).off + 3, none⟩ = some (.string ⟨sl.toArray⟩)) ∧ Aside0 (Below wr.heap.size wr W))
        ((first | (with_reducible assumption) | exact ⟨⟨p0, p1, p2, p3⟩, ⟨below_drew (Below.refl _ _)⟩⟩ | exact ⟨⟨p0, p1, p2, p3⟩, ⟨Below.refl _ _⟩⟩))
        (first
          | (go_at_call 41; (with_reducible refine (digits_i n HIN.out _).mono ?_); rintro e w6 ⟨rfl, hb⟩; have hS' := keep_four (by with_reducible assumption) hb)
          | (go_at_call 41; (with_reducible refine (digits_i a HIA.out _).mono ?_); rintro e w6 ⟨rfl, hb⟩; have hS' := keep_four (by with_reducible assumption) hb)
          | (go_at_call 41; (with_reducible refine (digits_i d HID.out _).mono ?_); rintro e w6 ⟨rfl, hb⟩; have hS' := keep_four (by with_reducible assumption) hb))
      have HB2 := Aside0.mk (HB.out.trans (hS'.2.out.mono HB.out.size))
      clear hS' p0 p1 p2 p3 HB
      go_wp2
      go_roundw
      case rel => exact ⟨k + 1, HLT.out, by go_num, by rw [HST2.out]; simp only [cat_bytes], HB2⟩
      case measure => have := HLT.out; simp [intOf]; omega
    · obtain rfl : k = xs.length := by omega
      rw [List.take_length]
      go_wp2
      go_ret
      exact ⟨rfl, HB.out⟩
end Go.Proofs.YthimnnnfgangbaaDoor.Cn
