/- Contracts of the code's dotted and Text and of the reference's Dotted and Text, for every input. -/
import Derived.Test.YtagpkphehkfjgaaDoorPxH
import Derived.Lib.Join
set_option linter.unusedVariables false
set_option linter.unusedSimpArgs false
namespace Go.Proofs.YtagpkphehkfjgaaDoor.Px
open Go.RowKit Go.Proofs.YtagpkphehkfjgaaDoorW.PrintWords Go.Proofs.YtagpkphehkfjgaaDoorW.PrintLast Go.Proofs.YtagpkphehkfjgaaDoorW.PrintMore
theorem el_at {α : Type} {d : Kd α} {w : World} {A : Option Addr} {xs : List α} (z : α) (h : Kd.C d w A xs.length xs) {k : Nat} (hk : k < xs.length) :
    ∃ ad x c, A = some ad ∧ xs[k]? = some x ∧ d.K w x c ∧ ∀ j u, c[j]? = some u → w.cell? (ad.add (k * d.sz + j)) = some u := by
  obtain ⟨ad, c, e, _, hK, hc0⟩ := Kd.C_get h z (k : Int) (by omega) (by omega)
  rw [show ((k : Int)).toNat = k from by omega] at hK hc0
  obtain ⟨x, hx⟩ : ∃ x, xs[k]? = some x := ⟨xs[k], List.getElem?_eq_getElem hk⟩
  have hg : xs.getD k z = x := by rw [List.getD_eq_getElem?_getD, hx]; rfl
  rw [hg] at hK
  exact ⟨ad, x, c, e, hx, hK, hc0⟩
theorem cell_lt {w : World} {a : Addr} {v : Value} (h : w.cell? a = some v) : a.block < w.heap.size := by
  rcases Nat.lt_or_ge a.block w.heap.size with h1 | h1
  · exact h1
  · have h2 : w.heap[a.block]? = none := Array.getElem?_eq_none h1
    simp [World.cell?, h2] at h
theorem R_open {w : World} {base : Nat} {ok : Nat → Prop} {v : Value} {xs : List ByteArray} (h : Kd.R Kd.string 9 w base ok v xs) (hne : 0 < xs.length) :
    ∃ g c, v = .slice (some ⟨g, 0, none⟩) xs.length c ∧ xs.length ≤ c ∧ g < w.heap.size ∧ ∀ (j : Nat) x, xs[j]? = some x → w.cell? ⟨g, 0 + j, none⟩ = some (.string x) := by
  obtain ⟨A, c, rfl, hc, hC⟩ := Kd.R_reads h
  obtain ⟨_, inner, ⟨_, hown⟩, _⟩ := h
  have hA : ∃ g, A = some ⟨g, 0, none⟩ := by
    rcases hown with ⟨h1, _⟩ | ⟨g, cap, cur, h1, _⟩
    · simp at h1
      omega
    · injection h1 with h1
      exact ⟨g, h1⟩
  obtain ⟨g, rfl⟩ := hA
  have hcell : ∀ (j : Nat) x, xs[j]? = some x → w.cell? ⟨g, 0 + j, none⟩ = some (.string x) := by
    intro j x hx
    have hj := (List.getElem?_eq_some_iff.1 hx).1
    obtain ⟨ad, y, cs, he, hy, hK, hc0⟩ := el_at ByteArray.empty hC hj
    injection he with he
    subst he
    rw [hx] at hy
    injection hy with hy
    subst hy
    obtain rfl : cs = [Value.string x] := hK
    have := hc0 0 _ rfl
    rw [show Kd.string.sz = 1 from rfl, Nat.mul_one, Nat.add_zero] at this
    rw [Addr.add_mid] at this
    exact this
  refine ⟨g, c, rfl, hc, ?_, hcell⟩
  have := hcell 0 xs[0] (List.getElem?_eq_getElem hne)
  exact cell_lt this
theorem info9 : (Tryd.prog.info? 9).map (fun i => (i.zero, i.size, i.bytes)) = some (some (.string ⟨#[]⟩), 1, 16) := by kernel_rfl
/-- A text's bytes. -/
abbrev bs (l : List UInt8) : ByteArray := ⟨l.toArray⟩
/-- A row of texts of the call's own. -/
abbrev RS (w : World) (base : Nat) (v : Value) (ws : List (List UInt8)) : Prop := Kd.R Kd.string 9 w base (fun _ => True) v (ws.map bs)
theorem rs_nil (w : World) (base : Nat) : RS w base (.slice none 0 0) [] := Kd.R_nil Kd.string 9 w base _
theorem rs_open {w : World} {base : Nat} {v : Value} {ws : List (List UInt8)} (h : RS w base v ws) (hne : 0 < ws.length) :
    ∃ g c, v = .slice (some ⟨g, 0, none⟩) ws.length c ∧ ws.length ≤ c ∧ g < w.heap.size ∧ ∀ (j : Nat) x, ws[j]? = some x → w.cell? ⟨g, j, none⟩ = some (Sv x) := by
  obtain ⟨g, c, h1, h2, h3, h4⟩ := R_open h (by simpa using hne)
  rw [List.length_map] at h1 h2
  refine ⟨g, c, h1, h2, h3, fun j x hx => ?_⟩
  have := h4 j (bs x) (by rw [List.getElem?_map, hx]; rfl)
  rwa [Nat.zero_add] at this
/-- The four words of an address. -/
def quad (a : Nat) : List (List UInt8) := [dd (a / 16777216), dd (a / 65536 % 256), dd (a / 256 % 256), dd (a % 256)]
theorem quad_glue (a : Nat) : Lib.join (quad a) [46] = dotted a := by rw [join_glue]; rfl
theorem and_255 (x : Nat) (h : x < 4294967296) : bits .and .u32 (x : Int) 255 = ((x % 256 : Nat) : Int) := by
  have := u32_and_nat x 255 h (by decide)
  rw [nat_mask8] at this
  exact this
theorem and_255a (a : Nat) (h : a < 4294967296) : bits .and .u32 ((a : Int) / 16777216) 255 = ((a / 16777216 : Nat) : Int) := by
  have e : (a : Int) / 16777216 = ((a / 16777216 : Nat) : Int) := by omega
  rw [e, and_255 _ (by omega), Nat.mod_eq_of_lt (by omega)]
theorem and_255b (a : Nat) (h : a < 4294967296) : bits .and .u32 ((a : Int) / 65536) 255 = ((a / 65536 % 256 : Nat) : Int) := by
  have e : (a : Int) / 65536 = ((a / 65536 : Nat) : Int) := by omega
  rw [e, and_255 _ (by omega)]
theorem and_255c (a : Nat) (h : a < 4294967296) : bits .and .u32 ((a : Int) / 256) 255 = ((a / 256 % 256 : Nat) : Int) := by
  have e : (a : Int) / 256 = ((a / 256 : Nat) : Int) := by omega
  rw [e, and_255 _ (by omega)]
set_option maxHeartbeats 1600000 in
set_option maxRecDepth 100000 in
theorem dotted_calls (a : Nat) (w : World) (ha : a < 4294967296) (hg : Gl w) :
    Calls Tryd.prog 40 #[.int .u32 a] w fun e w' => e = .returned (Sv (dotted a)) ∧ Below w.heap.size w w' := by
  have HG := Aside0.mk hg
  have HA := Aside0.mk ha
  clear hg ha
  go_enter Tryd.func40, Tryd.ntmps40
  go_wp2
  go_loopw [3, 4] (fun v3 v4 W => ∃ j : Nat, j ≤ 4 ∧ v4 = .int .i64 (24 - 8 * (j : Int)) ∧ Aside0 (RS W w.heap.size v3 ((quad a).take j)) ∧ Aside0 (Below w.heap.size w W)) (fun _ v4 _ => (intOf v4 + 8).toNat)
  case atStart => exact ⟨0, by omega, rfl, ⟨rs_nil _ _⟩, ⟨Below.refl _ _⟩⟩
  case round =>
    obtain ⟨j, hj, rfl, HR, HB⟩ := hrel
    rcases (show j = 0 ∨ j = 1 ∨ j = 2 ∨ j = 3 ∨ j = 4 by omega) with rfl | rfl | rfl | rfl | rfl
    · have hq := and_255a a HA.out
      have E1 : Aside0 (wrap64 ((a : Int) / 16777216) = ((a / 16777216 : Nat) : Int)) := ⟨by have := HA.out; unfold wrap64; omega⟩
      have HX : Aside0 ((quad a).take 0 ++ [dd (a / 16777216)] = (quad a).take (0 + 1)) := ⟨rfl⟩
      have HLL : Aside0 ((((quad a).take 0).map bs).length + 1 ≤ 100) := ⟨by simp [quad]⟩
      go_wp2_with fail
      rw [E1.out]
      refine (itoa_calls ((a / 16777216 : Nat) : Int) (by omega) (by have := HA.out; omega) _ (HG.out.below HB.out).tab).mono ?_
      rw [itoa_nat]
      rintro e w1 ⟨rfl, hb⟩
      have HR1 : Aside0 (RS w1 w.heap.size u3 ((quad a).take 0)) := ⟨Kd.R_below HR.out hb⟩
      have HB1 := Aside0.mk (below_step HB.out hb)
      clear hb HR HB hq E1
      go_wp2_with (first | ((with_reducible refine gate_builtin (b := .append) (xs := #[.tmp 9, .tmp 16]) rfl ?_); at_builtin; refine Kd.R_append Kd.string (w0 := w) w.heap.size rfl (.tmp 9) (.tmp 16) 69 9 (.string ⟨#[]⟩) 16 rfl Tryd.underlying69 info9 rfl (by decide) (by omega) u3 (((quad a).take 0).map bs) (bs (dd (a / 16777216))) [.string (bs (dd (a / 16777216)))] (fun _ => True) (fun _ => False) rfl rfl ?aP (fun _ hk => hk.elim) ?aF ?aO ?aB ?aS ?aL ?_; (case aP => exact rfl); (case aF => exact (fun _ _ => trivial)); (case aO => exact HR1.out); (case aB => exact HB1.out); (case aS => exact HB1.out.size); (case aL => have := HLL.out; omega); intro v2 w2 ho hb hg hat; have HB2 := Aside0.mk hb; have HR2 : Aside0 (RS w2 w.heap.size v2 ((quad a).take (0 + 1))) := ⟨by rw [← HX.out]; show Kd.R Kd.string 9 w2 w.heap.size _ v2 (List.map bs (_ ++ [_])); rw [List.map_append]; exact ho⟩; clear ho hb hg hat HR1 HB1))
      go_roundw
      case rel => exact ⟨0 + 1, by omega, by go_num, HR2, HB2⟩
      case measure => simp [intOf]
    · have hq := and_255b a HA.out
      have E1 : Aside0 (((a : Int) / 65536 % 256) = ((a / 65536 % 256 : Nat) : Int)) := ⟨by have := HA.out; omega⟩
      have HX : Aside0 ((quad a).take 1 ++ [dd (a / 65536 % 256)] = (quad a).take (1 + 1)) := ⟨rfl⟩
      have HLL : Aside0 ((((quad a).take 1).map bs).length + 1 ≤ 100) := ⟨by simp [quad]⟩
      go_wp2_with fail
      rw [E1.out]
      refine (itoa_calls ((a / 65536 % 256 : Nat) : Int) (by omega) (by have := HA.out; omega) _ (HG.out.below HB.out).tab).mono ?_
      rw [itoa_nat]
      rintro e w1 ⟨rfl, hb⟩
      have HR1 : Aside0 (RS w1 w.heap.size u3 ((quad a).take 1)) := ⟨Kd.R_below HR.out hb⟩
      have HB1 := Aside0.mk (below_step HB.out hb)
      clear hb HR HB hq E1
      go_wp2_with (first | ((with_reducible refine gate_builtin (b := .append) (xs := #[.tmp 9, .tmp 16]) rfl ?_); at_builtin; refine Kd.R_append Kd.string (w0 := w) w.heap.size rfl (.tmp 9) (.tmp 16) 69 9 (.string ⟨#[]⟩) 16 rfl Tryd.underlying69 info9 rfl (by decide) (by omega) u3 (((quad a).take 1).map bs) (bs (dd (a / 65536 % 256))) [.string (bs (dd (a / 65536 % 256)))] (fun _ => True) (fun _ => False) rfl rfl ?aP (fun _ hk => hk.elim) ?aF ?aO ?aB ?aS ?aL ?_; (case aP => exact rfl); (case aF => exact (fun _ _ => trivial)); (case aO => exact HR1.out); (case aB => exact HB1.out); (case aS => exact HB1.out.size); (case aL => have := HLL.out; omega); intro v2 w2 ho hb hg hat; have HB2 := Aside0.mk hb; have HR2 : Aside0 (RS w2 w.heap.size v2 ((quad a).take (1 + 1))) := ⟨by rw [← HX.out]; show Kd.R Kd.string 9 w2 w.heap.size _ v2 (List.map bs (_ ++ [_])); rw [List.map_append]; exact ho⟩; clear ho hb hg hat HR1 HB1))
      go_roundw
      case rel => exact ⟨1 + 1, by omega, by go_num, HR2, HB2⟩
      case measure => simp [intOf]
    · have hq := and_255c a HA.out
      have E1 : Aside0 (((a : Int) / 256 % 256) = ((a / 256 % 256 : Nat) : Int)) := ⟨by have := HA.out; omega⟩
      have HX : Aside0 ((quad a).take 2 ++ [dd (a / 256 % 256)] = (quad a).take (2 + 1)) := ⟨rfl⟩
      have HLL : Aside0 ((((quad a).take 2).map bs).length + 1 ≤ 100) := ⟨by simp [quad]⟩
      go_wp2_with fail
      rw [E1.out]
      refine (itoa_calls ((a / 256 % 256 : Nat) : Int) (by omega) (by have := HA.out; omega) _ (HG.out.below HB.out).tab).mono ?_
      rw [itoa_nat]
      rintro e w1 ⟨rfl, hb⟩
      have HR1 : Aside0 (RS w1 w.heap.size u3 ((quad a).take 2)) := ⟨Kd.R_below HR.out hb⟩
      have HB1 := Aside0.mk (below_step HB.out hb)
      clear hb HR HB hq E1
      go_wp2_with (first | ((with_reducible refine gate_builtin (b := .append) (xs := #[.tmp 9, .tmp 16]) rfl ?_); at_builtin; refine Kd.R_append Kd.string (w0 := w) w.heap.size rfl (.tmp 9) (.tmp 16) 69 9 (.string ⟨#[]⟩) 16 rfl Tryd.underlying69 info9 rfl (by decide) (by omega) u3 (((quad a).take 2).map bs) (bs (dd (a / 256 % 256))) [.string (bs (dd (a / 256 % 256)))] (fun _ => True) (fun _ => False) rfl rfl ?aP (fun _ hk => hk.elim) ?aF ?aO ?aB ?aS ?aL ?_; (case aP => exact rfl); (case aF => exact (fun _ _ => trivial)); (case aO => exact HR1.out); (case aB => exact HB1.out); (case aS => exact HB1.out.size); (case aL => have := HLL.out; omega); intro v2 w2 ho hb hg hat; have HB2 := Aside0.mk hb; have HR2 : Aside0 (RS w2 w.heap.size v2 ((quad a).take (2 + 1))) := ⟨by rw [← HX.out]; show Kd.R Kd.string 9 w2 w.heap.size _ v2 (List.map bs (_ ++ [_])); rw [List.map_append]; exact ho⟩; clear ho hb hg hat HR1 HB1))
      go_roundw
      case rel => exact ⟨2 + 1, by omega, by go_num, HR2, HB2⟩
      case measure => simp [intOf]
    · have hq := and_255 a HA.out
      have E1 : Aside0 (((a : Int) % 256) = ((a % 256 : Nat) : Int)) := ⟨by have := HA.out; omega⟩
      have HX : Aside0 ((quad a).take 3 ++ [dd (a % 256)] = (quad a).take (3 + 1)) := ⟨rfl⟩
      have HLL : Aside0 ((((quad a).take 3).map bs).length + 1 ≤ 100) := ⟨by simp [quad]⟩
      go_wp2_with fail
      rw [E1.out]
      refine (itoa_calls ((a % 256 : Nat) : Int) (by omega) (by have := HA.out; omega) _ (HG.out.below HB.out).tab).mono ?_
      rw [itoa_nat]
      rintro e w1 ⟨rfl, hb⟩
      have HR1 : Aside0 (RS w1 w.heap.size u3 ((quad a).take 3)) := ⟨Kd.R_below HR.out hb⟩
      have HB1 := Aside0.mk (below_step HB.out hb)
      clear hb HR HB hq E1
      go_wp2_with (first | ((with_reducible refine gate_builtin (b := .append) (xs := #[.tmp 9, .tmp 16]) rfl ?_); at_builtin; refine Kd.R_append Kd.string (w0 := w) w.heap.size rfl (.tmp 9) (.tmp 16) 69 9 (.string ⟨#[]⟩) 16 rfl Tryd.underlying69 info9 rfl (by decide) (by omega) u3 (((quad a).take 3).map bs) (bs (dd (a % 256))) [.string (bs (dd (a % 256)))] (fun _ => True) (fun _ => False) rfl rfl ?aP (fun _ hk => hk.elim) ?aF ?aO ?aB ?aS ?aL ?_; (case aP => exact rfl); (case aF => exact (fun _ _ => trivial)); (case aO => exact HR1.out); (case aB => exact HB1.out); (case aS => exact HB1.out.size); (case aL => have := HLL.out; omega); intro v2 w2 ho hb hg hat; have HB2 := Aside0.mk hb; have HR2 : Aside0 (RS w2 w.heap.size v2 ((quad a).take (3 + 1))) := ⟨by rw [← HX.out]; show Kd.R Kd.string 9 w2 w.heap.size _ v2 (List.map bs (_ ++ [_])); rw [List.map_append]; exact ho⟩; clear ho hb hg hat HR1 HB1))
      go_roundw
      case rel => exact ⟨3 + 1, by omega, by go_num, HR2, HB2⟩
      case measure => simp [intOf]
    · have HR4 : Aside0 (RS wr w.heap.size u3 (quad a)) := HR
      obtain ⟨g, c, rfl, hc, hgl, hcell⟩ := rs_open HR4.out (by simp [quad])
      have HCALL : Aside0 (Calls Tryd.prog 50 #[.slice (some ⟨g, 0, none⟩) 4 c, .string ⟨#[46]⟩] wr fun e w' => e = .returned (Sv (dotted a)) ∧ Below wr.heap.size wr w') := ⟨by
        have h := Tryd.strings_Join g 0 c ((quad a).map bs) ⟨#[46]⟩ wr (fun j x hx => by
          rw [List.getElem?_map] at hx
          obtain ⟨y, hy, rfl⟩ := Option.map_eq_some_iff.1 hx
          rw [Nat.zero_add]
          exact hcell j y hy) hgl (by simp [quad]) (by simpa [quad] using hc) (by
          rw [List.map_map, show ((fun x : ByteArray => x.data.toList) ∘ bs) = id from funext fun l => blist l, List.map_id, one_list, quad_glue]
          have := dotted_len HA.out
          omega)
        rw [List.map_map, show ((fun x : ByteArray => x.data.toList) ∘ bs) = id from funext fun l => blist l, List.map_id, one_list, quad_glue] at h
        exact h⟩
      clear hc hgl hcell HR HR4
      go_wp2_with fail
      refine HCALL.out.mono ?_
      rintro e w8 ⟨rfl, hb⟩
      have HB8 := Aside0.mk (below_step HB.out hb)
      clear hb HCALL
      go_wp2
      go_ret
      exact ⟨rfl, HB8.out⟩
theorem itoa_small (m : Nat) (w : World) (hm : m ≤ 32) (hg : Gl w) : Calls Tryd.prog 41 #[.int .i64 m] w fun e w' => e = .returned (.string ⟨(dd m).toArray⟩) ∧ Below w.heap.size w w' := by
  refine (itoa_calls (m : Int) (by omega) (by omega) w hg.tab).mono ?_
  rw [itoa_nat]
  exact fun _ _ h => h
theorem hw11 {p : Prop} {w1 W : World} (h : p ∧ Aside0 (Below w1.heap.size w1 W)) : Below w1.heap.size w1 W := h.2.out
/-- What Text answers. -/
def TD (b : Nat) (n : Int) (t : List UInt8) (e : Nat) : Prop := (May b n ∧ t = ptext b n.toNat ∧ e = 0) ∨ (¬ May b n ∧ t = [] ∧ e = 1)
theorem Bx.below {w W W' : World} {gx b : Nat} {n : Int} (h : Bx w gx b n W) (hb : Below W.heap.size W W') : Bx w gx b n W' := ⟨blk_below h.1 hb, below_step h.2 hb⟩
theorem cat3 (l m : List UInt8) : ((⟨l.toArray⟩ : ByteArray) ++ (⟨#[47]⟩ : ByteArray)) ++ (⟨m.toArray⟩ : ByteArray) = ⟨(l ++ 47 :: m).toArray⟩ := by
  rw [show (⟨#[47]⟩ : ByteArray) = ⟨[47].toArray⟩ from rfl, cat_bytes, cat_bytes, List.append_assoc]
  rfl
set_option maxHeartbeats 1600000 in
set_option maxRecDepth 100000 in
theorem text_calls (b : Nat) (n : Int) (w : World) (hb : b < 4294967296) (hg : Gl w) :
    Calls Tryd.prog 21 #[pv b n] w fun e w' => (∃ t er, e = .returned (.tuple #[Sv t, .int .i64 (er : Nat)]) ∧ TD b n t er) ∧ Below w.heap.size w w' := by
  have HG := Aside0.mk hg
  have HB0 := Aside0.mk hb
  by_cases hm : May b n
  · have H0 : Aside0 (chk b n = 0) := ⟨by unfold chk; rw [if_pos hm]⟩
    have HM := Aside0.mk hm
    have hl1 := dotted_len hb
    obtain ⟨m, rfl⟩ := Int.eq_ofNat_of_zero_le hm.1
    have hl2 := dd_len2 (u := m) (by have := hm.2.1; omega)
    have h1 : ¬ 9223372036854775807 < (dotted b).length + 1 := by omega
    have h2 : ¬ 9223372036854775807 < (dotted b).length + 1 + (dd m).length := by omega
    have HMM : Aside0 (m ≤ 32) := ⟨by have := hm.2.1; omega⟩
    clear hg hb hm hl1 hl2
    go_enter Tryd.func21, Tryd.ntmps21
    go_upto_region 1 with (fail)
    obtain ⟨gx, hgx⟩ : ∃ gx, w.heap.size = gx := ⟨_, rfl⟩
    rw [hgx]
    refine wp_world (Bx w gx b m) (by subst hgx; exact bx_new w b m) ?_
    clear hgx
    intro w1 HX
    have k0 := HX.c0
    have k1 := HX.c1
    have HXX := Aside0.mk HX
    clear HX
    go_wp2_with fail
    refine (check_calls b m _ HB0.out).mono ?_
    rw [H0.out]
    rintro e w2 ⟨rfl, hb⟩
    have HX2 := Aside0.mk (HXX.out.below hb)
    clear hb HXX k0 k1
    have k0 := HX2.out.c0
    have k1 := HX2.out.c1
    go_wp2_with fail
    go_upto_region 4 with (fail)
    go_region_held3 (fun W => (W.cell? ⟨gx, 0, none⟩ = some (.int .u32 b) ∧ W.cell? ⟨gx, 1, none⟩ = some (.int .i64 m)) ∧ Aside0 (Below w2.heap.size w2 W))
      ((first | (with_reducible assumption) | exact ⟨⟨k0, k1⟩, ⟨below_drew (Below.refl _ _)⟩⟩ | exact ⟨⟨k0, k1⟩, ⟨Below.refl _ _⟩⟩))
      (first
        | (go_at_call 40; have hh := HG.out.below (below_step HX2.out.2 (hw11 (by with_reducible assumption))); (with_reducible refine (dotted_calls b _ HB0.out hh).mono ?_); rintro e w' ⟨rfl, hb⟩; have hS' := keep_two (by with_reducible assumption) hb)
        | (go_at_call 41; have hh := HG.out.below (below_step HX2.out.2 (hw11 (by with_reducible assumption))); (with_reducible refine (itoa_small m _ HMM.out hh).mono ?_); rintro e w' ⟨rfl, hb⟩; have hS' := keep_two (by with_reducible assumption) hb))
    have HX3 := Aside0.mk (HX2.out.below hS'.2.out)
    have HE : Aside0 (TD b m (ptext b m) 0) := ⟨Or.inl ⟨HM.out, rfl, rfl⟩⟩
    clear hS' k0 k1 HX2 hh
    go_wp2
    go_ret2
    exact ⟨⟨ptext b m, 0, by rw [cat3]; rfl, HE.out⟩, HX3.out.2⟩
  · have H0 : Aside0 (chk b n = 1) := ⟨by unfold chk; rw [if_neg hm]⟩
    have HE : Aside0 (TD b n [] 1) := ⟨Or.inr ⟨hm, rfl, rfl⟩⟩
    clear hg hb hm
    go_enter Tryd.func21, Tryd.ntmps21
    go_upto_region 1 with (fail)
    obtain ⟨gx, hgx⟩ : ∃ gx, w.heap.size = gx := ⟨_, rfl⟩
    rw [hgx]
    refine wp_world (Bx w gx b n) (by subst hgx; exact bx_new w b n) ?_
    clear hgx
    intro w1 HX
    have k0 := HX.c0
    have k1 := HX.c1
    have HXX := Aside0.mk HX
    clear HX
    go_wp2_with fail
    refine (check_calls b n _ HB0.out).mono ?_
    rw [H0.out]
    rintro e w2 ⟨rfl, hb⟩
    have HX2 := Aside0.mk (HXX.out.below hb)
    clear hb HXX k0 k1
    go_wp2
    go_ret2
    exact ⟨⟨_, _, rfl, HE.out⟩, HX2.out.2⟩
end Go.Proofs.YtagpkphehkfjgaaDoor.Px
