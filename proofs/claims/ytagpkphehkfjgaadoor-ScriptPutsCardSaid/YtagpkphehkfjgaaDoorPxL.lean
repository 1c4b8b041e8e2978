/- Contracts of the reference's Dotted and Text, for every input. -/
import Derived.Test.YtagpkphehkfjgaaDoorPxK
set_option linter.unusedVariables false
set_option linter.unusedSimpArgs false
namespace Go.Proofs.YtagpkphehkfjgaaDoor.Px
open Go.RowKit Go.Proofs.YtagpkphehkfjgaaDoorW.PrintWords Go.Proofs.YtagpkphehkfjgaaDoorW.PrintLast Go.Proofs.YtagpkphehkfjgaaDoorW.PrintMore
theorem digits_nat (u : Nat) (hu : u < 9223372036854775808) (w : World) : Calls Tryd.prog 42 #[.int .i64 u] w fun e w' => e = .returned (.string ⟨(dd u).toArray⟩) ∧ Below w.heap.size w w' := by
  refine (digits_calls (u : Int) (by omega) (by omega) w).mono ?_
  rw [show it (u : Int) = dd u from itoa_nat u]
  exact fun _ _ h => h
set_option maxHeartbeats 1600000 in
set_option maxRecDepth 100000 in
theorem rdotted_calls (a : Nat) (w : World) (ha : a < 4294967296) :
    Calls Tryd.prog 39 #[.int .u32 a] w fun e w' => e = .returned (Sv (dotted a)) ∧ Below w.heap.size w w' := by
  have l3 := dd_len3 (show a / 16777216 < 256 by omega)
  have l2 := dd_len3 (show a / 65536 % 256 < 256 by omega)
  have l1 := dd_len3 (show a / 256 % 256 < 256 by omega)
  have l0 := dd_len3 (show a % 256 < 256 by omega)
  obtain ⟨x3, h3⟩ : ∃ x, a / 16777216 = x := ⟨_, rfl⟩
  obtain ⟨x2, h2⟩ : ∃ x, a / 65536 % 256 = x := ⟨_, rfl⟩
  obtain ⟨x1, h1⟩ : ∃ x, a / 256 % 256 = x := ⟨_, rfl⟩
  obtain ⟨x0, h0⟩ : ∃ x, a % 256 = x := ⟨_, rfl⟩
  have HD : Aside0 (dotted a = dd x3 ++ 46 :: (dd x2 ++ 46 :: (dd x1 ++ 46 :: dd x0))) := ⟨by subst h3 h2 h1 h0; rfl⟩
  rw [h3] at l3
  rw [h2] at l2
  rw [h1] at l1
  rw [h0] at l0
  have g1 : ¬ 9223372036854775807 < (dd x3).length + 1 := by omega
  have g2 : ¬ 9223372036854775807 < (dd x3).length + 1 + (dd x2).length := by omega
  have g3 : ¬ 9223372036854775807 < (dd x3).length + 1 + (dd x2).length + 1 := by omega
  have g4 : ¬ 9223372036854775807 < (dd x3).length + 1 + (dd x2).length + 1 + (dd x1).length := by omega
  have g5 : ¬ 9223372036854775807 < (dd x3).length + 1 + (dd x2).length + 1 + (dd x1).length + 1 := by omega
  have g6 : ¬ 9223372036854775807 < (dd x3).length + 1 + (dd x2).length + 1 + (dd x1).length + 1 + (dd x0).length := by omega
  have E3 := Aside0.mk h3
  have E2 := Aside0.mk h2
  have E1 := Aside0.mk h1
  have E0 := Aside0.mk h0
  have HA := Aside0.mk ha
  clear l3 l2 l1 l0 h3 h2 h1 h0 ha
  go_enter Tryd.func39, Tryd.ntmps39
  go_wp2_with fail
  first
    | rw [show (a : Int) / 16777216 % 4294967296 = (x3 : Int) from by have := HA.out; have := E3.out; omega]
  refine (digits_nat x3 (by have := HA.out; have := E3.out; omega) _).mono ?_
  rintro e w1 ⟨rfl, hb⟩
  have HB1 := Aside0.mk (hb)
  clear hb
  go_wp2_with fail
  first
    | rw [show (a : Int) / 65536 % 256 = (x2 : Int) from by have := HA.out; have := E2.out; omega]
    | rw [show Int.tmod ((a : Int) / 65536 % 4294967296) 256 = (x2 : Int) from by have := HA.out; have := E2.out; omega]
  refine (digits_nat x2 (by have := HA.out; have := E2.out; omega) _).mono ?_
  rintro e w2 ⟨rfl, hb⟩
  have HB2 := Aside0.mk (below_step HB1.out hb)
  clear hb HB1
  go_wp2_with fail
  first
    | rw [show (a : Int) / 256 % 256 = (x1 : Int) from by have := HA.out; have := E1.out; omega]
    | rw [show Int.tmod ((a : Int) / 256 % 4294967296) 256 = (x1 : Int) from by have := HA.out; have := E1.out; omega]
  refine (digits_nat x1 (by have := HA.out; have := E1.out; omega) _).mono ?_
  rintro e w3 ⟨rfl, hb⟩
  have HB3 := Aside0.mk (below_step HB2.out hb)
  clear hb HB2
  go_wp2_with fail
  first
    | rw [show (a : Int) % 256 = (x0 : Int) from by have := HA.out; have := E0.out; omega]
    | rw [show Int.tmod (a : Int) 256 = (x0 : Int) from by have := HA.out; have := E0.out; omega]
  refine (digits_nat x0 (by have := HA.out; have := E0.out; omega) _).mono ?_
  rintro e w4 ⟨rfl, hb⟩
  have HB4 := Aside0.mk (below_step HB3.out hb)
  clear hb HB3
  go_wp2
  go_ret
  exact ⟨by rw [HD.out]; simp only [cat_bytes, List.append_assoc, List.cons_append, List.nil_append]; rfl, HB4.out⟩
set_option maxHeartbeats 1600000 in
set_option maxRecDepth 100000 in
theorem rtext_calls (b n : Nat) (w : World) (hb : b < 4294967296) (hn : n ≤ 1000000) :
    Calls Tryd.prog 22 #[pv b n] w fun e w' => e = .returned (Sv (ptext b n)) ∧ Below w.heap.size w w' := by
  have hl1 := dotted_len hb
  have hl2 := dd_len10 (u := n) 6 (by omega)
  have h1 : ¬ 9223372036854775807 < (dotted b).length + 1 := by omega
  have h2 : ¬ 9223372036854775807 < (dotted b).length + 1 + (dd n).length := by omega
  have HB0 := Aside0.mk hb
  have HN := Aside0.mk hn
  clear hb hl1 hl2 hn
  go_enter Tryd.func22, Tryd.ntmps22
  go_upto_region 1 with (fail)
  obtain ⟨gx, hgx⟩ : ∃ gx, w.heap.size = gx := ⟨_, rfl⟩
  rw [hgx]
  refine wp_world (Bx w gx b n) (by subst hgx; exact bx_new w b n) ?_
  clear hgx
  intro w2 HX
  have k0 := HX.c0
  have k1 := HX.c1
  have HX2 := Aside0.mk HX
  clear HX
  go_region_held3 (fun W => (W.cell? ⟨gx, 0, none⟩ = some (.int .u32 b) ∧ W.cell? ⟨gx, 1, none⟩ = some (.int .i64 n)) ∧ Aside0 (Below w2.heap.size w2 W))
    ((first | (with_reducible assumption) | exact ⟨⟨k0, k1⟩, ⟨below_drew (Below.refl _ _)⟩⟩ | exact ⟨⟨k0, k1⟩, ⟨Below.refl _ _⟩⟩))
    (first
      | (go_at_call 39; (with_reducible refine (rdotted_calls b _ HB0.out).mono ?_); rintro e w' ⟨rfl, hb⟩; have hS' := keep_two (by with_reducible assumption) hb)
      | (go_at_call 42; have hh : n < 9223372036854775808 := by have := HN.out; omega
         (with_reducible refine (digits_nat n hh _).mono ?_); clear hh; rintro e w' ⟨rfl, hb⟩; have hS' := keep_two (by with_reducible assumption) hb))
  have HX3 := Aside0.mk (HX2.out.below hS'.2.out)
  clear hS' k0 k1 HX2
  go_wp2
  go_ret
  exact ⟨by rw [cat3]; rfl, HX3.out.2⟩
end Go.Proofs.YtagpkphehkfjgaaDoor.Px
