/- What the law reaches beyond the common part; joined out of several texts. -/
import Derived.Lib.Hide
import Derived.Test.YtohlmoppcmjknaaGreatDoorM2
import Derived.Test.YtohlmoppcmjknaaGreatDoorM4
import Derived.Test.YtohlmoppcmjknaaGreatDoorM7
import Derived.Test.YtohlmoppcmjknaaGreatDoorM17
import Derived.Test.YtohlmoppcmjknaaGreatDoorM20
import Derived.Test.YtohlmoppcmjknaaGreatDoorCRival1
section
namespace Go.Proofs.YtohlmoppcmjknaaGreatDoor.P
open Go.RowKit Go.Proofs.YtohlmoppcmjknaaGreatDoorW.PrintWords Go.Proofs.YtohlmoppcmjknaaGreatDoorW.PrintLast Go.Proofs.YtohlmoppcmjknaaGreatDoorW.PrintMore
attribute [local go_sem] max2_int min2_int max_two min_two max_three min_three max_four min_four
set_option linter.unusedVariables false
set_option linter.unusedSimpArgs false
mutual
def L_Rival.j0 : Nat → List Int → Bool → List Int → Int → Int → Int → Option (Bool)
 | 0, _, _, _, _, _, _ => none
 | k + 1, x1, x31, x254000, x254001, x254002, x254003 => if x31 = true then ((L_known.f).bind fun t256 => (some t256)) else ((column_Jumps.f x254000 x254001 x254002 x254003).bind fun bt257 => ((column_Wrong.f x254000 x254001 x254002 x254003).bind fun bt261 => ((column_Count.f x254000 x254001 x254002 x254003).bind fun bt265 => ((column_Suspect.f x254000 x254001 x254002 x254003).bind fun bt267 => (if bt257.2 = 0 then (if bt261.2 = 0 then (if bt265.2 = 0 then (if bt267.2 = 0 then (if (bt257.1.length : Int) > (x254000.length : Int) then (L_Rival.j1 k x1 bt257.1 bt261.1 bt265.1 bt267.1 true x254000 x254001 x254002 x254003) else ((R_Rising.f k bt257.1 (wrap64 ((x254000.length : Int) - 1))).bind fun t271 => (if t271 = true then (if (bt261.1.length : Int) > (x254000.length : Int) then (L_Rival.j1 k x1 bt257.1 bt261.1 bt265.1 bt267.1 true x254000 x254001 x254002 x254003) else ((R_Rising.f k bt261.1 (wrap64 ((x254000.length : Int) - 1))).bind fun t272 => (if t272 = true then ((R_Covers.f k x254000 x254001 x254002 x254003 bt261.1 bt257.1).bind fun t273 => (if t273 = true then (if bt265.1 < 1 then (L_Rival.j1 k x1 bt257.1 bt261.1 bt265.1 bt267.1 true x254000 x254001 x254002 x254003) else (L_Rival.j1 k x1 bt257.1 bt261.1 bt265.1 bt267.1 ((bt267.1.length : Int) != (x254000.length : Int)) x254000 x254001 x254002 x254003)) else (L_Rival.j1 k x1 bt257.1 bt261.1 bt265.1 bt267.1 true x254000 x254001 x254002 x254003))) else (L_Rival.j1 k x1 bt257.1 bt261.1 bt265.1 bt267.1 true x254000 x254001 x254002 x254003)))) else (L_Rival.j1 k x1 bt257.1 bt261.1 bt265.1 bt267.1 true x254000 x254001 x254002 x254003)))) else (L_Rival.j1 k x1 bt257.1 bt261.1 bt265.1 bt267.1 true x254000 x254001 x254002 x254003)) else (L_Rival.j1 k x1 bt257.1 bt261.1 bt265.1 bt267.1 true x254000 x254001 x254002 x254003)) else (L_Rival.j1 k x1 bt257.1 bt261.1 bt265.1 bt267.1 true x254000 x254001 x254002 x254003)) else (L_Rival.j1 k x1 bt257.1 bt261.1 bt265.1 bt267.1 true x254000 x254001 x254002 x254003))))))
def L_Rival.j1 : Nat → List Int → List Int → List Int → Int → List Int → Bool → List Int → Int → Int → Int → Option (Bool)
 | 0, _, _, _, _, _, _, _, _, _, _ => none
 | k + 1, x1, x5, x7, x9, x11, x119, x254000, x254001, x254002, x254003 => if x119 = true then (some false) else ((R_Covers.f k x254000 x254001 x254002 x254003 x1 x5).bind fun t274 => (if t274 = true then (if (x1.length : Int) = (x7.length : Int) then (L_Rival.l0 k x1 x7 x9 x11 0) else (if (x1.length : Int) > (x7.length : Int) then ((L_known.f).bind fun t276 => (some t276)) else (some false))) else ((L_known.f).bind fun t275 => (some t275))))
def L_Rival.l0 : Nat → List Int → List Int → Int → List Int → Int → Option (Bool)
 | 0, _, _, _, _, _ => none
 | k + 1, x1, x7, x9, x11, x13 => if x13 < (x11.length : Int) then ((T_Listed.f k x1 x13).bind fun t277 => (if 0 ≤ x13 then (if (rd x11 x13) < 1 then (some false) else (if (rd x11 x13) > 3 then (some false) else (if t277 = true then (if (rd x11 x13) = 1 then (some false) else (L_Rival.l0 k x1 x7 x9 x11 (wrap64 (x13 + 1)))) else (if (rd x11 x13) = 3 then (some false) else (L_Rival.l0 k x1 x7 x9 x11 (wrap64 (x13 + 1))))))) else (none))) else ((T_Before.f k x1 x7).bind fun t282 => (if t282 = true then (some false) else ((T_Same.f k x1 x7).bind fun t283 => (if t283 = true then ((L_known.f).bind fun t284 => (some t284)) else (if x9 > 1 then ((L_known.f).bind fun t285 => (some t285)) else (some false))))))
end
def L_Rival.f (k : Nat) (l0_0 : List Int) (a0_1 : Int) (a0_2 : Int) (a0_3 : Int) (l1 : List Int) : Option (Bool) := (L_right.f k l0_0 a0_1 a0_2 a0_3).bind fun t254 => (if t254 = true then (if (l1.length : Int) > 16 then (L_Rival.j0 k l1 true l0_0 a0_1 a0_2 a0_3) else ((R_Rising.f k l1 (wrap64 ((l0_0.length : Int) - 1))).bind fun t255 => (L_Rival.j0 k l1 (!t255) l0_0 a0_1 a0_2 a0_3))) else (L_Rival.j0 k l1 true l0_0 a0_1 a0_2 a0_3))
theorem L_Rival.absurd_f {r : Bool} (H : some false = some r) (hr : r = true) : False := by
 have := (Option.some.inj H).trans hr
 cases this
theorem L_Rival.absurd_j1 {r : Bool} {k : Nat} {y0 : List Int} {y1 : List Int} {y2 : List Int} {y3 : Int} {y4 : List Int} {y6 : List Int} {y7 : Int} {y8 : Int} {y9 : Int} (H : L_Rival.j1 k y0 y1 y2 y3 y4 true y6 y7 y8 y9 = some r) (hr : r = true) : False := by
 cases k with
 | zero => simp [L_Rival.j1] at H
 | succ k =>
  rw [L_Rival.j1, if_pos rfl] at H
  exact L_Rival.absurd_f H hr
set_option maxHeartbeats 8000000 in
set_option maxRecDepth 100000 in
theorem L_Rival.calls (k : Nat) (A0_0 : Option Addr) (c0_0 : Nat) (l0_0 : List Int) (a0_1 : Int) (a0_2 : Int) (a0_3 : Int) (A1 : Option Addr) (c1 : Nat) (l1 : List Int) (r : Bool) (w : World) (hr0_0 : Kd.C (Kd.int .i64) w A0_0 l0_0.length l0_0) (hc0_0 : l0_0.length ≤ c0_0) (hr1 : Kd.C (Kd.int .i64) w A1 l1.length l1) (hc1 : l1.length ≤ c1) (hr : r = true) (h : L_Rival.f k l0_0 a0_1 a0_2 a0_3 l1 = some r) (hT : Tryz.Glob w) :
  Calls Tryz.prog 6 #[.agg #[.slice A0_0 l0_0.length c0_0, .int .i64 a0_1, .int .i64 a0_2, .int .i64 a0_3], .slice A1 l1.length c1] w fun e w' => e = .returned (.bool r) ∧ Below w.heap.size w w' := by
 have hu26 := Tryz.underlying26
 have HR0_0 := Aside0.mk hr0_0
 have HC0_0 := Aside0.mk hc0_0
 clear hr0_0 hc0_0
 have HR1 := Aside0.mk hr1
 have HC1 := Aside0.mk hc1
 clear hr1 hc1
 have HB := Aside0.mk (Below.refl w.heap.size w)
 have HR := Lib.hid hr
 clear hr
 have HT := Aside0.mk hT
 clear hT
 have H : ((L_right.f k l0_0 a0_1 a0_2 a0_3).bind fun t254 => (if t254 = true then (if (l1.length : Int) > 16 then (L_Rival.j0 k l1 true l0_0 a0_1 a0_2 a0_3) else ((R_Rising.f k l1 (wrap64 ((l0_0.length : Int) - 1))).bind fun t255 => (L_Rival.j0 k l1 (!t255) l0_0 a0_1 a0_2 a0_3))) else (L_Rival.j0 k l1 true l0_0 a0_1 a0_2 a0_3))) = some r := h
 clear h
 have HC3 := Aside0.mk H
 clear H
 go_enter Tryz.func6, Tryz.ntmps6
 go_upto_region 1 with (first | ((with_reducible refine gate_dst (N := 2) rfl ?_); (try (refine gate_guard (by rfl) ?_; dsimp only)); refine box_event ?hg (N := 2) ?hd (cs := #[.slice A0_0 l0_0.length c0_0, .int .i64 a0_1, .int .i64 a0_2, .int .i64 a0_3]) (t := 26) ?hr ?_; (case hd => rfl); (case hg => rfl); (case hr => first | (go_simp; done) | (go_simp; rfl)); intro gb253 hg w4 hbox hb; have n0_ := Aside0.mk (below_step (wup HB.out) hb); have n1_ := Aside0.mk (hbox); have n2_ := Aside0.mk ((by rw [hg]; exact (below_size (wup HB.out)) : w.heap.size ≤ gb253)); have n3_ := Aside0.mk ((by rw [hg]; exact (below_size (wup HB.out)) : w.heap.size ≤ gb253)); clear HB; have HB := n0_; have BK253 := n1_; have GW253 := n2_; have GE253 := n3_; clear n0_ n1_ n2_ n3_; clear hb hbox hg))
 (try simp only [Act.put, List.setIfInBounds_toArray, List.set_cons_zero, List.set_cons_succ])
 go_cut [31] (fun v31 wc => ∃ (kq : Nat) (x31_2 : Bool), v31 = .bool x31_2 ∧ Aside0 (L_Rival.j0 kq l1 x31_2 l0_0 a0_1 a0_2 a0_3 = some r) ∧ Aside0 (kq ≤ k) ∧ Aside0 (wc.heap[gb253]? = some (.cells #[(.slice A0_0 l0_0.length c0_0), .int .i64 a0_1, .int .i64 a0_2, .int .i64 a0_3] 26 (0, 0))) ∧ Aside0 (Below w.heap.size w wc))
 case first =>
  have H := HC3.out
  clear HC3
  replace H := Option.bind_eq_some_iff.mp H
  obtain ⟨t254, A50, H⟩ := H
  replace H : (if t254 = true then (if (l1.length : Int) > 16 then (L_Rival.j0 k l1 true l0_0 a0_1 a0_2 a0_3) else ((R_Rising.f k l1 (wrap64 ((l0_0.length : Int) - 1))).bind fun t255 => (L_Rival.j0 k l1 (!t255) l0_0 a0_1 a0_2 a0_3))) else (L_Rival.j0 k l1 true l0_0 a0_1 a0_2 a0_3)) = some r := H
  have A5 := Aside0.mk A50
  clear A50
  by_cases c6 : t254 = true
  ·subst c6
   have H1 : (if (l1.length : Int) > 16 then (L_Rival.j0 k l1 true l0_0 a0_1 a0_2 a0_3) else ((R_Rising.f k l1 (wrap64 ((l0_0.length : Int) - 1))).bind fun t255 => (L_Rival.j0 k l1 (!t255) l0_0 a0_1 a0_2 a0_3))) = some r := by rw [if_pos rfl] at H; exact H
   clear H
   have H := H1
   clear H1
   by_cases c7 : (l1.length : Int) > 16
   ·rw [if_pos c7] at H
    have c7b0 : decide (16 < (l1.length : Int)) = true := decide_eq_true c7
    have c7b1 : decide (16 < l1.length) = true := decide_eq_true (by omega)
    clear c7
    (first | rw [c7b0] | (simp only [i64_w, i32_w]; rw [c7b0]) | skip)
    have H' := Aside0.mk H
    clear H
    have hcz8_0 : w4.cell? ⟨gb253, 0, none⟩ = some (.slice A0_0 l0_0.length c0_0) := (blk_cell BK253.out 0).trans rfl
    have hcz8_1 : w4.cell? ⟨gb253, 1, none⟩ = some (.int .i64 a0_1) := (blk_cell BK253.out 1).trans rfl
    have hcz8_2 : w4.cell? ⟨gb253, 2, none⟩ = some (.int .i64 a0_2) := (blk_cell BK253.out 2).trans rfl
    have hcz8_3 : w4.cell? ⟨gb253, 3, none⟩ = some (.int .i64 a0_3) := (blk_cell BK253.out 3).trans rfl
    have hfz8_0 := blk_frozen BK253.out 0
    have hfz8_1 := blk_frozen BK253.out 1
    have hfz8_2 := blk_frozen BK253.out 2
    have hfz8_3 := blk_frozen BK253.out 3
    go_wp2_with (first | ((with_reducible refine gate_callee (f := 15) rfl ?_); refine goesL_ (some 16) rfl rfl Tryz.func15 (by kernel_rfl) rfl #[.agg #[.slice A0_0 l0_0.length c0_0, .int .i64 a0_1, .int .i64 a0_2, .int .i64 a0_3]] rfl (by (try simp only [List.map_toArray, List.map_cons, List.map_nil]); first | done | rfl | (simp only [List.length_drop, List.length_take]; rfl)) ?_; (with_reducible refine (L_right.calls k _ _ l0_0 a0_1 a0_2 a0_3 true _ ?side1 ?side2 A5.out).mono ?_); (case side1 => repeat (first | exact (Kd.C_below HR0_0.out HB.out) | (with_reducible refine Kd.C_alloc ?_ _) | (with_reducible refine Kd.C_drewN ?_ _) | (with_reducible refine Kd.C_drew ?_))); (case side2 => exact HC0_0.out); rintro e w9 ⟨rfl, hb⟩; refine ⟨_, rfl, ?_⟩; have n0_ := Aside0.mk (blk_below (g := gb253) (o := .cells #[.slice A0_0 l0_0.length c0_0, .int .i64 a0_1, .int .i64 a0_2, .int .i64 a0_3] 26 (0, 0)) (bup BK253.out) hb); have n1_ := Aside0.mk (below_step (by repeat (first | (with_reducible first | exact HB.out | apply below_alloc | apply pw_below_drewN | apply below_drew1 | refine below_set ?_ GE253.out) | exact HB.out)) hb); clear BK253; clear HB; have BK253 := n0_; have HB := n1_; clear n0_ n1_; (try clear hb); (try clear hb2); (try clear hk); (try clear hi)))
    go_meet
    case rel => exact ⟨_, (true), (by first | rfl | (simp; done) | (simp [*]; done)), H', ⟨by first | omega | exact Nat.le_refl _⟩, ⟨bup BK253.out⟩, ⟨by repeat (first | (with_reducible first | exact HB.out | apply below_alloc | apply pw_below_drewN | apply below_drew1 | refine below_set ?_ GE253.out) | exact HB.out)⟩⟩
   ·rw [if_neg c7] at H
    have c7b0 : decide (16 < (l1.length : Int)) = false := decide_eq_false c7
    have c7b1 : decide (16 < l1.length) = false := decide_eq_false (by omega)
    clear c7
    (first | rw [c7b0] | (simp only [i64_w, i32_w]; rw [c7b0]) | skip)
    replace H := Option.bind_eq_some_iff.mp H
    obtain ⟨t255, A100, H⟩ := H
    replace H : (L_Rival.j0 k l1 (!t255) l0_0 a0_1 a0_2 a0_3) = some r := H
    have A10 := Aside0.mk A100
    clear A100
    have H' := Aside0.mk H
    clear H
    have hcz11_0 : w4.cell? ⟨gb253, 0, none⟩ = some (.slice A0_0 l0_0.length c0_0) := (blk_cell BK253.out 0).trans rfl
    have hcz11_1 : w4.cell? ⟨gb253, 1, none⟩ = some (.int .i64 a0_1) := (blk_cell BK253.out 1).trans rfl
    have hcz11_2 : w4.cell? ⟨gb253, 2, none⟩ = some (.int .i64 a0_2) := (blk_cell BK253.out 2).trans rfl
    have hcz11_3 : w4.cell? ⟨gb253, 3, none⟩ = some (.int .i64 a0_3) := (blk_cell BK253.out 3).trans rfl
    have hfz11_0 := blk_frozen BK253.out 0
    have hfz11_1 := blk_frozen BK253.out 1
    have hfz11_2 := blk_frozen BK253.out 2
    have hfz11_3 := blk_frozen BK253.out 3
    go_wp2_with (first | ((with_reducible refine gate_callee (f := 15) rfl ?_); refine goesL_ (some 16) rfl rfl Tryz.func15 (by kernel_rfl) rfl #[.agg #[.slice A0_0 l0_0.length c0_0, .int .i64 a0_1, .int .i64 a0_2, .int .i64 a0_3]] rfl (by (try simp only [List.map_toArray, List.map_cons, List.map_nil]); first | done | rfl | (simp only [List.length_drop, List.length_take]; rfl)) ?_; (with_reducible refine (L_right.calls k _ _ l0_0 a0_1 a0_2 a0_3 true _ ?side1 ?side2 A5.out).mono ?_); (case side1 => repeat (first | exact (Kd.C_below HR0_0.out HB.out) | (with_reducible refine Kd.C_alloc ?_ _) | (with_reducible refine Kd.C_drewN ?_ _) | (with_reducible refine Kd.C_drew ?_))); (case side2 => exact HC0_0.out); rintro e w12 ⟨rfl, hb⟩; refine ⟨_, rfl, ?_⟩; have n0_ := Aside0.mk (blk_below (g := gb253) (o := .cells #[.slice A0_0 l0_0.length c0_0, .int .i64 a0_1, .int .i64 a0_2, .int .i64 a0_3] 26 (0, 0)) (bup BK253.out) hb); have n1_ := Aside0.mk (below_step (by repeat (first | (with_reducible first | exact HB.out | apply below_alloc | apply pw_below_drewN | apply below_drew1 | refine below_set ?_ GE253.out) | exact HB.out)) hb); clear BK253; clear HB; have BK253 := n0_; have HB := n1_; clear n0_ n1_; (try clear hb); (try clear hb2); (try clear hk); (try clear hi); have hcz13_0 : w12.cell? ⟨gb253, 0, none⟩ = some (.slice A0_0 l0_0.length c0_0) := (blk_cell BK253.out 0).trans rfl; have hcz13_1 : w12.cell? ⟨gb253, 1, none⟩ = some (.int .i64 a0_1) := (blk_cell BK253.out 1).trans rfl; have hcz13_2 : w12.cell? ⟨gb253, 2, none⟩ = some (.int .i64 a0_2) := (blk_cell BK253.out 2).trans rfl; have hcz13_3 : w12.cell? ⟨gb253, 3, none⟩ = some (.int .i64 a0_3) := (blk_cell BK253.out 3).trans rfl; have hfz13_0 := blk_frozen BK253.out 0; have hfz13_1 := blk_frozen BK253.out 1; have hfz13_2 := blk_frozen BK253.out 2; have hfz13_3 := blk_frozen BK253.out 3) | (go_at_call 27; (with_reducible refine (R_Rising.calls k _ _ l1 (wrap64 ((l0_0.length : Int) - 1)) t255 _ ?side1 ?side2 A10.out).mono ?_); (case side1 => repeat (first | exact (Kd.C_below HR1.out HB.out) | (with_reducible refine Kd.C_alloc ?_ _) | (with_reducible refine Kd.C_drewN ?_ _) | (with_reducible refine Kd.C_drew ?_))); (case side2 => exact HC1.out); rintro e w' ⟨rfl, ⟨nd, rfl⟩⟩))
    go_meet
    case rel => exact ⟨_, (!t255), (by first | rfl | (simp; done) | (simp [*]; done)), H', ⟨by first | omega | exact Nat.le_refl _⟩, ⟨bup BK253.out⟩, ⟨by repeat (first | (with_reducible first | exact HB.out | apply below_alloc | apply pw_below_drewN | apply below_drew1 | refine below_set ?_ GE253.out) | exact HB.out)⟩⟩
  ·replace c6 := Bool.eq_false_iff.mpr c6
   subst c6
   have H1 : (L_Rival.j0 k l1 true l0_0 a0_1 a0_2 a0_3) = some r := by rw [if_neg (show ¬ (false = true) by decide)] at H; exact H
   clear H
   have H := H1
   clear H1
   have H' := Aside0.mk H
   clear H
   have hcz14_0 : w4.cell? ⟨gb253, 0, none⟩ = some (.slice A0_0 l0_0.length c0_0) := (blk_cell BK253.out 0).trans rfl
   have hcz14_1 : w4.cell? ⟨gb253, 1, none⟩ = some (.int .i64 a0_1) := (blk_cell BK253.out 1).trans rfl
   have hcz14_2 : w4.cell? ⟨gb253, 2, none⟩ = some (.int .i64 a0_2) := (blk_cell BK253.out 2).trans rfl
   have hcz14_3 : w4.cell? ⟨gb253, 3, none⟩ = some (.int .i64 a0_3) := (blk_cell BK253.out 3).trans rfl
   have hfz14_0 := blk_frozen BK253.out 0
   have hfz14_1 := blk_frozen BK253.out 1
   have hfz14_2 := blk_frozen BK253.out 2
   have hfz14_3 := blk_frozen BK253.out 3
   go_wp2_with (first | ((with_reducible refine gate_callee (f := 15) rfl ?_); refine goesL_ (some 16) rfl rfl Tryz.func15 (by kernel_rfl) rfl #[.agg #[.slice A0_0 l0_0.length c0_0, .int .i64 a0_1, .int .i64 a0_2, .int .i64 a0_3]] rfl (by (try simp only [List.map_toArray, List.map_cons, List.map_nil]); first | done | rfl | (simp only [List.length_drop, List.length_take]; rfl)) ?_; (with_reducible refine (L_right.calls k _ _ l0_0 a0_1 a0_2 a0_3 false _ ?side1 ?side2 A5.out).mono ?_); (case side1 => repeat (first | exact (Kd.C_below HR0_0.out HB.out) | (with_reducible refine Kd.C_alloc ?_ _) | (with_reducible refine Kd.C_drewN ?_ _) | (with_reducible refine Kd.C_drew ?_))); (case side2 => exact HC0_0.out); rintro e w15 ⟨rfl, hb⟩; refine ⟨_, rfl, ?_⟩; have n0_ := Aside0.mk (blk_below (g := gb253) (o := .cells #[.slice A0_0 l0_0.length c0_0, .int .i64 a0_1, .int .i64 a0_2, .int .i64 a0_3] 26 (0, 0)) (bup BK253.out) hb); have n1_ := Aside0.mk (below_step (by repeat (first | (with_reducible first | exact HB.out | apply below_alloc | apply pw_below_drewN | apply below_drew1 | refine below_set ?_ GE253.out) | exact HB.out)) hb); clear BK253; clear HB; have BK253 := n0_; have HB := n1_; clear n0_ n1_; (try clear hb); (try clear hb2); (try clear hk); (try clear hi)))
   go_meet
   case rel => exact ⟨_, (true), (by first | rfl | (simp; done) | (simp [*]; done)), H', ⟨by first | omega | exact Nat.le_refl _⟩, ⟨bup BK253.out⟩, ⟨by repeat (first | (with_reducible first | exact HB.out | apply below_alloc | apply pw_below_drewN | apply below_drew1 | refine below_set ?_ GE253.out) | exact HB.out)⟩⟩
 case rest =>
  clear HC3
  obtain ⟨kq, x31_2, rfl, HA, HJ2, BK253, HB⟩ := hcut
  cases kq with
  | zero => exact absurd HA.out (by simp [L_Rival.j0])
  | succ kj2 =>
   have H := HA.out
   clear HA
   simp only [L_Rival.j0] at H
   by_cases c16 : x31_2 = true
   ·subst c16
    have H1 : ((L_known.f).bind fun t256 => (some t256)) = some r := by rw [if_pos rfl] at H; exact H
    clear H
    have H := H1
    clear H1
    replace H := Option.bind_eq_some_iff.mp H
    obtain ⟨t256, A170, H⟩ := H
    replace H : (some t256) = some r := H
    have A17 := Aside0.mk A170
    clear A170
    obtain rfl := Option.some.inj H
    go_wp2_with (first | ((with_reducible refine gate_callee (f := 17) rfl ?_); refine goesL_ (some 32) rfl rfl Tryz.func17 (by kernel_rfl) rfl #[] rfl (by (try simp only [List.map_toArray, List.map_cons, List.map_nil]); first | done | rfl | (simp only [List.length_drop, List.length_take]; rfl)) ?_; (with_reducible refine (L_known.calls  t256 _ A17.out ?sideT).mono ?_); (case sideT => exact HT.out.below (by repeat (first | (with_reducible first | exact HB.out | apply below_alloc | apply pw_below_drewN | apply below_drew1 | refine below_set ?_ GE253.out) | exact HB.out))); rintro e w18 ⟨rfl, hb⟩; refine ⟨_, rfl, ?_⟩; have n0_ := Aside0.mk (blk_below (g := gb253) (o := .cells #[.slice A0_0 l0_0.length c0_0, .int .i64 a0_1, .int .i64 a0_2, .int .i64 a0_3] 26 (0, 0)) (bup BK253.out) hb); have n1_ := Aside0.mk (below_step (by repeat (first | (with_reducible first | exact HB.out | apply below_alloc | apply pw_below_drewN | apply below_drew1 | refine below_set ?_ GE253.out) | exact HB.out)) hb); clear BK253; clear HB; have BK253 := n0_; have HB := n1_; clear n0_ n1_; (try clear hb); (try clear hb2); (try clear hk); (try clear hi)))
    go_ret
    exact ⟨by first | rfl | (simp [errW_none, errW_some] <;> rfl) | (simp [*, errW_none, errW_some] <;> rfl), by repeat (first | (with_reducible first | exact HB.out | apply below_alloc | apply pw_below_drewN | apply below_drew1 | refine below_set ?_ GE253.out) | exact HB.out)⟩
   ·replace c16 := Bool.eq_false_iff.mpr c16
    subst c16
    have H1 : ((column_Jumps.f l0_0 a0_1 a0_2 a0_3).bind fun bt257 => ((column_Wrong.f l0_0 a0_1 a0_2 a0_3).bind fun bt261 => ((column_Count.f l0_0 a0_1 a0_2 a0_3).bind fun bt265 => ((column_Suspect.f l0_0 a0_1 a0_2 a0_3).bind fun bt267 => (if bt257.2 = 0 then (if bt261.2 = 0 then (if bt265.2 = 0 then (if bt267.2 = 0 then (if (bt257.1.length : Int) > (l0_0.length : Int) then (L_Rival.j1 kj2 l1 bt257.1 bt261.1 bt265.1 bt267.1 true l0_0 a0_1 a0_2 a0_3) else ((R_Rising.f kj2 bt257.1 (wrap64 ((l0_0.length : Int) - 1))).bind fun t271 => (if t271 = true then (if (bt261.1.length : Int) > (l0_0.length : Int) then (L_Rival.j1 kj2 l1 bt257.1 bt261.1 bt265.1 bt267.1 true l0_0 a0_1 a0_2 a0_3) else ((R_Rising.f kj2 bt261.1 (wrap64 ((l0_0.length : Int) - 1))).bind fun t272 => (if t272 = true then ((R_Covers.f kj2 l0_0 a0_1 a0_2 a0_3 bt261.1 bt257.1).bind fun t273 => (if t273 = true then (if bt265.1 < 1 then (L_Rival.j1 kj2 l1 bt257.1 bt261.1 bt265.1 bt267.1 true l0_0 a0_1 a0_2 a0_3) else (L_Rival.j1 kj2 l1 bt257.1 bt261.1 bt265.1 bt267.1 ((bt267.1.length : Int) != (l0_0.length : Int)) l0_0 a0_1 a0_2 a0_3)) else (L_Rival.j1 kj2 l1 bt257.1 bt261.1 bt265.1 bt267.1 true l0_0 a0_1 a0_2 a0_3))) else (L_Rival.j1 kj2 l1 bt257.1 bt261.1 bt265.1 bt267.1 true l0_0 a0_1 a0_2 a0_3)))) else (L_Rival.j1 kj2 l1 bt257.1 bt261.1 bt265.1 bt267.1 true l0_0 a0_1 a0_2 a0_3)))) else (L_Rival.j1 kj2 l1 bt257.1 bt261.1 bt265.1 bt267.1 true l0_0 a0_1 a0_2 a0_3)) else (L_Rival.j1 kj2 l1 bt257.1 bt261.1 bt265.1 bt267.1 true l0_0 a0_1 a0_2 a0_3)) else (L_Rival.j1 kj2 l1 bt257.1 bt261.1 bt265.1 bt267.1 true l0_0 a0_1 a0_2 a0_3)) else (L_Rival.j1 kj2 l1 bt257.1 bt261.1 bt265.1 bt267.1 true l0_0 a0_1 a0_2 a0_3)))))) = some r := by rw [if_neg (show ¬ (false = true) by decide)] at H; exact H
    clear H
    have H := H1
    clear H1
    replace H := Option.bind_eq_some_iff.mp H
    obtain ⟨⟨t257, t260⟩, A190, H⟩ := H
    replace H : ((column_Wrong.f l0_0 a0_1 a0_2 a0_3).bind fun bt261 => ((column_Count.f l0_0 a0_1 a0_2 a0_3).bind fun bt265 => ((column_Suspect.f l0_0 a0_1 a0_2 a0_3).bind fun bt267 => (if t260 = 0 then (if bt261.2 = 0 then (if bt265.2 = 0 then (if bt267.2 = 0 then (if (t257.length : Int) > (l0_0.length : Int) then (L_Rival.j1 kj2 l1 t257 bt261.1 bt265.1 bt267.1 true l0_0 a0_1 a0_2 a0_3) else ((R_Rising.f kj2 t257 (wrap64 ((l0_0.length : Int) - 1))).bind fun t271 => (if t271 = true then (if (bt261.1.length : Int) > (l0_0.length : Int) then (L_Rival.j1 kj2 l1 t257 bt261.1 bt265.1 bt267.1 true l0_0 a0_1 a0_2 a0_3) else ((R_Rising.f kj2 bt261.1 (wrap64 ((l0_0.length : Int) - 1))).bind fun t272 => (if t272 = true then ((R_Covers.f kj2 l0_0 a0_1 a0_2 a0_3 bt261.1 t257).bind fun t273 => (if t273 = true then (if bt265.1 < 1 then (L_Rival.j1 kj2 l1 t257 bt261.1 bt265.1 bt267.1 true l0_0 a0_1 a0_2 a0_3) else (L_Rival.j1 kj2 l1 t257 bt261.1 bt265.1 bt267.1 ((bt267.1.length : Int) != (l0_0.length : Int)) l0_0 a0_1 a0_2 a0_3)) else (L_Rival.j1 kj2 l1 t257 bt261.1 bt265.1 bt267.1 true l0_0 a0_1 a0_2 a0_3))) else (L_Rival.j1 kj2 l1 t257 bt261.1 bt265.1 bt267.1 true l0_0 a0_1 a0_2 a0_3)))) else (L_Rival.j1 kj2 l1 t257 bt261.1 bt265.1 bt267.1 true l0_0 a0_1 a0_2 a0_3)))) else (L_Rival.j1 kj2 l1 t257 bt261.1 bt265.1 bt267.1 true l0_0 a0_1 a0_2 a0_3)) else (L_Rival.j1 kj2 l1 t257 bt261.1 bt265.1 bt267.1 true l0_0 a0_1 a0_2 a0_3)) else (L_Rival.j1 kj2 l1 t257 bt261.1 bt265.1 bt267.1 true l0_0 a0_1 a0_2 a0_3)) else (L_Rival.j1 kj2 l1 t257 bt261.1 bt265.1 bt267.1 true l0_0 a0_1 a0_2 a0_3))))) = some r := H
    have A19 := Aside0.mk A190
    clear A190
    replace H := Option.bind_eq_some_iff.mp H
    obtain ⟨⟨t261, t264⟩, A200, H⟩ := H
    replace H : ((column_Count.f l0_0 a0_1 a0_2 a0_3).bind fun bt265 => ((column_Suspect.f l0_0 a0_1 a0_2 a0_3).bind fun bt267 => (if t260 = 0 then (if t264 = 0 then (if bt265.2 = 0 then (if bt267.2 = 0 then (if (t257.length : Int) > (l0_0.length : Int) then (L_Rival.j1 kj2 l1 t257 t261 bt265.1 bt267.1 true l0_0 a0_1 a0_2 a0_3) else ((R_Rising.f kj2 t257 (wrap64 ((l0_0.length : Int) - 1))).bind fun t271 => (if t271 = true then (if (t261.length : Int) > (l0_0.length : Int) then (L_Rival.j1 kj2 l1 t257 t261 bt265.1 bt267.1 true l0_0 a0_1 a0_2 a0_3) else ((R_Rising.f kj2 t261 (wrap64 ((l0_0.length : Int) - 1))).bind fun t272 => (if t272 = true then ((R_Covers.f kj2 l0_0 a0_1 a0_2 a0_3 t261 t257).bind fun t273 => (if t273 = true then (if bt265.1 < 1 then (L_Rival.j1 kj2 l1 t257 t261 bt265.1 bt267.1 true l0_0 a0_1 a0_2 a0_3) else (L_Rival.j1 kj2 l1 t257 t261 bt265.1 bt267.1 ((bt267.1.length : Int) != (l0_0.length : Int)) l0_0 a0_1 a0_2 a0_3)) else (L_Rival.j1 kj2 l1 t257 t261 bt265.1 bt267.1 true l0_0 a0_1 a0_2 a0_3))) else (L_Rival.j1 kj2 l1 t257 t261 bt265.1 bt267.1 true l0_0 a0_1 a0_2 a0_3)))) else (L_Rival.j1 kj2 l1 t257 t261 bt265.1 bt267.1 true l0_0 a0_1 a0_2 a0_3)))) else (L_Rival.j1 kj2 l1 t257 t261 bt265.1 bt267.1 true l0_0 a0_1 a0_2 a0_3)) else (L_Rival.j1 kj2 l1 t257 t261 bt265.1 bt267.1 true l0_0 a0_1 a0_2 a0_3)) else (L_Rival.j1 kj2 l1 t257 t261 bt265.1 bt267.1 true l0_0 a0_1 a0_2 a0_3)) else (L_Rival.j1 kj2 l1 t257 t261 bt265.1 bt267.1 true l0_0 a0_1 a0_2 a0_3)))) = some r := H
    have A20 := Aside0.mk A200
    clear A200
    replace H := Option.bind_eq_some_iff.mp H
    obtain ⟨⟨t265, t266⟩, A210, H⟩ := H
    replace H : ((column_Suspect.f l0_0 a0_1 a0_2 a0_3).bind fun bt267 => (if t260 = 0 then (if t264 = 0 then (if t266 = 0 then (if bt267.2 = 0 then (if (t257.length : Int) > (l0_0.length : Int) then (L_Rival.j1 kj2 l1 t257 t261 t265 bt267.1 true l0_0 a0_1 a0_2 a0_3) else ((R_Rising.f kj2 t257 (wrap64 ((l0_0.length : Int) - 1))).bind fun t271 => (if t271 = true then (if (t261.length : Int) > (l0_0.length : Int) then (L_Rival.j1 kj2 l1 t257 t261 t265 bt267.1 true l0_0 a0_1 a0_2 a0_3) else ((R_Rising.f kj2 t261 (wrap64 ((l0_0.length : Int) - 1))).bind fun t272 => (if t272 = true then ((R_Covers.f kj2 l0_0 a0_1 a0_2 a0_3 t261 t257).bind fun t273 => (if t273 = true then (if t265 < 1 then (L_Rival.j1 kj2 l1 t257 t261 t265 bt267.1 true l0_0 a0_1 a0_2 a0_3) else (L_Rival.j1 kj2 l1 t257 t261 t265 bt267.1 ((bt267.1.length : Int) != (l0_0.length : Int)) l0_0 a0_1 a0_2 a0_3)) else (L_Rival.j1 kj2 l1 t257 t261 t265 bt267.1 true l0_0 a0_1 a0_2 a0_3))) else (L_Rival.j1 kj2 l1 t257 t261 t265 bt267.1 true l0_0 a0_1 a0_2 a0_3)))) else (L_Rival.j1 kj2 l1 t257 t261 t265 bt267.1 true l0_0 a0_1 a0_2 a0_3)))) else (L_Rival.j1 kj2 l1 t257 t261 t265 bt267.1 true l0_0 a0_1 a0_2 a0_3)) else (L_Rival.j1 kj2 l1 t257 t261 t265 bt267.1 true l0_0 a0_1 a0_2 a0_3)) else (L_Rival.j1 kj2 l1 t257 t261 t265 bt267.1 true l0_0 a0_1 a0_2 a0_3)) else (L_Rival.j1 kj2 l1 t257 t261 t265 bt267.1 true l0_0 a0_1 a0_2 a0_3))) = some r := H
    have A21 := Aside0.mk A210
    clear A210
    replace H := Option.bind_eq_some_iff.mp H
    obtain ⟨⟨t267, t270⟩, A220, H⟩ := H
    replace H : (if t260 = 0 then (if t264 = 0 then (if t266 = 0 then (if t270 = 0 then (if (t257.length : Int) > (l0_0.length : Int) then (L_Rival.j1 kj2 l1 t257 t261 t265 t267 true l0_0 a0_1 a0_2 a0_3) else ((R_Rising.f kj2 t257 (wrap64 ((l0_0.length : Int) - 1))).bind fun t271 => (if t271 = true then (if (t261.length : Int) > (l0_0.length : Int) then (L_Rival.j1 kj2 l1 t257 t261 t265 t267 true l0_0 a0_1 a0_2 a0_3) else ((R_Rising.f kj2 t261 (wrap64 ((l0_0.length : Int) - 1))).bind fun t272 => (if t272 = true then ((R_Covers.f kj2 l0_0 a0_1 a0_2 a0_3 t261 t257).bind fun t273 => (if t273 = true then (if t265 < 1 then (L_Rival.j1 kj2 l1 t257 t261 t265 t267 true l0_0 a0_1 a0_2 a0_3) else (L_Rival.j1 kj2 l1 t257 t261 t265 t267 ((t267.length : Int) != (l0_0.length : Int)) l0_0 a0_1 a0_2 a0_3)) else (L_Rival.j1 kj2 l1 t257 t261 t265 t267 true l0_0 a0_1 a0_2 a0_3))) else (L_Rival.j1 kj2 l1 t257 t261 t265 t267 true l0_0 a0_1 a0_2 a0_3)))) else (L_Rival.j1 kj2 l1 t257 t261 t265 t267 true l0_0 a0_1 a0_2 a0_3)))) else (L_Rival.j1 kj2 l1 t257 t261 t265 t267 true l0_0 a0_1 a0_2 a0_3)) else (L_Rival.j1 kj2 l1 t257 t261 t265 t267 true l0_0 a0_1 a0_2 a0_3)) else (L_Rival.j1 kj2 l1 t257 t261 t265 t267 true l0_0 a0_1 a0_2 a0_3)) else (L_Rival.j1 kj2 l1 t257 t261 t265 t267 true l0_0 a0_1 a0_2 a0_3)) = some r := H
    have A22 := Aside0.mk A220
    clear A220
    have HC23 := Aside0.mk H
    clear H
    have hcz24_0 : wc.cell? ⟨gb253, 0, none⟩ = some (.slice A0_0 l0_0.length c0_0) := (blk_cell BK253.out 0).trans rfl
    have hcz24_1 : wc.cell? ⟨gb253, 1, none⟩ = some (.int .i64 a0_1) := (blk_cell BK253.out 1).trans rfl
    have hcz24_2 : wc.cell? ⟨gb253, 2, none⟩ = some (.int .i64 a0_2) := (blk_cell BK253.out 2).trans rfl
    have hcz24_3 : wc.cell? ⟨gb253, 3, none⟩ = some (.int .i64 a0_3) := (blk_cell BK253.out 3).trans rfl
    have hfz24_0 := blk_frozen BK253.out 0
    have hfz24_1 := blk_frozen BK253.out 1
    have hfz24_2 := blk_frozen BK253.out 2
    have hfz24_3 := blk_frozen BK253.out 3
    go_upto_region 7 with (first | ((with_reducible refine gate_callee (f := 22) rfl ?_); refine goesL_ (some 35) rfl rfl Tryz.func22 (by kernel_rfl) rfl #[.agg #[.slice A0_0 l0_0.length c0_0, .int .i64 a0_1, .int .i64 a0_2, .int .i64 a0_3]] rfl (by (try simp only [List.map_toArray, List.map_cons, List.map_nil]); first | done | rfl | (simp only [List.length_drop, List.length_take]; rfl)) ?_; (with_reducible refine (column_Jumps.calls _ _ l0_0 a0_1 a0_2 a0_3 t257 t260 _ ?side1 ?side2 A19.out).mono ?_); (case side1 => repeat (first | exact (Kd.C_below HR0_0.out HB.out) | (with_reducible refine Kd.C_alloc ?_ _) | (with_reducible refine Kd.C_drewN ?_ _) | (with_reducible refine Kd.C_drew ?_))); (case side2 => exact HC0_0.out); rintro e w25 ⟨v258, rfl, ho0, hb⟩; refine ⟨_, rfl, ?_⟩; have n0_ := Aside0.mk (Kd.R_lower ho0 (below_size (by repeat (first | (with_reducible first | exact HB.out | apply below_alloc | apply pw_below_drewN | apply below_drew1 | refine below_set ?_ GE253.out) | exact HB.out)))); have n1_ := Aside0.mk (blk_below (g := gb253) (o := .cells #[.slice A0_0 l0_0.length c0_0, .int .i64 a0_1, .int .i64 a0_2, .int .i64 a0_3] 26 (0, 0)) (bup BK253.out) hb); have n2_ := Aside0.mk (below_step (by repeat (first | (with_reducible first | exact HB.out | apply below_alloc | apply pw_below_drewN | apply below_drew1 | refine below_set ?_ GE253.out) | exact HB.out)) hb); clear BK253; clear HB; have HO259 := n0_; have BK253 := n1_; have HB := n2_; clear n0_ n1_ n2_; (try clear hb); (try clear hb2); (try clear hk); (try clear hi); (try clear ho0); have hcz26_0 : w25.cell? ⟨gb253, 0, none⟩ = some (.slice A0_0 l0_0.length c0_0) := (blk_cell BK253.out 0).trans rfl; have hcz26_1 : w25.cell? ⟨gb253, 1, none⟩ = some (.int .i64 a0_1) := (blk_cell BK253.out 1).trans rfl; have hcz26_2 : w25.cell? ⟨gb253, 2, none⟩ = some (.int .i64 a0_2) := (blk_cell BK253.out 2).trans rfl; have hcz26_3 : w25.cell? ⟨gb253, 3, none⟩ = some (.int .i64 a0_3) := (blk_cell BK253.out 3).trans rfl; have hfz26_0 := blk_frozen BK253.out 0; have hfz26_1 := blk_frozen BK253.out 1; have hfz26_2 := blk_frozen BK253.out 2; have hfz26_3 := blk_frozen BK253.out 3) | ((with_reducible refine gate_callee (f := 28) rfl ?_); refine goesL_ (some 40) rfl rfl Tryz.func28 (by kernel_rfl) rfl #[.agg #[.slice A0_0 l0_0.length c0_0, .int .i64 a0_1, .int .i64 a0_2, .int .i64 a0_3]] rfl (by (try simp only [List.map_toArray, List.map_cons, List.map_nil]); first | done | rfl | (simp only [List.length_drop, List.length_take]; rfl)) ?_; (with_reducible refine (column_Wrong.calls _ _ l0_0 a0_1 a0_2 a0_3 t261 t264 _ ?side1 ?side2 A20.out).mono ?_); (case side1 => repeat (first | exact (Kd.C_below HR0_0.out HB.out) | (with_reducible refine Kd.C_alloc ?_ _) | (with_reducible refine Kd.C_drewN ?_ _) | (with_reducible refine Kd.C_drew ?_))); (case side2 => exact HC0_0.out); rintro e w27 ⟨v262, rfl, ho0, hb⟩; refine ⟨_, rfl, ?_⟩; have n0_ := Aside0.mk (Kd.R_elder' (rup HO259.out) (Kd.R_base ho0) hb); have n1_ := Aside0.mk (Kd.R_lower (Kd.R_new' ho0 (Kd.R_lt (rup HO259.out))) (below_size (by repeat (first | (with_reducible first | exact HB.out | apply below_alloc | apply pw_below_drewN | apply below_drew1 | refine below_set ?_ GE253.out) | exact HB.out)))); have n2_ := Aside0.mk (blk_below (g := gb253) (o := .cells #[.slice A0_0 l0_0.length c0_0, .int .i64 a0_1, .int .i64 a0_2, .int .i64 a0_3] 26 (0, 0)) (bup BK253.out) hb); have n3_ := Aside0.mk (below_step (by repeat (first | (with_reducible first | exact HB.out | apply below_alloc | apply pw_below_drewN | apply below_drew1 | refine below_set ?_ GE253.out) | exact HB.out)) hb); clear HO259; clear BK253; clear HB; have HO259 := n0_; have HO263 := n1_; have BK253 := n2_; have HB := n3_; clear n0_ n1_ n2_ n3_; (try clear hb); (try clear hb2); (try clear hk); (try clear hi); (try clear ho0); have hcz28_0 : w27.cell? ⟨gb253, 0, none⟩ = some (.slice A0_0 l0_0.length c0_0) := (blk_cell BK253.out 0).trans rfl; have hcz28_1 : w27.cell? ⟨gb253, 1, none⟩ = some (.int .i64 a0_1) := (blk_cell BK253.out 1).trans rfl; have hcz28_2 : w27.cell? ⟨gb253, 2, none⟩ = some (.int .i64 a0_2) := (blk_cell BK253.out 2).trans rfl; have hcz28_3 : w27.cell? ⟨gb253, 3, none⟩ = some (.int .i64 a0_3) := (blk_cell BK253.out 3).trans rfl; have hfz28_0 := blk_frozen BK253.out 0; have hfz28_1 := blk_frozen BK253.out 1; have hfz28_2 := blk_frozen BK253.out 2; have hfz28_3 := blk_frozen BK253.out 3) | ((with_reducible refine gate_callee (f := 29) rfl ?_); refine goesL_ (some 45) rfl rfl Tryz.func29 (by kernel_rfl) rfl #[.agg #[.slice A0_0 l0_0.length c0_0, .int .i64 a0_1, .int .i64 a0_2, .int .i64 a0_3]] rfl (by (try simp only [List.map_toArray, List.map_cons, List.map_nil]); first | done | rfl | (simp only [List.length_drop, List.length_take]; rfl)) ?_; (with_reducible refine (column_Count.calls _ _ l0_0 a0_1 a0_2 a0_3 t265 t266 _ ?side1 ?side2 A21.out).mono ?_); (case side1 => repeat (first | exact (Kd.C_below HR0_0.out HB.out) | (with_reducible refine Kd.C_alloc ?_ _) | (with_reducible refine Kd.C_drewN ?_ _) | (with_reducible refine Kd.C_drew ?_))); (case side2 => exact HC0_0.out); rintro e w29 ⟨rfl, hb⟩; refine ⟨_, rfl, ?_⟩; have n0_ := Aside0.mk (Kd.R_below (rup HO259.out) hb); have n1_ := Aside0.mk (Kd.R_below (rup HO263.out) hb); have n2_ := Aside0.mk (blk_below (g := gb253) (o := .cells #[.slice A0_0 l0_0.length c0_0, .int .i64 a0_1, .int .i64 a0_2, .int .i64 a0_3] 26 (0, 0)) (bup BK253.out) hb); have n3_ := Aside0.mk (below_step (by repeat (first | (with_reducible first | exact HB.out | apply below_alloc | apply pw_below_drewN | apply below_drew1 | refine below_set ?_ GE253.out) | exact HB.out)) hb); clear HO259; clear HO263; clear BK253; clear HB; have HO259 := n0_; have HO263 := n1_; have BK253 := n2_; have HB := n3_; clear n0_ n1_ n2_ n3_; (try clear hb); (try clear hb2); (try clear hk); (try clear hi); have hcz30_0 : w29.cell? ⟨gb253, 0, none⟩ = some (.slice A0_0 l0_0.length c0_0) := (blk_cell BK253.out 0).trans rfl; have hcz30_1 : w29.cell? ⟨gb253, 1, none⟩ = some (.int .i64 a0_1) := (blk_cell BK253.out 1).trans rfl; have hcz30_2 : w29.cell? ⟨gb253, 2, none⟩ = some (.int .i64 a0_2) := (blk_cell BK253.out 2).trans rfl; have hcz30_3 : w29.cell? ⟨gb253, 3, none⟩ = some (.int .i64 a0_3) := (blk_cell BK253.out 3).trans rfl; have hfz30_0 := blk_frozen BK253.out 0; have hfz30_1 := blk_frozen BK253.out 1; have hfz30_2 := blk_frozen BK253.out 2; have hfz30_3 := blk_frozen BK253.out 3) | ((with_reducible refine gate_callee (f := 30) rfl ?_); refine goesL_ (some 50) rfl rfl Tryz.func30 (by kernel_rfl) rfl #[.agg #[.slice A0_0 l0_0.length c0_0, .int .i64 a0_1, .int .i64 a0_2, .int .i64 a0_3]] rfl (by (try simp only [List.map_toArray, List.map_cons, List.map_nil]); first | done | rfl | (simp only [List.length_drop, List.length_take]; rfl)) ?_; (with_reducible refine (column_Suspect.calls _ _ l0_0 a0_1 a0_2 a0_3 t267 t270 _ ?side1 ?side2 A22.out).mono ?_); (case side1 => repeat (first | exact (Kd.C_below HR0_0.out HB.out) | (with_reducible refine Kd.C_alloc ?_ _) | (with_reducible refine Kd.C_drewN ?_ _) | (with_reducible refine Kd.C_drew ?_))); (case side2 => exact HC0_0.out); rintro e w31 ⟨v268, rfl, ho0, hb⟩; refine ⟨_, rfl, ?_⟩; have n0_ := Aside0.mk (Kd.R_below (rup HO259.out) hb); have n1_ := Aside0.mk (Kd.R_below (rup HO263.out) hb); have n2_ := Aside0.mk (Kd.R_lower ho0 (below_size (by repeat (first | (with_reducible first | exact HB.out | apply below_alloc | apply pw_below_drewN | apply below_drew1 | refine below_set ?_ GE253.out) | exact HB.out)))); have n3_ := Aside0.mk (blk_below (g := gb253) (o := .cells #[.slice A0_0 l0_0.length c0_0, .int .i64 a0_1, .int .i64 a0_2, .int .i64 a0_3] 26 (0, 0)) (bup BK253.out) hb); have n4_ := Aside0.mk (below_step (by repeat (first | (with_reducible first | exact HB.out | apply below_alloc | apply pw_below_drewN | apply below_drew1 | refine below_set ?_ GE253.out) | exact HB.out)) hb); clear HO259; clear HO263; clear BK253; clear HB; have HO259 := n0_; have HO263 := n1_; have HO269 := n2_; have BK253 := n3_; have HB := n4_; clear n0_ n1_ n2_ n3_ n4_; (try clear hb); (try clear hb2); (try clear hk); (try clear hi); (try clear ho0)))
    (try simp only [Act.put, List.setIfInBounds_toArray, List.set_cons_zero, List.set_cons_succ])
    go_cut [119] (fun v119 wc => ∃ (kq : Nat) (x119_22 : Bool), v119 = .bool x119_22 ∧ Aside0 (L_Rival.j1 kq l1 t257 t261 t265 t267 x119_22 l0_0 a0_1 a0_2 a0_3 = some r) ∧ Aside0 (kq ≤ kj2) ∧ Aside0 (Kd.R (Kd.int .i64) 3 wc w.heap.size (fun k_ => some k_ ≠ (v262 : Value).ownBlock) v258 t257) ∧ Aside0 (Kd.R (Kd.int .i64) 3 wc w.heap.size (fun k_ => some k_ ≠ (v258 : Value).ownBlock) v262 t261) ∧ Aside0 (Kd.R (Kd.int .i64) 53 wc w.heap.size (fun _ => True) v268 t267) ∧ Aside0 (wc.heap[gb253]? = some (.cells #[(.slice A0_0 l0_0.length c0_0), .int .i64 a0_1, .int .i64 a0_2, .int .i64 a0_3] 26 (0, 0))) ∧ Aside0 (Below w.heap.size w wc))
    case first =>
     have H := HC23.out
     clear HC23
     have c32 : t260 = 0 := Classical.byContradiction fun q_ => by rw [if_neg q_] at H; exact L_Rival.absurd_j1 H HR.out
     rw [if_pos c32] at H
     have c32b0 : (t260 == 0) = true := beq_iff_eq.mpr c32
     have c32b1 : (t260 != 0) = false := bne_eq_false_iff_eq.mpr c32
     clear c32
     (first | rw [c32b0] | (simp only [i64_w, i32_w]; rw [c32b0]) | skip)
     have c33 : t264 = 0 := Classical.byContradiction fun q_ => by rw [if_neg q_] at H; exact L_Rival.absurd_j1 H HR.out
     rw [if_pos c33] at H
     have c33b0 : (t264 == 0) = true := beq_iff_eq.mpr c33
     have c33b1 : (t264 != 0) = false := bne_eq_false_iff_eq.mpr c33
     clear c33
     have c34 : t266 = 0 := Classical.byContradiction fun q_ => by rw [if_neg q_] at H; exact L_Rival.absurd_j1 H HR.out
     rw [if_pos c34] at H
     have c34b0 : (t266 == 0) = true := beq_iff_eq.mpr c34
     have c34b1 : (t266 != 0) = false := bne_eq_false_iff_eq.mpr c34
     clear c34
     have c35 : t270 = 0 := Classical.byContradiction fun q_ => by rw [if_neg q_] at H; exact L_Rival.absurd_j1 H HR.out
     rw [if_pos c35] at H
     have c35b0 : (t270 == 0) = true := beq_iff_eq.mpr c35
     have c35b1 : (t270 != 0) = false := bne_eq_false_iff_eq.mpr c35
     clear c35
     have c36 : ¬ ((t257.length : Int) > (l0_0.length : Int)) := fun q_ => by rw [if_pos q_] at H; exact L_Rival.absurd_j1 H HR.out
     rw [if_neg c36] at H
     have c36b0 : decide ((l0_0.length : Int) < (t257.length : Int)) = false := decide_eq_false c36
     have c36b1 : decide (l0_0.length < t257.length) = false := decide_eq_false (fun h => c36 (Int.ofNat_lt.mpr h))
     clear c36
     replace H := Option.bind_eq_some_iff.mp H
     obtain ⟨t271, A390, H⟩ := H
     replace H : (if t271 = true then (if (t261.length : Int) > (l0_0.length : Int) then (L_Rival.j1 kj2 l1 t257 t261 t265 t267 true l0_0 a0_1 a0_2 a0_3) else ((R_Rising.f kj2 t261 (wrap64 ((l0_0.length : Int) - 1))).bind fun t272 => (if t272 = true then ((R_Covers.f kj2 l0_0 a0_1 a0_2 a0_3 t261 t257).bind fun t273 => (if t273 = true then (if t265 < 1 then (L_Rival.j1 kj2 l1 t257 t261 t265 t267 true l0_0 a0_1 a0_2 a0_3) else (L_Rival.j1 kj2 l1 t257 t261 t265 t267 ((t267.length : Int) != (l0_0.length : Int)) l0_0 a0_1 a0_2 a0_3)) else (L_Rival.j1 kj2 l1 t257 t261 t265 t267 true l0_0 a0_1 a0_2 a0_3))) else (L_Rival.j1 kj2 l1 t257 t261 t265 t267 true l0_0 a0_1 a0_2 a0_3)))) else (L_Rival.j1 kj2 l1 t257 t261 t265 t267 true l0_0 a0_1 a0_2 a0_3)) = some r := H
     have A39 := Aside0.mk A390
     clear A390
     have c40 : t271 = true := Classical.byContradiction fun q_ => by rw [if_neg q_] at H; exact L_Rival.absurd_j1 H HR.out
     subst c40
     have H1 : (if (t261.length : Int) > (l0_0.length : Int) then (L_Rival.j1 kj2 l1 t257 t261 t265 t267 true l0_0 a0_1 a0_2 a0_3) else ((R_Rising.f kj2 t261 (wrap64 ((l0_0.length : Int) - 1))).bind fun t272 => (if t272 = true then ((R_Covers.f kj2 l0_0 a0_1 a0_2 a0_3 t261 t257).bind fun t273 => (if t273 = true then (if t265 < 1 then (L_Rival.j1 kj2 l1 t257 t261 t265 t267 true l0_0 a0_1 a0_2 a0_3) else (L_Rival.j1 kj2 l1 t257 t261 t265 t267 ((t267.length : Int) != (l0_0.length : Int)) l0_0 a0_1 a0_2 a0_3)) else (L_Rival.j1 kj2 l1 t257 t261 t265 t267 true l0_0 a0_1 a0_2 a0_3))) else (L_Rival.j1 kj2 l1 t257 t261 t265 t267 true l0_0 a0_1 a0_2 a0_3)))) = some r := by rw [if_pos rfl] at H; exact H
     clear H
     have H := H1
     clear H1
     have c41 : ¬ ((t261.length : Int) > (l0_0.length : Int)) := fun q_ => by rw [if_pos q_] at H; exact L_Rival.absurd_j1 H HR.out
     rw [if_neg c41] at H
     have c41b0 : decide ((l0_0.length : Int) < (t261.length : Int)) = false := decide_eq_false c41
     have c41b1 : decide (l0_0.length < t261.length) = false := decide_eq_false (fun h => c41 (Int.ofNat_lt.mpr h))
     clear c41
     replace H := Option.bind_eq_some_iff.mp H
     obtain ⟨t272, A450, H⟩ := H
     replace H : (if t272 = true then ((R_Covers.f kj2 l0_0 a0_1 a0_2 a0_3 t261 t257).bind fun t273 => (if t273 = true then (if t265 < 1 then (L_Rival.j1 kj2 l1 t257 t261 t265 t267 true l0_0 a0_1 a0_2 a0_3) else (L_Rival.j1 kj2 l1 t257 t261 t265 t267 ((t267.length : Int) != (l0_0.length : Int)) l0_0 a0_1 a0_2 a0_3)) else (L_Rival.j1 kj2 l1 t257 t261 t265 t267 true l0_0 a0_1 a0_2 a0_3))) else (L_Rival.j1 kj2 l1 t257 t261 t265 t267 true l0_0 a0_1 a0_2 a0_3)) = some r := H
     have A45 := Aside0.mk A450
     clear A450
     have c46 : t272 = true := Classical.byContradiction fun q_ => by rw [if_neg q_] at H; exact L_Rival.absurd_j1 H HR.out
     subst c46
     have H1 : ((R_Covers.f kj2 l0_0 a0_1 a0_2 a0_3 t261 t257).bind fun t273 => (if t273 = true then (if t265 < 1 then (L_Rival.j1 kj2 l1 t257 t261 t265 t267 true l0_0 a0_1 a0_2 a0_3) else (L_Rival.j1 kj2 l1 t257 t261 t265 t267 ((t267.length : Int) != (l0_0.length : Int)) l0_0 a0_1 a0_2 a0_3)) else (L_Rival.j1 kj2 l1 t257 t261 t265 t267 true l0_0 a0_1 a0_2 a0_3))) = some r := by rw [if_pos rfl] at H; exact H
     clear H
     have H := H1
     clear H1
     replace H := Option.bind_eq_some_iff.mp H
     obtain ⟨t273, A470, H⟩ := H
     replace H : (if t273 = true then (if t265 < 1 then (L_Rival.j1 kj2 l1 t257 t261 t265 t267 true l0_0 a0_1 a0_2 a0_3) else (L_Rival.j1 kj2 l1 t257 t261 t265 t267 ((t267.length : Int) != (l0_0.length : Int)) l0_0 a0_1 a0_2 a0_3)) else (L_Rival.j1 kj2 l1 t257 t261 t265 t267 true l0_0 a0_1 a0_2 a0_3)) = some r := H
     have A47 := Aside0.mk A470
     clear A470
     have c48 : t273 = true := Classical.byContradiction fun q_ => by rw [if_neg q_] at H; exact L_Rival.absurd_j1 H HR.out
     subst c48
     have H1 : (if t265 < 1 then (L_Rival.j1 kj2 l1 t257 t261 t265 t267 true l0_0 a0_1 a0_2 a0_3) else (L_Rival.j1 kj2 l1 t257 t261 t265 t267 ((t267.length : Int) != (l0_0.length : Int)) l0_0 a0_1 a0_2 a0_3)) = some r := by rw [if_pos rfl] at H; exact H
     clear H
     have H := H1
     clear H1
     have c49 : ¬ (t265 < 1) := fun q_ => by rw [if_pos q_] at H; exact L_Rival.absurd_j1 H HR.out
     rw [if_neg c49] at H
     have c49b0 : decide (t265 < 1) = false := decide_eq_false c49
     clear c49
     have H' := Aside0.mk H
     clear H
     obtain ⟨Ao54, co54, eo54⟩ := Kd.R_slice HO259.out
     subst eo54
     have hcz55_0 : w31.cell? ⟨gb253, 0, none⟩ = some (.slice A0_0 l0_0.length c0_0) := (blk_cell BK253.out 0).trans rfl
     have hcz55_1 : w31.cell? ⟨gb253, 1, none⟩ = some (.int .i64 a0_1) := (blk_cell BK253.out 1).trans rfl
     have hcz55_2 : w31.cell? ⟨gb253, 2, none⟩ = some (.int .i64 a0_2) := (blk_cell BK253.out 2).trans rfl
     have hcz55_3 : w31.cell? ⟨gb253, 3, none⟩ = some (.int .i64 a0_3) := (blk_cell BK253.out 3).trans rfl
     have hfz55_0 := blk_frozen BK253.out 0
     have hfz55_1 := blk_frozen BK253.out 1
     have hfz55_2 := blk_frozen BK253.out 2
     have hfz55_3 := blk_frozen BK253.out 3
     go_wp2_with (first | (go_at_call 27; (with_reducible refine (R_Rising.calls kj2 _ _ t257 (wrap64 ((l0_0.length : Int) - 1)) true _ ?side1 ?side2 A39.out).mono ?_); (case side1 => repeat (first | exact (Kd.R_reads' HO259.out).2.2 | (with_reducible refine Kd.C_alloc ?_ _) | (with_reducible refine Kd.C_drewN ?_ _) | (with_reducible refine Kd.C_drew ?_))); (case side2 => exact (Kd.R_reads' HO259.out).2.1); rintro e w' ⟨rfl, ⟨nd, rfl⟩⟩; obtain ⟨Ao56, co56, eo56⟩ := Kd.R_slice HO263.out; subst eo56) | (go_at_call 27; (with_reducible refine (R_Rising.calls kj2 _ _ t261 (wrap64 ((l0_0.length : Int) - 1)) true _ ?side1 ?side2 A45.out).mono ?_); (case side1 => repeat (first | exact (Kd.R_reads' HO263.out).2.2 | (with_reducible refine Kd.C_alloc ?_ _) | (with_reducible refine Kd.C_drewN ?_ _) | (with_reducible refine Kd.C_drew ?_))); (case side2 => exact (Kd.R_reads' HO263.out).2.1); rintro e w' ⟨rfl, ⟨nd, rfl⟩⟩) | (go_at_call 31; (with_reducible refine (R_Covers.calls kj2 _ _ l0_0 a0_1 a0_2 a0_3 _ _ t261 _ _ t257 true _ ?side1 ?side2 ?side3 ?side4 ?side5 ?side6 A47.out).mono ?_); (case side1 => repeat (first | exact (Kd.C_below HR0_0.out (by repeat (first | (with_reducible first | exact HB.out | apply below_alloc | apply pw_below_drewN | apply below_drew1 | refine below_set ?_ GE253.out) | exact HB.out))) | (with_reducible refine Kd.C_alloc ?_ _) | (with_reducible refine Kd.C_drewN ?_ _) | (with_reducible refine Kd.C_drew ?_))); (case side2 => exact HC0_0.out); (case side3 => repeat (first | exact (Kd.R_reads' HO263.out).2.2 | (with_reducible refine Kd.C_alloc ?_ _) | (with_reducible refine Kd.C_drewN ?_ _) | (with_reducible refine Kd.C_drew ?_))); (case side4 => exact (Kd.R_reads' HO263.out).2.1); (case side5 => repeat (first | exact (Kd.R_reads' HO259.out).2.2 | (with_reducible refine Kd.C_alloc ?_ _) | (with_reducible refine Kd.C_drewN ?_ _) | (with_reducible refine Kd.C_drew ?_))); (case side6 => exact (Kd.R_reads' HO259.out).2.1); rintro e w57 ⟨rfl, hb⟩; have n0_ := Aside0.mk (Kd.R_below (rup HO259.out) hb); have n1_ := Aside0.mk (Kd.R_below (rup HO263.out) hb); have n2_ := Aside0.mk (Kd.R_below (rup HO269.out) hb); have n3_ := Aside0.mk (blk_below (g := gb253) (o := .cells #[.slice A0_0 l0_0.length c0_0, .int .i64 a0_1, .int .i64 a0_2, .int .i64 a0_3] 26 (0, 0)) (bup BK253.out) hb); have n4_ := Aside0.mk (below_step (by repeat (first | (with_reducible first | exact HB.out | apply below_alloc | apply pw_below_drewN | apply below_drew1 | refine below_set ?_ GE253.out) | exact HB.out)) hb); clear HO259; clear HO263; clear HO269; clear BK253; clear HB; have HO259 := n0_; have HO263 := n1_; have HO269 := n2_; have BK253 := n3_; have HB := n4_; clear n0_ n1_ n2_ n3_ n4_; (try clear hb); (try clear hb2); (try clear hk); (try clear hi); obtain ⟨Ao58, co58, eo58⟩ := Kd.R_slice HO269.out; subst eo58; have hcz59_0 : w57.cell? ⟨gb253, 0, none⟩ = some (.slice A0_0 l0_0.length c0_0) := (blk_cell BK253.out 0).trans rfl; have hcz59_1 : w57.cell? ⟨gb253, 1, none⟩ = some (.int .i64 a0_1) := (blk_cell BK253.out 1).trans rfl; have hcz59_2 : w57.cell? ⟨gb253, 2, none⟩ = some (.int .i64 a0_2) := (blk_cell BK253.out 2).trans rfl; have hcz59_3 : w57.cell? ⟨gb253, 3, none⟩ = some (.int .i64 a0_3) := (blk_cell BK253.out 3).trans rfl; have hfz59_0 := blk_frozen BK253.out 0; have hfz59_1 := blk_frozen BK253.out 1; have hfz59_2 := blk_frozen BK253.out 2; have hfz59_3 := blk_frozen BK253.out 3))
     go_meet
     case rel => exact ⟨_, (((t267.length : Int) != (l0_0.length : Int))), (by first | rfl | (simp; done) | (simp [*]; done)), H', ⟨by have := HJ2.out; first | omega | exact Nat.le_refl _⟩, ⟨rup (Kd.R_mono HO259.out (fun _ hk => hk.2))⟩, ⟨rup (Kd.R_mono HO263.out (fun _ hk => hk.2))⟩, ⟨rup HO269.out⟩, ⟨bup BK253.out⟩, ⟨by repeat (first | (with_reducible first | exact HB.out | apply below_alloc | apply pw_below_drewN | apply below_drew1 | refine below_set ?_ GE253.out) | exact HB.out)⟩⟩
    case rest =>
     clear HC23
     obtain ⟨kq, x119_22, rfl, HA, HJ22, HO_5, HO_7, HO_11, BK253, HB⟩ := hcut
     cases kq with
     | zero => exact absurd HA.out (by simp [L_Rival.j1])
     | succ kj22 =>
      have H := HA.out
      clear HA
      simp only [L_Rival.j1] at H
      have c69 : ¬ (x119_22 = true) := fun q_ => by rw [if_pos q_] at H; exact L_Rival.absurd_f H HR.out
      replace c69 := Bool.eq_false_iff.mpr c69
      subst c69
      have H1 : ((R_Covers.f kj22 l0_0 a0_1 a0_2 a0_3 l1 t257).bind fun t274 => (if t274 = true then (if (l1.length : Int) = (t261.length : Int) then (L_Rival.l0 kj22 l1 t261 t265 t267 0) else (if (l1.length : Int) > (t261.length : Int) then ((L_known.f).bind fun t276 => (some t276)) else (some false))) else ((L_known.f).bind fun t275 => (some t275)))) = some r := by rw [if_neg (show ¬ (false = true) by decide)] at H; exact H
      clear H
      have H := H1
      clear H1
      replace H := Option.bind_eq_some_iff.mp H
      obtain ⟨t274, A700, H⟩ := H
      replace H : (if t274 = true then (if (l1.length : Int) = (t261.length : Int) then (L_Rival.l0 kj22 l1 t261 t265 t267 0) else (if (l1.length : Int) > (t261.length : Int) then ((L_known.f).bind fun t276 => (some t276)) else (some false))) else ((L_known.f).bind fun t275 => (some t275))) = some r := H
      have A70 := Aside0.mk A700
      clear A700
      by_cases c71 : t274 = true
      ·subst c71
       have H1 : (if (l1.length : Int) = (t261.length : Int) then (L_Rival.l0 kj22 l1 t261 t265 t267 0) else (if (l1.length : Int) > (t261.length : Int) then ((L_known.f).bind fun t276 => (some t276)) else (some false))) = some r := by rw [if_pos rfl] at H; exact H
       clear H
       have H := H1
       clear H1
       by_cases c72 : (l1.length : Int) = (t261.length : Int)
       ·rw [if_pos c72] at H
        have c72b0 : ((l1.length : Int) == (t261.length : Int)) = true := beq_iff_eq.mpr c72
        have c72b1 : ((l1.length : Int) != (t261.length : Int)) = false := bne_eq_false_iff_eq.mpr c72
        have c72b2 : (l1.length == t261.length) = true := by first | simpa using c72 | (simp at c72 ⊢; omega)
        clear c72
        have H' := Aside0.mk H
        clear H
        have hcz73_0 : wc.cell? ⟨gb253, 0, none⟩ = some (.slice A0_0 l0_0.length c0_0) := (blk_cell BK253.out 0).trans rfl
        have hcz73_1 : wc.cell? ⟨gb253, 1, none⟩ = some (.int .i64 a0_1) := (blk_cell BK253.out 1).trans rfl
        have hcz73_2 : wc.cell? ⟨gb253, 2, none⟩ = some (.int .i64 a0_2) := (blk_cell BK253.out 2).trans rfl
        have hcz73_3 : wc.cell? ⟨gb253, 3, none⟩ = some (.int .i64 a0_3) := (blk_cell BK253.out 3).trans rfl
        have hfz73_0 := blk_frozen BK253.out 0
        have hfz73_1 := blk_frozen BK253.out 1
        have hfz73_2 := blk_frozen BK253.out 2
        have hfz73_3 := blk_frozen BK253.out 3
        obtain ⟨Ao74, co74, eo74⟩ := Kd.R_slice HO_5.out
        subst eo74
        go_wp2_with (first | ((with_reducible refine gate_callee (f := 31) rfl ?_); refine goesL_ (some 123) rfl rfl Tryz.func31 (by kernel_rfl) rfl #[.agg #[.slice A0_0 l0_0.length c0_0, .int .i64 a0_1, .int .i64 a0_2, .int .i64 a0_3], .slice A1 l1.length c1, .slice Ao74 t257.length co74] rfl (by (try simp only [List.map_toArray, List.map_cons, List.map_nil]); first | done | rfl | (simp only [List.length_drop, List.length_take]; rfl)) ?_; (with_reducible refine (R_Covers.calls kj22 _ _ l0_0 a0_1 a0_2 a0_3 _ _ l1 _ _ t257 true _ ?side1 ?side2 ?side3 ?side4 ?side5 ?side6 A70.out).mono ?_); (case side1 => repeat (first | exact (Kd.C_below HR0_0.out HB.out) | (with_reducible refine Kd.C_alloc ?_ _) | (with_reducible refine Kd.C_drewN ?_ _) | (with_reducible refine Kd.C_drew ?_))); (case side2 => exact HC0_0.out); (case side3 => repeat (first | exact (Kd.C_below HR1.out HB.out) | (with_reducible refine Kd.C_alloc ?_ _) | (with_reducible refine Kd.C_drewN ?_ _) | (with_reducible refine Kd.C_drew ?_))); (case side4 => exact HC1.out); (case side5 => repeat (first | exact (Kd.R_reads' HO_5.out).2.2 | (with_reducible refine Kd.C_alloc ?_ _) | (with_reducible refine Kd.C_drewN ?_ _) | (with_reducible refine Kd.C_drew ?_))); (case side6 => exact (Kd.R_reads' HO_5.out).2.1); rintro e w75 ⟨rfl, hb⟩; refine ⟨_, rfl, ?_⟩; have n0_ := Aside0.mk (Kd.R_below (rup HO_5.out) hb); have n1_ := Aside0.mk (Kd.R_below (rup HO_7.out) hb); have n2_ := Aside0.mk (Kd.R_below (rup HO_11.out) hb); have n3_ := Aside0.mk (blk_below (g := gb253) (o := .cells #[.slice A0_0 l0_0.length c0_0, .int .i64 a0_1, .int .i64 a0_2, .int .i64 a0_3] 26 (0, 0)) (bup BK253.out) hb); have n4_ := Aside0.mk (below_step (by repeat (first | (with_reducible first | exact HB.out | apply below_alloc | apply pw_below_drewN | apply below_drew1 | refine below_set ?_ GE253.out) | exact HB.out)) hb); clear HO_5; clear HO_7; clear HO_11; clear BK253; clear HB; have HO_5 := n0_; have HO_7 := n1_; have HO_11 := n2_; have BK253 := n3_; have HB := n4_; clear n0_ n1_ n2_ n3_ n4_; (try clear hb); (try clear hb2); (try clear hk); (try clear hi); obtain ⟨Ao76, co76, eo76⟩ := Kd.R_slice HO_7.out; subst eo76))
        go_loopg [13] kj22 (fun kq v13 w' => ∃ (x13_3 : Int), v13 = .int .i64 x13_3 ∧ Aside0 (L_Rival.l0 kq l1 t261 t265 t267 x13_3 = some r) ∧ Aside0 (kq ≤ kj22) ∧ Aside0 (Kd.R (Kd.int .i64) 3 w' w.heap.size (fun _ => True) (.slice Ao76 t261.length co76) t261) ∧ Aside0 (Kd.R (Kd.int .i64) 53 w' w.heap.size (fun _ => True) v268 t267) ∧ Aside0 (w'.heap[gb253]? = some (.cells #[(.slice A0_0 l0_0.length c0_0), .int .i64 a0_1, .int .i64 a0_2, .int .i64 a0_3] 26 (0, 0))) ∧ Aside0 (Below w.heap.size w w'))
        case atStart => exact ⟨(0), (by first | rfl | (simp; done) | (simp [*]; done)), H', ⟨Nat.le_refl _⟩, ⟨rup (Kd.R_mono HO_7.out (fun _ hk => trivial))⟩, ⟨rup HO_11.out⟩, ⟨bup BK253.out⟩, ⟨by repeat (first | (with_reducible first | exact HB.out | apply below_alloc | apply pw_below_drewN | apply below_drew1 | refine below_set ?_ GE253.out) | exact HB.out)⟩⟩
        case round =>
         clear H'
         obtain ⟨x13_3, rfl, HA, HK3, HO_7, HO_11, BK253, HB⟩ := hrel
         cases gk with
         | zero => exact absurd HA.out (by simp [L_Rival.l0])
         | succ k3 =>
          have H := HA.out
          clear HA
          simp only [L_Rival.l0] at H
          by_cases c77 : x13_3 < (t267.length : Int)
          ·rw [if_pos c77] at H
           have c77b0 : decide (x13_3 < (t267.length : Int)) = true := decide_eq_true c77
           clear c77
           replace H := Option.bind_eq_some_iff.mp H
           obtain ⟨t277, A780, H⟩ := H
           replace H : (if 0 ≤ x13_3 then (if (rd t267 x13_3) < 1 then (some false) else (if (rd t267 x13_3) > 3 then (some false) else (if t277 = true then (if (rd t267 x13_3) = 1 then (some false) else (L_Rival.l0 k3 l1 t261 t265 t267 (wrap64 (x13_3 + 1)))) else (if (rd t267 x13_3) = 3 then (some false) else (L_Rival.l0 k3 l1 t261 t265 t267 (wrap64 (x13_3 + 1))))))) else (none)) = some r := H
           have A78 := Aside0.mk A780
           clear A780
           by_cases c79 : 0 ≤ x13_3
           ·rw [if_pos c79] at H
            have c79b0 : decide (0 ≤ x13_3) = true := decide_eq_true c79
            clear c79
            have c80 : ¬ ((rd t267 x13_3) < 1) := fun q_ => by rw [if_pos q_] at H; exact L_Rival.absurd_f H HR.out
            rw [if_neg c80] at H
            have c80b0 : decide ((rd t267 x13_3) < 1) = false := decide_eq_false c80
            clear c80
            have c82 : ¬ ((rd t267 x13_3) > 3) := fun q_ => by rw [if_pos q_] at H; exact L_Rival.absurd_f H HR.out
            rw [if_neg c82] at H
            have c82b0 : decide (3 < (rd t267 x13_3)) = false := decide_eq_false c82
            clear c82
            by_cases c84 : t277 = true
            ·subst c84
             have H1 : (if (rd t267 x13_3) = 1 then (some false) else (L_Rival.l0 k3 l1 t261 t265 t267 (wrap64 (x13_3 + 1)))) = some r := by rw [if_pos rfl] at H; exact H
             clear H
             have H := H1
             clear H1
             have c85 : ¬ ((rd t267 x13_3) = 1) := fun q_ => by rw [if_pos q_] at H; exact L_Rival.absurd_f H HR.out
             rw [if_neg c85] at H
             have c85b0 : ((rd t267 x13_3) == 1) = false := beq_eq_false_iff_ne.mpr c85
             have c85b1 : ((rd t267 x13_3) != 1) = true := bne_iff_ne.mpr c85
             have H' := Aside0.mk H
             clear H
             obtain ⟨Ao87, co87, eo87⟩ := Kd.R_slice HO_11.out
             subst eo87
             go_wp2_with (first | ((with_reducible refine gate_callee (f := 32) rfl ?_); refine goesL_ (some 147) rfl rfl Tryz.func32 (by kernel_rfl) rfl #[.slice A1 l1.length c1, .int .i64 x13_3] rfl (by (try simp only [List.map_toArray, List.map_cons, List.map_nil]); first | done | rfl | (simp only [List.length_drop, List.length_take]; rfl)) ?_; (with_reducible refine (T_Listed.calls k3 _ _ l1 x13_3 true _ ?side1 ?side2 A78.out).mono ?_); (case side1 => repeat (first | exact (Kd.C_below HR1.out HB.out) | (with_reducible refine Kd.C_alloc ?_ _) | (with_reducible refine Kd.C_drewN ?_ _) | (with_reducible refine Kd.C_drew ?_))); (case side2 => exact HC1.out); rintro e w' ⟨rfl, ⟨nd, rfl⟩⟩; refine ⟨_, rfl, ?_⟩; have p278 : 0 ≤ (x13_3 : Int) := of_decide_eq_true (by first | (with_reducible assumption) | assumption); have q278 : x13_3 < (t267.length : Int) := of_decide_eq_true (by first | (with_reducible assumption) | assumption); obtain ⟨ad278, e278, hx278_0⟩ := Kd.at_int (Kd.R_reads' HO_11.out).2.2 x13_3 p278 q278; cases e278; replace p278 := eq_true p278; replace q278 := eq_true q278; have p279 : 0 ≤ (x13_3 : Int) := of_decide_eq_true (by first | (with_reducible assumption) | assumption); have q279 : x13_3 < (t267.length : Int) := of_decide_eq_true (by first | (with_reducible assumption) | assumption); obtain ⟨ad279, e279, hx279_0⟩ := Kd.at_int (Kd.R_reads' HO_11.out).2.2 x13_3 p279 q279; obtain rfl : ad278 = ad279 := (by injection e279); replace p279 := eq_true p279; replace q279 := eq_true q279; have p280 : 0 ≤ (x13_3 : Int) := of_decide_eq_true (by first | (with_reducible assumption) | assumption); have q280 : x13_3 < (t267.length : Int) := of_decide_eq_true (by first | (with_reducible assumption) | assumption); obtain ⟨ad280, e280, hx280_0⟩ := Kd.at_int (Kd.R_reads' HO_11.out).2.2 x13_3 p280 q280; obtain rfl : ad278 = ad280 := (by injection e280); replace p280 := eq_true p280; replace q280 := eq_true q280))
             go_roundg k3
             case measure => have := HJ2.out; have := HJ22.out; have := HK3.out; omega
             case rel => exact ⟨(wrap64 (x13_3 + 1)), (by first | rfl | (simp; done) | (simp [*]; done)), H', ⟨by have := HJ2.out; have := HJ22.out; have := HK3.out; omega⟩, ⟨rup HO_7.out⟩, ⟨rup HO_11.out⟩, ⟨bup BK253.out⟩, ⟨by repeat (first | (with_reducible first | exact HB.out | apply below_alloc | apply pw_below_drewN | apply below_drew1 | refine below_set ?_ GE253.out) | exact HB.out)⟩⟩
            ·replace c84 := Bool.eq_false_iff.mpr c84
             subst c84
             have H1 : (if (rd t267 x13_3) = 3 then (some false) else (L_Rival.l0 k3 l1 t261 t265 t267 (wrap64 (x13_3 + 1)))) = some r := by rw [if_neg (show ¬ (false = true) by decide)] at H; exact H
             clear H
             have H := H1
             clear H1
             have c88 : ¬ ((rd t267 x13_3) = 3) := fun q_ => by rw [if_pos q_] at H; exact L_Rival.absurd_f H HR.out
             rw [if_neg c88] at H
             have c88b0 : ((rd t267 x13_3) == 3) = false := beq_eq_false_iff_ne.mpr c88
             have c88b1 : ((rd t267 x13_3) != 3) = true := bne_iff_ne.mpr c88
             have H' := Aside0.mk H
             clear H
             obtain ⟨Ao90, co90, eo90⟩ := Kd.R_slice HO_11.out
             subst eo90
             go_wp2_with (first | ((with_reducible refine gate_callee (f := 32) rfl ?_); refine goesL_ (some 147) rfl rfl Tryz.func32 (by kernel_rfl) rfl #[.slice A1 l1.length c1, .int .i64 x13_3] rfl (by (try simp only [List.map_toArray, List.map_cons, List.map_nil]); first | done | rfl | (simp only [List.length_drop, List.length_take]; rfl)) ?_; (with_reducible refine (T_Listed.calls k3 _ _ l1 x13_3 false _ ?side1 ?side2 A78.out).mono ?_); (case side1 => repeat (first | exact (Kd.C_below HR1.out HB.out) | (with_reducible refine Kd.C_alloc ?_ _) | (with_reducible refine Kd.C_drewN ?_ _) | (with_reducible refine Kd.C_drew ?_))); (case side2 => exact HC1.out); rintro e w' ⟨rfl, ⟨nd, rfl⟩⟩; refine ⟨_, rfl, ?_⟩; have p278 : 0 ≤ (x13_3 : Int) := of_decide_eq_true (by first | (with_reducible assumption) | assumption); have q278 : x13_3 < (t267.length : Int) := of_decide_eq_true (by first | (with_reducible assumption) | assumption); obtain ⟨ad278, e278, hx278_0⟩ := Kd.at_int (Kd.R_reads' HO_11.out).2.2 x13_3 p278 q278; cases e278; replace p278 := eq_true p278; replace q278 := eq_true q278; have p279 : 0 ≤ (x13_3 : Int) := of_decide_eq_true (by first | (with_reducible assumption) | assumption); have q279 : x13_3 < (t267.length : Int) := of_decide_eq_true (by first | (with_reducible assumption) | assumption); obtain ⟨ad279, e279, hx279_0⟩ := Kd.at_int (Kd.R_reads' HO_11.out).2.2 x13_3 p279 q279; obtain rfl : ad278 = ad279 := (by injection e279); replace p279 := eq_true p279; replace q279 := eq_true q279; have p281 : 0 ≤ (x13_3 : Int) := of_decide_eq_true (by first | (with_reducible assumption) | assumption); have q281 : x13_3 < (t267.length : Int) := of_decide_eq_true (by first | (with_reducible assumption) | assumption); obtain ⟨ad281, e281, hx281_0⟩ := Kd.at_int (Kd.R_reads' HO_11.out).2.2 x13_3 p281 q281; obtain rfl : ad278 = ad281 := (by injection e281); replace p281 := eq_true p281; replace q281 := eq_true q281))
             go_roundg k3
             case measure => have := HJ2.out; have := HJ22.out; have := HK3.out; omega
             case rel => exact ⟨(wrap64 (x13_3 + 1)), (by first | rfl | (simp; done) | (simp [*]; done)), H', ⟨by have := HJ2.out; have := HJ22.out; have := HK3.out; omega⟩, ⟨rup HO_7.out⟩, ⟨rup HO_11.out⟩, ⟨bup BK253.out⟩, ⟨by repeat (first | (with_reducible first | exact HB.out | apply below_alloc | apply pw_below_drewN | apply below_drew1 | refine below_set ?_ GE253.out) | exact HB.out)⟩⟩
           ·rw [if_neg c79] at H
            exact absurd H (by simp)
          ·rw [if_neg c77] at H
           have c77b0 : decide (x13_3 < (t267.length : Int)) = false := decide_eq_false c77
           clear c77
           replace H := Option.bind_eq_some_iff.mp H
           obtain ⟨t282, A910, H⟩ := H
           replace H : (if t282 = true then (some false) else ((T_Same.f k3 l1 t261).bind fun t283 => (if t283 = true then ((L_known.f).bind fun t284 => (some t284)) else (if t265 > 1 then ((L_known.f).bind fun t285 => (some t285)) else (some false))))) = some r := H
           have A91 := Aside0.mk A910
           clear A910
           have c92 : ¬ (t282 = true) := fun q_ => by rw [if_pos q_] at H; exact L_Rival.absurd_f H HR.out
           replace c92 := Bool.eq_false_iff.mpr c92
           subst c92
           have H1 : ((T_Same.f k3 l1 t261).bind fun t283 => (if t283 = true then ((L_known.f).bind fun t284 => (some t284)) else (if t265 > 1 then ((L_known.f).bind fun t285 => (some t285)) else (some false)))) = some r := by rw [if_neg (show ¬ (false = true) by decide)] at H; exact H
           clear H
           have H := H1
           clear H1
           replace H := Option.bind_eq_some_iff.mp H
           obtain ⟨t283, A940, H⟩ := H
           replace H : (if t283 = true then ((L_known.f).bind fun t284 => (some t284)) else (if t265 > 1 then ((L_known.f).bind fun t285 => (some t285)) else (some false))) = some r := H
           have A94 := Aside0.mk A940
           clear A940
           by_cases c95 : t283 = true
           ·subst c95
            have H1 : ((L_known.f).bind fun t284 => (some t284)) = some r := by rw [if_pos rfl] at H; exact H
            clear H
            have H := H1
            clear H1
            replace H := Option.bind_eq_some_iff.mp H
            obtain ⟨t284, A960, H⟩ := H
            replace H : (some t284) = some r := H
            have A96 := Aside0.mk A960
            clear A960
            obtain rfl := Option.some.inj H
            obtain ⟨Ao97, co97, eo97⟩ := Kd.R_slice HO_11.out
            subst eo97
            go_wp2_with (first | ((with_reducible refine gate_callee (f := 33) rfl ?_); refine goesL_ (some 183) rfl rfl Tryz.func33 (by kernel_rfl) rfl #[.slice A1 l1.length c1, .slice Ao76 t261.length co76] rfl (by (try simp only [List.map_toArray, List.map_cons, List.map_nil]); first | done | rfl | (simp only [List.length_drop, List.length_take]; rfl)) ?_; (with_reducible refine (T_Before.calls k3 _ _ l1 _ _ t261 false _ ?side1 ?side2 ?side3 ?side4 A91.out).mono ?_); (case side1 => repeat (first | exact (Kd.C_below HR1.out HB.out) | (with_reducible refine Kd.C_alloc ?_ _) | (with_reducible refine Kd.C_drewN ?_ _) | (with_reducible refine Kd.C_drew ?_))); (case side2 => exact HC1.out); (case side3 => repeat (first | exact (Kd.R_reads' HO_7.out).2.2 | (with_reducible refine Kd.C_alloc ?_ _) | (with_reducible refine Kd.C_drewN ?_ _) | (with_reducible refine Kd.C_drew ?_))); (case side4 => exact (Kd.R_reads' HO_7.out).2.1); rintro e w' ⟨rfl, ⟨nd, rfl⟩⟩; refine ⟨_, rfl, ?_⟩) | (go_at_call 19; (with_reducible refine (T_Same.calls k3 _ _ l1 _ _ t261 true _ ?side1 ?side2 ?side3 ?side4 A94.out).mono ?_); (case side1 => repeat (first | exact (Kd.C_below HR1.out (by repeat (first | (with_reducible first | exact HB.out | apply below_alloc | apply pw_below_drewN | apply below_drew1 | refine below_set ?_ GE253.out) | exact HB.out))) | (with_reducible refine Kd.C_alloc ?_ _) | (with_reducible refine Kd.C_drewN ?_ _) | (with_reducible refine Kd.C_drew ?_))); (case side2 => exact HC1.out); (case side3 => repeat (first | exact (Kd.R_reads' HO_7.out).2.2 | (with_reducible refine Kd.C_alloc ?_ _) | (with_reducible refine Kd.C_drewN ?_ _) | (with_reducible refine Kd.C_drew ?_))); (case side4 => exact (Kd.R_reads' HO_7.out).2.1); rintro e w' ⟨rfl, ⟨nd, rfl⟩⟩) | (go_at_call 17; (with_reducible refine (L_known.calls  t284 _ A96.out ?sideT).mono ?_); (case sideT => exact HT.out.below (by repeat (first | (with_reducible first | exact HB.out | apply below_alloc | apply pw_below_drewN | apply below_drew1 | refine below_set ?_ GE253.out) | exact HB.out))); rintro e w98 ⟨rfl, hb⟩; have n0_ := Aside0.mk (Kd.R_below (rup HO_7.out) hb); have n1_ := Aside0.mk (Kd.R_below (rup HO_11.out) hb); have n2_ := Aside0.mk (blk_below (g := gb253) (o := .cells #[.slice A0_0 l0_0.length c0_0, .int .i64 a0_1, .int .i64 a0_2, .int .i64 a0_3] 26 (0, 0)) (bup BK253.out) hb); have n3_ := Aside0.mk (below_step (by repeat (first | (with_reducible first | exact HB.out | apply below_alloc | apply pw_below_drewN | apply below_drew1 | refine below_set ?_ GE253.out) | exact HB.out)) hb); clear HO_7; clear HO_11; clear BK253; clear HB; have HO_7 := n0_; have HO_11 := n1_; have BK253 := n2_; have HB := n3_; clear n0_ n1_ n2_ n3_; (try clear hb); (try clear hb2); (try clear hk); (try clear hi)))
            go_ret
            exact ⟨by first | rfl | (simp [errW_none, errW_some] <;> rfl) | (simp [*, errW_none, errW_some] <;> rfl), by repeat (first | (with_reducible first | exact HB.out | apply below_alloc | apply pw_below_drewN | apply below_drew1 | refine below_set ?_ GE253.out) | exact HB.out)⟩
           ·replace c95 := Bool.eq_false_iff.mpr c95
            subst c95
            have H1 : (if t265 > 1 then ((L_known.f).bind fun t285 => (some t285)) else (some false)) = some r := by rw [if_neg (show ¬ (false = true) by decide)] at H; exact H
            clear H
            have H := H1
            clear H1
            have c99 : t265 > 1 := Classical.byContradiction fun q_ => by rw [if_neg q_] at H; exact L_Rival.absurd_f H HR.out
            rw [if_pos c99] at H
            have c99b0 : decide (1 < t265) = true := decide_eq_true c99
            clear c99
            replace H := Option.bind_eq_some_iff.mp H
            obtain ⟨t285, A1000, H⟩ := H
            replace H : (some t285) = some r := H
            have A100 := Aside0.mk A1000
            clear A1000
            obtain rfl := Option.some.inj H
            obtain ⟨Ao101, co101, eo101⟩ := Kd.R_slice HO_11.out
            subst eo101
            go_wp2_with (first | ((with_reducible refine gate_callee (f := 33) rfl ?_); refine goesL_ (some 183) rfl rfl Tryz.func33 (by kernel_rfl) rfl #[.slice A1 l1.length c1, .slice Ao76 t261.length co76] rfl (by (try simp only [List.map_toArray, List.map_cons, List.map_nil]); first | done | rfl | (simp only [List.length_drop, List.length_take]; rfl)) ?_; (with_reducible refine (T_Before.calls k3 _ _ l1 _ _ t261 false _ ?side1 ?side2 ?side3 ?side4 A91.out).mono ?_); (case side1 => repeat (first | exact (Kd.C_below HR1.out HB.out) | (with_reducible refine Kd.C_alloc ?_ _) | (with_reducible refine Kd.C_drewN ?_ _) | (with_reducible refine Kd.C_drew ?_))); (case side2 => exact HC1.out); (case side3 => repeat (first | exact (Kd.R_reads' HO_7.out).2.2 | (with_reducible refine Kd.C_alloc ?_ _) | (with_reducible refine Kd.C_drewN ?_ _) | (with_reducible refine Kd.C_drew ?_))); (case side4 => exact (Kd.R_reads' HO_7.out).2.1); rintro e w' ⟨rfl, ⟨nd, rfl⟩⟩; refine ⟨_, rfl, ?_⟩) | (go_at_call 19; (with_reducible refine (T_Same.calls k3 _ _ l1 _ _ t261 false _ ?side1 ?side2 ?side3 ?side4 A94.out).mono ?_); (case side1 => repeat (first | exact (Kd.C_below HR1.out (by repeat (first | (with_reducible first | exact HB.out | apply below_alloc | apply pw_below_drewN | apply below_drew1 | refine below_set ?_ GE253.out) | exact HB.out))) | (with_reducible refine Kd.C_alloc ?_ _) | (with_reducible refine Kd.C_drewN ?_ _) | (with_reducible refine Kd.C_drew ?_))); (case side2 => exact HC1.out); (case side3 => repeat (first | exact (Kd.R_reads' HO_7.out).2.2 | (with_reducible refine Kd.C_alloc ?_ _) | (with_reducible refine Kd.C_drewN ?_ _) | (with_reducible refine Kd.C_drew ?_))); (case side4 => exact (Kd.R_reads' HO_7.out).2.1); rintro e w' ⟨rfl, ⟨nd, rfl⟩⟩) | (go_at_call 17; (with_reducible refine (L_known.calls  t285 _ A100.out ?sideT).mono ?_); (case sideT => exact HT.out.below (by repeat (first | (with_reducible first | exact HB.out | apply below_alloc | apply pw_below_drewN | apply below_drew1 | refine below_set ?_ GE253.out) | exact HB.out))); rintro e w102 ⟨rfl, hb⟩; have n0_ := Aside0.mk (Kd.R_below (rup HO_7.out) hb); have n1_ := Aside0.mk (Kd.R_below (rup HO_11.out) hb); have n2_ := Aside0.mk (blk_below (g := gb253) (o := .cells #[.slice A0_0 l0_0.length c0_0, .int .i64 a0_1, .int .i64 a0_2, .int .i64 a0_3] 26 (0, 0)) (bup BK253.out) hb); have n3_ := Aside0.mk (below_step (by repeat (first | (with_reducible first | exact HB.out | apply below_alloc | apply pw_below_drewN | apply below_drew1 | refine below_set ?_ GE253.out) | exact HB.out)) hb); clear HO_7; clear HO_11; clear BK253; clear HB; have HO_7 := n0_; have HO_11 := n1_; have BK253 := n2_; have HB := n3_; clear n0_ n1_ n2_ n3_; (try clear hb); (try clear hb2); (try clear hk); (try clear hi)))
            go_ret
            exact ⟨by first | rfl | (simp [errW_none, errW_some] <;> rfl) | (simp [*, errW_none, errW_some] <;> rfl), by repeat (first | (with_reducible first | exact HB.out | apply below_alloc | apply pw_below_drewN | apply below_drew1 | refine below_set ?_ GE253.out) | exact HB.out)⟩
       ·rw [if_neg c72] at H
        have c72b0 : ((l1.length : Int) == (t261.length : Int)) = false := beq_eq_false_iff_ne.mpr c72
        have c72b1 : ((l1.length : Int) != (t261.length : Int)) = true := bne_iff_ne.mpr c72
        have c72b2 : (l1.length == t261.length) = false := by first | simpa using c72 | (simp at c72 ⊢; omega)
        have c104 : (l1.length : Int) > (t261.length : Int) := Classical.byContradiction fun q_ => by rw [if_neg q_] at H; exact L_Rival.absurd_f H HR.out
        rw [if_pos c104] at H
        have c104b0 : decide ((t261.length : Int) < (l1.length : Int)) = true := decide_eq_true c104
        have c104b1 : decide (t261.length < l1.length) = true := decide_eq_true (Int.ofNat_lt.mp c104)
        clear c104
        replace H := Option.bind_eq_some_iff.mp H
        obtain ⟨t276, A1050, H⟩ := H
        replace H : (some t276) = some r := H
        have A105 := Aside0.mk A1050
        clear A1050
        obtain rfl := Option.some.inj H
        have hcz106_0 : wc.cell? ⟨gb253, 0, none⟩ = some (.slice A0_0 l0_0.length c0_0) := (blk_cell BK253.out 0).trans rfl
        have hcz106_1 : wc.cell? ⟨gb253, 1, none⟩ = some (.int .i64 a0_1) := (blk_cell BK253.out 1).trans rfl
        have hcz106_2 : wc.cell? ⟨gb253, 2, none⟩ = some (.int .i64 a0_2) := (blk_cell BK253.out 2).trans rfl
        have hcz106_3 : wc.cell? ⟨gb253, 3, none⟩ = some (.int .i64 a0_3) := (blk_cell BK253.out 3).trans rfl
        have hfz106_0 := blk_frozen BK253.out 0
        have hfz106_1 := blk_frozen BK253.out 1
        have hfz106_2 := blk_frozen BK253.out 2
        have hfz106_3 := blk_frozen BK253.out 3
        obtain ⟨Ao107, co107, eo107⟩ := Kd.R_slice HO_5.out
        subst eo107
        go_wp2_with (first | ((with_reducible refine gate_callee (f := 31) rfl ?_); refine goesL_ (some 123) rfl rfl Tryz.func31 (by kernel_rfl) rfl #[.agg #[.slice A0_0 l0_0.length c0_0, .int .i64 a0_1, .int .i64 a0_2, .int .i64 a0_3], .slice A1 l1.length c1, .slice Ao107 t257.length co107] rfl (by (try simp only [List.map_toArray, List.map_cons, List.map_nil]); first | done | rfl | (simp only [List.length_drop, List.length_take]; rfl)) ?_; (with_reducible refine (R_Covers.calls kj22 _ _ l0_0 a0_1 a0_2 a0_3 _ _ l1 _ _ t257 true _ ?side1 ?side2 ?side3 ?side4 ?side5 ?side6 A70.out).mono ?_); (case side1 => repeat (first | exact (Kd.C_below HR0_0.out HB.out) | (with_reducible refine Kd.C_alloc ?_ _) | (with_reducible refine Kd.C_drewN ?_ _) | (with_reducible refine Kd.C_drew ?_))); (case side2 => exact HC0_0.out); (case side3 => repeat (first | exact (Kd.C_below HR1.out HB.out) | (with_reducible refine Kd.C_alloc ?_ _) | (with_reducible refine Kd.C_drewN ?_ _) | (with_reducible refine Kd.C_drew ?_))); (case side4 => exact HC1.out); (case side5 => repeat (first | exact (Kd.R_reads' HO_5.out).2.2 | (with_reducible refine Kd.C_alloc ?_ _) | (with_reducible refine Kd.C_drewN ?_ _) | (with_reducible refine Kd.C_drew ?_))); (case side6 => exact (Kd.R_reads' HO_5.out).2.1); rintro e w108 ⟨rfl, hb⟩; refine ⟨_, rfl, ?_⟩; have n0_ := Aside0.mk (Kd.R_below (rup HO_5.out) hb); have n1_ := Aside0.mk (Kd.R_below (rup HO_7.out) hb); have n2_ := Aside0.mk (Kd.R_below (rup HO_11.out) hb); have n3_ := Aside0.mk (blk_below (g := gb253) (o := .cells #[.slice A0_0 l0_0.length c0_0, .int .i64 a0_1, .int .i64 a0_2, .int .i64 a0_3] 26 (0, 0)) (bup BK253.out) hb); have n4_ := Aside0.mk (below_step (by repeat (first | (with_reducible first | exact HB.out | apply below_alloc | apply pw_below_drewN | apply below_drew1 | refine below_set ?_ GE253.out) | exact HB.out)) hb); clear HO_5; clear HO_7; clear HO_11; clear BK253; clear HB; have HO_5 := n0_; have HO_7 := n1_; have HO_11 := n2_; have BK253 := n3_; have HB := n4_; clear n0_ n1_ n2_ n3_ n4_; (try clear hb); (try clear hb2); (try clear hk); (try clear hi); obtain ⟨Ao109, co109, eo109⟩ := Kd.R_slice HO_7.out; subst eo109) | (go_at_call 17; (with_reducible refine (L_known.calls  t276 _ A105.out ?sideT).mono ?_); (case sideT => exact HT.out.below (by repeat (first | (with_reducible first | exact HB.out | apply below_alloc | apply pw_below_drewN | apply below_drew1 | refine below_set ?_ GE253.out) | exact HB.out))); rintro e w110 ⟨rfl, hb⟩; have n0_ := Aside0.mk (Kd.R_below (rup HO_5.out) hb); have n1_ := Aside0.mk (Kd.R_below (rup HO_7.out) hb); have n2_ := Aside0.mk (Kd.R_below (rup HO_11.out) hb); have n3_ := Aside0.mk (blk_below (g := gb253) (o := .cells #[.slice A0_0 l0_0.length c0_0, .int .i64 a0_1, .int .i64 a0_2, .int .i64 a0_3] 26 (0, 0)) (bup BK253.out) hb); have n4_ := Aside0.mk (below_step (by repeat (first | (with_reducible first | exact HB.out | apply below_alloc | apply pw_below_drewN | apply below_drew1 | refine below_set ?_ GE253.out) | exact HB.out)) hb); clear HO_5; clear HO_7; clear HO_11; clear BK253; clear HB; have HO_5 := n0_; have HO_7 := n1_; have HO_11 := n2_; have BK253 := n3_; have HB := n4_; clear n0_ n1_ n2_ n3_ n4_; (try clear hb); (try clear hb2); (try clear hk); (try clear hi)))
        go_ret
        exact ⟨by first | rfl | (simp [errW_none, errW_some] <;> rfl) | (simp [*, errW_none, errW_some] <;> rfl), by repeat (first | (with_reducible first | exact HB.out | apply below_alloc | apply pw_below_drewN | apply below_drew1 | refine below_set ?_ GE253.out) | exact HB.out)⟩
      ·replace c71 := Bool.eq_false_iff.mpr c71
       subst c71
       have H1 : ((L_known.f).bind fun t275 => (some t275)) = some r := by rw [if_neg (show ¬ (false = true) by decide)] at H; exact H
       clear H
       have H := H1
       clear H1
       replace H := Option.bind_eq_some_iff.mp H
       obtain ⟨t275, A1150, H⟩ := H
       replace H : (some t275) = some r := H
       have A115 := Aside0.mk A1150
       clear A1150
       obtain rfl := Option.some.inj H
       have hcz116_0 : wc.cell? ⟨gb253, 0, none⟩ = some (.slice A0_0 l0_0.length c0_0) := (blk_cell BK253.out 0).trans rfl
       have hcz116_1 : wc.cell? ⟨gb253, 1, none⟩ = some (.int .i64 a0_1) := (blk_cell BK253.out 1).trans rfl
       have hcz116_2 : wc.cell? ⟨gb253, 2, none⟩ = some (.int .i64 a0_2) := (blk_cell BK253.out 2).trans rfl
       have hcz116_3 : wc.cell? ⟨gb253, 3, none⟩ = some (.int .i64 a0_3) := (blk_cell BK253.out 3).trans rfl
       have hfz116_0 := blk_frozen BK253.out 0
       have hfz116_1 := blk_frozen BK253.out 1
       have hfz116_2 := blk_frozen BK253.out 2
       have hfz116_3 := blk_frozen BK253.out 3
       obtain ⟨Ao117, co117, eo117⟩ := Kd.R_slice HO_5.out
       subst eo117
       go_wp2_with (first | ((with_reducible refine gate_callee (f := 31) rfl ?_); refine goesL_ (some 123) rfl rfl Tryz.func31 (by kernel_rfl) rfl #[.agg #[.slice A0_0 l0_0.length c0_0, .int .i64 a0_1, .int .i64 a0_2, .int .i64 a0_3], .slice A1 l1.length c1, .slice Ao117 t257.length co117] rfl (by (try simp only [List.map_toArray, List.map_cons, List.map_nil]); first | done | rfl | (simp only [List.length_drop, List.length_take]; rfl)) ?_; (with_reducible refine (R_Covers.calls kj22 _ _ l0_0 a0_1 a0_2 a0_3 _ _ l1 _ _ t257 false _ ?side1 ?side2 ?side3 ?side4 ?side5 ?side6 A70.out).mono ?_); (case side1 => repeat (first | exact (Kd.C_below HR0_0.out HB.out) | (with_reducible refine Kd.C_alloc ?_ _) | (with_reducible refine Kd.C_drewN ?_ _) | (with_reducible refine Kd.C_drew ?_))); (case side2 => exact HC0_0.out); (case side3 => repeat (first | exact (Kd.C_below HR1.out HB.out) | (with_reducible refine Kd.C_alloc ?_ _) | (with_reducible refine Kd.C_drewN ?_ _) | (with_reducible refine Kd.C_drew ?_))); (case side4 => exact HC1.out); (case side5 => repeat (first | exact (Kd.R_reads' HO_5.out).2.2 | (with_reducible refine Kd.C_alloc ?_ _) | (with_reducible refine Kd.C_drewN ?_ _) | (with_reducible refine Kd.C_drew ?_))); (case side6 => exact (Kd.R_reads' HO_5.out).2.1); rintro e w118 ⟨rfl, hb⟩; refine ⟨_, rfl, ?_⟩; have n0_ := Aside0.mk (Kd.R_below (rup HO_5.out) hb); have n1_ := Aside0.mk (Kd.R_below (rup HO_7.out) hb); have n2_ := Aside0.mk (Kd.R_below (rup HO_11.out) hb); have n3_ := Aside0.mk (blk_below (g := gb253) (o := .cells #[.slice A0_0 l0_0.length c0_0, .int .i64 a0_1, .int .i64 a0_2, .int .i64 a0_3] 26 (0, 0)) (bup BK253.out) hb); have n4_ := Aside0.mk (below_step (by repeat (first | (with_reducible first | exact HB.out | apply below_alloc | apply pw_below_drewN | apply below_drew1 | refine below_set ?_ GE253.out) | exact HB.out)) hb); clear HO_5; clear HO_7; clear HO_11; clear BK253; clear HB; have HO_5 := n0_; have HO_7 := n1_; have HO_11 := n2_; have BK253 := n3_; have HB := n4_; clear n0_ n1_ n2_ n3_ n4_; (try clear hb); (try clear hb2); (try clear hk); (try clear hi)) | ((with_reducible refine gate_callee (f := 17) rfl ?_); refine goesL_ (some 125) rfl rfl Tryz.func17 (by kernel_rfl) rfl #[] rfl (by (try simp only [List.map_toArray, List.map_cons, List.map_nil]); first | done | rfl | (simp only [List.length_drop, List.length_take]; rfl)) ?_; (with_reducible refine (L_known.calls  t275 _ A115.out ?sideT).mono ?_); (case sideT => exact HT.out.below (by repeat (first | (with_reducible first | exact HB.out | apply below_alloc | apply pw_below_drewN | apply below_drew1 | refine below_set ?_ GE253.out) | exact HB.out))); rintro e w119 ⟨rfl, hb⟩; refine ⟨_, rfl, ?_⟩; have n0_ := Aside0.mk (Kd.R_below (rup HO_5.out) hb); have n1_ := Aside0.mk (Kd.R_below (rup HO_7.out) hb); have n2_ := Aside0.mk (Kd.R_below (rup HO_11.out) hb); have n3_ := Aside0.mk (blk_below (g := gb253) (o := .cells #[.slice A0_0 l0_0.length c0_0, .int .i64 a0_1, .int .i64 a0_2, .int .i64 a0_3] 26 (0, 0)) (bup BK253.out) hb); have n4_ := Aside0.mk (below_step (by repeat (first | (with_reducible first | exact HB.out | apply below_alloc | apply pw_below_drewN | apply below_drew1 | refine below_set ?_ GE253.out) | exact HB.out)) hb); clear HO_5; clear HO_7; clear HO_11; clear BK253; clear HB; have HO_5 := n0_; have HO_7 := n1_; have HO_11 := n2_; have BK253 := n3_; have HB := n4_; clear n0_ n1_ n2_ n3_ n4_; (try clear hb); (try clear hb2); (try clear hk); (try clear hi)))
       go_ret
       exact ⟨by first | rfl | (simp [errW_none, errW_some] <;> rfl) | (simp [*, errW_none, errW_some] <;> rfl), by repeat (first | (with_reducible first | exact HB.out | apply below_alloc | apply pw_below_drewN | apply below_drew1 | refine below_set ?_ GE253.out) | exact HB.out)⟩
end Go.Proofs.YtohlmoppcmjknaaGreatDoor.P
end
