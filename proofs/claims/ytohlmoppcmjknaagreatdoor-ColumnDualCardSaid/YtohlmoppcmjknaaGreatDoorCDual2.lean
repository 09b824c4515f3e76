/- What the law reaches beyond the common part; joined out of several texts. -/
import Derived.Test.YtohlmoppcmjknaaGreatDoorM2
import Derived.Test.YtohlmoppcmjknaaGreatDoorM4
import Derived.Test.YtohlmoppcmjknaaGreatDoorM7
import Derived.Test.YtohlmoppcmjknaaGreatDoorM12
import Derived.Test.YtohlmoppcmjknaaGreatDoorM17
import Derived.Test.YtohlmoppcmjknaaGreatDoorM20
import Derived.Test.YtohlmoppcmjknaaGreatDoorCDual1
section
namespace Go.Proofs.YtohlmoppcmjknaaGreatDoor.P
open Go.RowKit Go.Proofs.YtohlmoppcmjknaaGreatDoorW.PrintWords Go.Proofs.YtohlmoppcmjknaaGreatDoorW.PrintLast Go.Proofs.YtohlmoppcmjknaaGreatDoorW.PrintMore
attribute [local go_sem] max2_int min2_int max_two min_two max_three min_three max_four min_four
set_option linter.unusedVariables false
set_option linter.unusedSimpArgs false
mutual
def L_Dual.j0 : Nat → List Int → Bool → List Int → Int → Int → Int → Option (Bool)
 | 0, _, _, _, _, _, _ => none
 | k + 1, x1, x29, x437000, x437001, x437002, x437003 => if x29 = true then ((L_known.f).bind fun t439 => (some t439)) else ((column_Jumps.f x437000 x437001 x437002 x437003).bind fun bt440 => ((column_Proof.f x437000 x437001 x437002 x437003).bind fun bt444 => ((column_Wrong.f x437000 x437001 x437002 x437003).bind fun bt448 => (if bt440.2 = 0 then (if bt444.2 = 0 then (if bt448.2 = 0 then (if (bt440.1.length : Int) > (x437000.length : Int) then (L_Dual.j1 k x1 bt440.1 bt444.1 true x437000 x437001 x437002 x437003) else (if (bt444.1.length : Int) > (x437000.length : Int) then (L_Dual.j1 k x1 bt440.1 bt444.1 true x437000 x437001 x437002 x437003) else ((R_Rising.f k bt444.1 (wrap64 ((x437000.length : Int) - 1))).bind fun t452 => (if t452 = true then ((R_Apart.f k x437000 x437001 x437002 x437003 bt444.1).bind fun t453 => (if t453 = true then (L_Dual.j1 k x1 bt440.1 bt444.1 ((bt444.1.length : Int) != (bt448.1.length : Int)) x437000 x437001 x437002 x437003) else (L_Dual.j1 k x1 bt440.1 bt444.1 true x437000 x437001 x437002 x437003))) else (L_Dual.j1 k x1 bt440.1 bt444.1 true x437000 x437001 x437002 x437003))))) else (L_Dual.j1 k x1 bt440.1 bt444.1 true x437000 x437001 x437002 x437003)) else (L_Dual.j1 k x1 bt440.1 bt444.1 true x437000 x437001 x437002 x437003)) else (L_Dual.j1 k x1 bt440.1 bt444.1 true x437000 x437001 x437002 x437003)))))
def L_Dual.j1 : Nat → List Int → List Int → List Int → Bool → List Int → Int → Int → Int → Option (Bool)
 | 0, _, _, _, _, _, _, _, _ => none
 | k + 1, x1, x5, x7, x93, x437000, x437001, x437002, x437003 => if x93 = true then (some false) else (L_Dual.l0 k x1 x5 x7 0 x437000 x437001 x437002 x437003)
def L_Dual.l0 : Nat → List Int → List Int → List Int → Int → List Int → Int → Int → Int → Option (Bool)
 | 0, _, _, _, _, _, _, _, _ => none
 | k + 1, x1, x5, x7, x11, x437000, x437001, x437002, x437003 => if x11 < (x7.length : Int) then (if 0 ≤ x11 then ((T_Listed.f k x5 (rd x7 x11)).bind fun t455 => (if t455 = true then (L_Dual.l0 k x1 x5 x7 (wrap64 (x11 + 1)) x437000 x437001 x437002 x437003) else (some false))) else (none)) else (L_Dual.l1 k x1 x5 x7 0 x437000 x437001 x437002 x437003)
def L_Dual.l1 : Nat → List Int → List Int → List Int → Int → List Int → Int → Int → Int → Option (Bool)
 | 0, _, _, _, _, _, _, _, _ => none
 | k + 1, x1, x5, x7, x12, x437000, x437001, x437002, x437003 => if x12 < (x1.length : Int) then (if 0 ≤ x12 then ((T_Listed.f k x5 (rd x1 x12)).bind fun t457 => (if t457 = true then (L_Dual.l1 k x1 x5 x7 (wrap64 (x12 + 1)) x437000 x437001 x437002 x437003) else ((L_known.f).bind fun t458 => (some t458)))) else (none)) else ((R_Apart.f k x437000 x437001 x437002 x437003 x1).bind fun t459 => (if t459 = true then (if (x1.length : Int) < (x7.length : Int) then ((L_known.f).bind fun t460 => (some t460)) else (if (x1.length : Int) = (x7.length : Int) then ((T_Before.f k x1 x7).bind fun t461 => (if t461 = true then (some false) else ((L_known.f).bind fun t462 => (some t462)))) else (some false))) else ((L_known.f).bind fun t463 => (some t463))))
end
def L_Dual.f (k : Nat) (l0_0 : List Int) (a0_1 : Int) (a0_2 : Int) (a0_3 : Int) (l1 : List Int) : Option (Bool) := (L_right.f k l0_0 a0_1 a0_2 a0_3).bind fun t437 => (if t437 = true then (if (l1.length : Int) > 16 then (L_Dual.j0 k l1 true l0_0 a0_1 a0_2 a0_3) else ((R_Rising.f k l1 (wrap64 ((l0_0.length : Int) - 1))).bind fun t438 => (L_Dual.j0 k l1 (!t438) l0_0 a0_1 a0_2 a0_3))) else (L_Dual.j0 k l1 true l0_0 a0_1 a0_2 a0_3))
set_option maxHeartbeats 8000000 in
set_option maxRecDepth 100000 in
theorem L_Dual.calls (k : Nat) (A0_0 : Option Addr) (c0_0 : Nat) (l0_0 : List Int) (a0_1 : Int) (a0_2 : Int) (a0_3 : Int) (A1 : Option Addr) (c1 : Nat) (l1 : List Int) (r : Bool) (w : World) (hr0_0 : Kd.C (Kd.int .i64) w A0_0 l0_0.length l0_0) (hc0_0 : l0_0.length ≤ c0_0) (hr1 : Kd.C (Kd.int .i64) w A1 l1.length l1) (hc1 : l1.length ≤ c1) (h : L_Dual.f k l0_0 a0_1 a0_2 a0_3 l1 = some r) (hT : Tryz.Glob w) :
  Calls Tryz.prog 8 #[.agg #[.slice A0_0 l0_0.length c0_0, .int .i64 a0_1, .int .i64 a0_2, .int .i64 a0_3], .slice A1 l1.length c1] w fun e w' => e = .returned (.bool r) ∧ Below w.heap.size w w' := by
 have hu26 := Tryz.underlying26
 have HR0_0 := Aside0.mk hr0_0
 have HC0_0 := Aside0.mk hc0_0
 clear hr0_0 hc0_0
 have HR1 := Aside0.mk hr1
 have HC1 := Aside0.mk hc1
 clear hr1 hc1
 have HB := Aside0.mk (Below.refl w.heap.size w)
 have HT := Aside0.mk hT
 clear hT
 have H : ((L_right.f k l0_0 a0_1 a0_2 a0_3).bind fun t437 => (if t437 = true then (if (l1.length : Int) > 16 then (L_Dual.j0 k l1 true l0_0 a0_1 a0_2 a0_3) else ((R_Rising.f k l1 (wrap64 ((l0_0.length : Int) - 1))).bind fun t438 => (L_Dual.j0 k l1 (!t438) l0_0 a0_1 a0_2 a0_3))) else (L_Dual.j0 k l1 true l0_0 a0_1 a0_2 a0_3))) = some r := h
 clear h
 have HC3 := Aside0.mk H
 clear H
 go_enter Tryz.func8, Tryz.ntmps8
 go_upto_region 1 with (first | ((with_reducible refine gate_dst (N := 2) rfl ?_); (try (refine gate_guard (by rfl) ?_; dsimp only)); refine box_event ?hg (N := 2) ?hd (cs := #[.slice A0_0 l0_0.length c0_0, .int .i64 a0_1, .int .i64 a0_2, .int .i64 a0_3]) (t := 26) ?hr ?_; (case hd => rfl); (case hg => rfl); (case hr => first | (go_simp; done) | (go_simp; rfl)); intro gb436 hg w4 hbox hb; have n0_ := Aside0.mk (below_step (wup HB.out) hb); have n1_ := Aside0.mk (hbox); have n2_ := Aside0.mk ((by rw [hg]; exact (below_size (wup HB.out)) : w.heap.size ≤ gb436)); have n3_ := Aside0.mk ((by rw [hg]; exact (below_size (wup HB.out)) : w.heap.size ≤ gb436)); clear HB; have HB := n0_; have BK436 := n1_; have GW436 := n2_; have GE436 := n3_; clear n0_ n1_ n2_ n3_; clear hb hbox hg))
 (try simp only [Act.put, List.setIfInBounds_toArray, List.set_cons_zero, List.set_cons_succ])
 go_cut [29] (fun v29 wc => ∃ (kq : Nat) (x29_2 : Bool), v29 = .bool x29_2 ∧ Aside0 (L_Dual.j0 kq l1 x29_2 l0_0 a0_1 a0_2 a0_3 = some r) ∧ Aside0 (kq ≤ k) ∧ Aside0 (wc.heap[gb436]? = some (.cells #[(.slice A0_0 l0_0.length c0_0), .int .i64 a0_1, .int .i64 a0_2, .int .i64 a0_3] 26 (0, 0))) ∧ Aside0 (Below w.heap.size w wc))
 case first =>
  have H := HC3.out
  clear HC3
  replace H := Option.bind_eq_some_iff.mp H
  obtain ⟨t437, A50, H⟩ := H
  replace H : (if t437 = true then (if (l1.length : Int) > 16 then (L_Dual.j0 k l1 true l0_0 a0_1 a0_2 a0_3) else ((R_Rising.f k l1 (wrap64 ((l0_0.length : Int) - 1))).bind fun t438 => (L_Dual.j0 k l1 (!t438) l0_0 a0_1 a0_2 a0_3))) else (L_Dual.j0 k l1 true l0_0 a0_1 a0_2 a0_3)) = some r := H
  have A5 := Aside0.mk A50
  clear A50
  by_cases c6 : t437 = true
  ·subst c6
   have H1 : (if (l1.length : Int) > 16 then (L_Dual.j0 k l1 true l0_0 a0_1 a0_2 a0_3) else ((R_Rising.f k l1 (wrap64 ((l0_0.length : Int) - 1))).bind fun t438 => (L_Dual.j0 k l1 (!t438) l0_0 a0_1 a0_2 a0_3))) = some r := by rw [if_pos rfl] at H; exact H
   clear H
   have H := H1
   clear H1
   by_cases c7 : (l1.length : Int) > 16
   ·rw [if_pos c7] at H
    have c7b0 : decide (16 < (l1.length : Int)) = true := decide_eq_true c7
    have c7b1 : decide (16 < l1.length) = true := decide_eq_true (by omega)
    clear c7
    (first | rw [c7b0] | (simp only [i64_w, i32_w]; rw [c7b0]) | skip)
    have H' := Aside0.mk H
    clear H
    have hcz8_0 : w4.cell? ⟨gb436, 0, none⟩ = some (.slice A0_0 l0_0.length c0_0) := (blk_cell BK436.out 0).trans rfl
    have hcz8_1 : w4.cell? ⟨gb436, 1, none⟩ = some (.int .i64 a0_1) := (blk_cell BK436.out 1).trans rfl
    have hcz8_2 : w4.cell? ⟨gb436, 2, none⟩ = some (.int .i64 a0_2) := (blk_cell BK436.out 2).trans rfl
    have hcz8_3 : w4.cell? ⟨gb436, 3, none⟩ = some (.int .i64 a0_3) := (blk_cell BK436.out 3).trans rfl
    have hfz8_0 := blk_frozen BK436.out 0
    have hfz8_1 := blk_frozen BK436.out 1
    have hfz8_2 := blk_frozen BK436.out 2
    have hfz8_3 := blk_frozen BK436.out 3
    go_wp2_with (first | ((with_reducible refine gate_callee (f := 15) rfl ?_); refine goesL_ (some 14) rfl rfl Tryz.func15 (by kernel_rfl) rfl #[.agg #[.slice A0_0 l0_0.length c0_0, .int .i64 a0_1, .int .i64 a0_2, .int .i64 a0_3]] rfl (by (try simp only [List.map_toArray, List.map_cons, List.map_nil]); first | done | rfl | (simp only [List.length_drop, List.length_take]; rfl)) ?_; (with_reducible refine (L_right.calls k _ _ l0_0 a0_1 a0_2 a0_3 true _ ?side1 ?side2 A5.out).mono ?_); (case side1 => repeat (first | exact (Kd.C_below HR0_0.out HB.out) | (with_reducible refine Kd.C_alloc ?_ _) | (with_reducible refine Kd.C_drewN ?_ _) | (with_reducible refine Kd.C_drew ?_))); (case side2 => exact HC0_0.out); rintro e w9 ⟨rfl, hb⟩; refine ⟨_, rfl, ?_⟩; have n0_ := Aside0.mk (blk_below (g := gb436) (o := .cells #[.slice A0_0 l0_0.length c0_0, .int .i64 a0_1, .int .i64 a0_2, .int .i64 a0_3] 26 (0, 0)) (bup BK436.out) hb); have n1_ := Aside0.mk (below_step (by repeat (first | (with_reducible first | exact HB.out | apply below_alloc | apply pw_below_drewN | apply below_drew1 | refine below_set ?_ GE436.out) | exact HB.out)) hb); clear BK436; clear HB; have BK436 := n0_; have HB := n1_; clear n0_ n1_; (try clear hb); (try clear hb2); (try clear hk); (try clear hi)))
    go_meet
    case rel => exact ⟨_, (true), (by first | rfl | (simp; done) | (simp [*]; done)), H', ⟨by first | omega | exact Nat.le_refl _⟩, ⟨bup BK436.out⟩, ⟨by repeat (first | (with_reducible first | exact HB.out | apply below_alloc | apply pw_below_drewN | apply below_drew1 | refine below_set ?_ GE436.out) | exact HB.out)⟩⟩
   ·rw [if_neg c7] at H
    have c7b0 : decide (16 < (l1.length : Int)) = false := decide_eq_false c7
    have c7b1 : decide (16 < l1.length) = false := decide_eq_false (by omega)
    clear c7
    (first | rw [c7b0] | (simp only [i64_w, i32_w]; rw [c7b0]) | skip)
    replace H := Option.bind_eq_some_iff.mp H
    obtain ⟨t438, A100, H⟩ := H
    replace H : (L_Dual.j0 k l1 (!t438) l0_0 a0_1 a0_2 a0_3) = some r := H
    have A10 := Aside0.mk A100
    clear A100
    have H' := Aside0.mk H
    clear H
    have hcz11_0 : w4.cell? ⟨gb436, 0, none⟩ = some (.slice A0_0 l0_0.length c0_0) := (blk_cell BK436.out 0).trans rfl
    have hcz11_1 : w4.cell? ⟨gb436, 1, none⟩ = some (.int .i64 a0_1) := (blk_cell BK436.out 1).trans rfl
    have hcz11_2 : w4.cell? ⟨gb436, 2, none⟩ = some (.int .i64 a0_2) := (blk_cell BK436.out 2).trans rfl
    have hcz11_3 : w4.cell? ⟨gb436, 3, none⟩ = some (.int .i64 a0_3) := (blk_cell BK436.out 3).trans rfl
    have hfz11_0 := blk_frozen BK436.out 0
    have hfz11_1 := blk_frozen BK436.out 1
    have hfz11_2 := blk_frozen BK436.out 2
    have hfz11_3 := blk_frozen BK436.out 3
    go_wp2_with (first | ((with_reducible refine gate_callee (f := 15) rfl ?_); refine goesL_ (some 14) rfl rfl Tryz.func15 (by kernel_rfl) rfl #[.agg #[.slice A0_0 l0_0.length c0_0, .int .i64 a0_1, .int .i64 a0_2, .int .i64 a0_3]] rfl (by (try simp only [List.map_toArray, List.map_cons, List.map_nil]); first | done | rfl | (simp only [List.length_drop, List.length_take]; rfl)) ?_; (with_reducible refine (L_right.calls k _ _ l0_0 a0_1 a0_2 a0_3 true _ ?side1 ?side2 A5.out).mono ?_); (case side1 => repeat (first | exact (Kd.C_below HR0_0.out HB.out) | (with_reducible refine Kd.C_alloc ?_ _) | (with_reducible refine Kd.C_drewN ?_ _) | (with_reducible refine Kd.C_drew ?_))); (case side2 => exact HC0_0.out); rintro e w12 ⟨rfl, hb⟩; refine ⟨_, rfl, ?_⟩; have n0_ := Aside0.mk (blk_below (g := gb436) (o := .cells #[.slice A0_0 l0_0.length c0_0, .int .i64 a0_1, .int .i64 a0_2, .int .i64 a0_3] 26 (0, 0)) (bup BK436.out) hb); have n1_ := Aside0.mk (below_step (by repeat (first | (with_reducible first | exact HB.out | apply below_alloc | apply pw_below_drewN | apply below_drew1 | refine below_set ?_ GE436.out) | exact HB.out)) hb); clear BK436; clear HB; have BK436 := n0_; have HB := n1_; clear n0_ n1_; (try clear hb); (try clear hb2); (try clear hk); (try clear hi); have hcz13_0 : w12.cell? ⟨gb436, 0, none⟩ = some (.slice A0_0 l0_0.length c0_0) := (blk_cell BK436.out 0).trans rfl; have hcz13_1 : w12.cell? ⟨gb436, 1, none⟩ = some (.int .i64 a0_1) := (blk_cell BK436.out 1).trans rfl; have hcz13_2 : w12.cell? ⟨gb436, 2, none⟩ = some (.int .i64 a0_2) := (blk_cell BK436.out 2).trans rfl; have hcz13_3 : w12.cell? ⟨gb436, 3, none⟩ = some (.int .i64 a0_3) := (blk_cell BK436.out 3).trans rfl; have hfz13_0 := blk_frozen BK436.out 0; have hfz13_1 := blk_frozen BK436.out 1; have hfz13_2 := blk_frozen BK436.out 2; have hfz13_3 := blk_frozen BK436.out 3) | (go_at_call 27; (with_reducible refine (R_Rising.calls k _ _ l1 (wrap64 ((l0_0.length : Int) - 1)) t438 _ ?side1 ?side2 A10.out).mono ?_); (case side1 => repeat (first | exact (Kd.C_below HR1.out HB.out) | (with_reducible refine Kd.C_alloc ?_ _) | (with_reducible refine Kd.C_drewN ?_ _) | (with_reducible refine Kd.C_drew ?_))); (case side2 => exact HC1.out); rintro e w' ⟨rfl, ⟨nd, rfl⟩⟩))
    go_meet
    case rel => exact ⟨_, (!t438), (by first | rfl | (simp; done) | (simp [*]; done)), H', ⟨by first | omega | exact Nat.le_refl _⟩, ⟨bup BK436.out⟩, ⟨by repeat (first | (with_reducible first | exact HB.out | apply below_alloc | apply pw_below_drewN | apply below_drew1 | refine below_set ?_ GE436.out) | exact HB.out)⟩⟩
  ·replace c6 := Bool.eq_false_iff.mpr c6
   subst c6
   have H1 : (L_Dual.j0 k l1 true l0_0 a0_1 a0_2 a0_3) = some r := by rw [if_neg (show ¬ (false = true) by decide)] at H; exact H
   clear H
   have H := H1
   clear H1
   have H' := Aside0.mk H
   clear H
   have hcz14_0 : w4.cell? ⟨gb436, 0, none⟩ = some (.slice A0_0 l0_0.length c0_0) := (blk_cell BK436.out 0).trans rfl
   have hcz14_1 : w4.cell? ⟨gb436, 1, none⟩ = some (.int .i64 a0_1) := (blk_cell BK436.out 1).trans rfl
   have hcz14_2 : w4.cell? ⟨gb436, 2, none⟩ = some (.int .i64 a0_2) := (blk_cell BK436.out 2).trans rfl
   have hcz14_3 : w4.cell? ⟨gb436, 3, none⟩ = some (.int .i64 a0_3) := (blk_cell BK436.out 3).trans rfl
   have hfz14_0 := blk_frozen BK436.out 0
   have hfz14_1 := blk_frozen BK436.out 1
   have hfz14_2 := blk_frozen BK436.out 2
   have hfz14_3 := blk_frozen BK436.out 3
   go_wp2_with (first | ((with_reducible refine gate_callee (f := 15) rfl ?_); refine goesL_ (some 14) rfl rfl Tryz.func15 (by kernel_rfl) rfl #[.agg #[.slice A0_0 l0_0.length c0_0, .int .i64 a0_1, .int .i64 a0_2, .int .i64 a0_3]] rfl (by (try simp only [List.map_toArray, List.map_cons, List.map_nil]); first | done | rfl | (simp only [List.length_drop, List.length_take]; rfl)) ?_; (with_reducible refine (L_right.calls k _ _ l0_0 a0_1 a0_2 a0_3 false _ ?side1 ?side2 A5.out).mono ?_); (case side1 => repeat (first | exact (Kd.C_below HR0_0.out HB.out) | (with_reducible refine Kd.C_alloc ?_ _) | (with_reducible refine Kd.C_drewN ?_ _) | (with_reducible refine Kd.C_drew ?_))); (case side2 => exact HC0_0.out); rintro e w15 ⟨rfl, hb⟩; refine ⟨_, rfl, ?_⟩; have n0_ := Aside0.mk (blk_below (g := gb436) (o := .cells #[.slice A0_0 l0_0.length c0_0, .int .i64 a0_1, .int .i64 a0_2, .int .i64 a0_3] 26 (0, 0)) (bup BK436.out) hb); have n1_ := Aside0.mk (below_step (by repeat (first | (with_reducible first | exact HB.out | apply below_alloc | apply pw_below_drewN | apply below_drew1 | refine below_set ?_ GE436.out) | exact HB.out)) hb); clear BK436; clear HB; have BK436 := n0_; have HB := n1_; clear n0_ n1_; (try clear hb); (try clear hb2); (try clear hk); (try clear hi)))
   go_meet
   case rel => exact ⟨_, (true), (by first | rfl | (simp; done) | (simp [*]; done)), H', ⟨by first | omega | exact Nat.le_refl _⟩, ⟨bup BK436.out⟩, ⟨by repeat (first | (with_reducible first | exact HB.out | apply below_alloc | apply pw_below_drewN | apply below_drew1 | refine below_set ?_ GE436.out) | exact HB.out)⟩⟩
 case rest =>
  clear HC3
  obtain ⟨kq, x29_2, rfl, HA, HJ2, BK436, HB⟩ := hcut
  cases kq with
  | zero => exact absurd HA.out (by simp [L_Dual.j0])
  | succ kj2 =>
   have H := HA.out
   clear HA
   simp only [L_Dual.j0] at H
   by_cases c16 : x29_2 = true
   ·subst c16
    have H1 : ((L_known.f).bind fun t439 => (some t439)) = some r := by rw [if_pos rfl] at H; exact H
    clear H
    have H := H1
    clear H1
    replace H := Option.bind_eq_some_iff.mp H
    obtain ⟨t439, A170, H⟩ := H
    replace H : (some t439) = some r := H
    have A17 := Aside0.mk A170
    clear A170
    obtain rfl := Option.some.inj H
    go_wp2_with (first | ((with_reducible refine gate_callee (f := 17) rfl ?_); refine goesL_ (some 30) rfl rfl Tryz.func17 (by kernel_rfl) rfl #[] rfl (by (try simp only [List.map_toArray, List.map_cons, List.map_nil]); first | done | rfl | (simp only [List.length_drop, List.length_take]; rfl)) ?_; (with_reducible refine (L_known.calls  t439 _ A17.out ?sideT).mono ?_); (case sideT => exact HT.out.below (by repeat (first | (with_reducible first | exact HB.out | apply below_alloc | apply pw_below_drewN | apply below_drew1 | refine below_set ?_ GE436.out) | exact HB.out))); rintro e w18 ⟨rfl, hb⟩; refine ⟨_, rfl, ?_⟩; have n0_ := Aside0.mk (blk_below (g := gb436) (o := .cells #[.slice A0_0 l0_0.length c0_0, .int .i64 a0_1, .int .i64 a0_2, .int .i64 a0_3] 26 (0, 0)) (bup BK436.out) hb); have n1_ := Aside0.mk (below_step (by repeat (first | (with_reducible first | exact HB.out | apply below_alloc | apply pw_below_drewN | apply below_drew1 | refine below_set ?_ GE436.out) | exact HB.out)) hb); clear BK436; clear HB; have BK436 := n0_; have HB := n1_; clear n0_ n1_; (try clear hb); (try clear hb2); (try clear hk); (try clear hi)))
    go_ret
    exact ⟨by first | rfl | (simp [errW_none, errW_some] <;> rfl) | (simp [*, errW_none, errW_some] <;> rfl), by repeat (first | (with_reducible first | exact HB.out | apply below_alloc | apply pw_below_drewN | apply below_drew1 | refine below_set ?_ GE436.out) | exact HB.out)⟩
   ·replace c16 := Bool.eq_false_iff.mpr c16
    subst c16
    have H1 : ((column_Jumps.f l0_0 a0_1 a0_2 a0_3).bind fun bt440 => ((column_Proof.f l0_0 a0_1 a0_2 a0_3).bind fun bt444 => ((column_Wrong.f l0_0 a0_1 a0_2 a0_3).bind fun bt448 => (if bt440.2 = 0 then (if bt444.2 = 0 then (if bt448.2 = 0 then (if (bt440.1.length : Int) > (l0_0.length : Int) then (L_Dual.j1 kj2 l1 bt440.1 bt444.1 true l0_0 a0_1 a0_2 a0_3) else (if (bt444.1.length : Int) > (l0_0.length : Int) then (L_Dual.j1 kj2 l1 bt440.1 bt444.1 true l0_0 a0_1 a0_2 a0_3) else ((R_Rising.f kj2 bt444.1 (wrap64 ((l0_0.length : Int) - 1))).bind fun t452 => (if t452 = true then ((R_Apart.f kj2 l0_0 a0_1 a0_2 a0_3 bt444.1).bind fun t453 => (if t453 = true then (L_Dual.j1 kj2 l1 bt440.1 bt444.1 ((bt444.1.length : Int) != (bt448.1.length : Int)) l0_0 a0_1 a0_2 a0_3) else (L_Dual.j1 kj2 l1 bt440.1 bt444.1 true l0_0 a0_1 a0_2 a0_3))) else (L_Dual.j1 kj2 l1 bt440.1 bt444.1 true l0_0 a0_1 a0_2 a0_3))))) else (L_Dual.j1 kj2 l1 bt440.1 bt444.1 true l0_0 a0_1 a0_2 a0_3)) else (L_Dual.j1 kj2 l1 bt440.1 bt444.1 true l0_0 a0_1 a0_2 a0_3)) else (L_Dual.j1 kj2 l1 bt440.1 bt444.1 true l0_0 a0_1 a0_2 a0_3))))) = some r := by rw [if_neg (show ¬ (false = true) by decide)] at H; exact H
    clear H
    have H := H1
    clear H1
    replace H := Option.bind_eq_some_iff.mp H
    obtain ⟨⟨t440, t443⟩, A190, H⟩ := H
    replace H : ((column_Proof.f l0_0 a0_1 a0_2 a0_3).bind fun bt444 => ((column_Wrong.f l0_0 a0_1 a0_2 a0_3).bind fun bt448 => (if t443 = 0 then (if bt444.2 = 0 then (if bt448.2 = 0 then (if (t440.length : Int) > (l0_0.length : Int) then (L_Dual.j1 kj2 l1 t440 bt444.1 true l0_0 a0_1 a0_2 a0_3) else (if (bt444.1.length : Int) > (l0_0.length : Int) then (L_Dual.j1 kj2 l1 t440 bt444.1 true l0_0 a0_1 a0_2 a0_3) else ((R_Rising.f kj2 bt444.1 (wrap64 ((l0_0.length : Int) - 1))).bind fun t452 => (if t452 = true then ((R_Apart.f kj2 l0_0 a0_1 a0_2 a0_3 bt444.1).bind fun t453 => (if t453 = true then (L_Dual.j1 kj2 l1 t440 bt444.1 ((bt444.1.length : Int) != (bt448.1.length : Int)) l0_0 a0_1 a0_2 a0_3) else (L_Dual.j1 kj2 l1 t440 bt444.1 true l0_0 a0_1 a0_2 a0_3))) else (L_Dual.j1 kj2 l1 t440 bt444.1 true l0_0 a0_1 a0_2 a0_3))))) else (L_Dual.j1 kj2 l1 t440 bt444.1 true l0_0 a0_1 a0_2 a0_3)) else (L_Dual.j1 kj2 l1 t440 bt444.1 true l0_0 a0_1 a0_2 a0_3)) else (L_Dual.j1 kj2 l1 t440 bt444.1 true l0_0 a0_1 a0_2 a0_3)))) = some r := H
    have A19 := Aside0.mk A190
    clear A190
    replace H := Option.bind_eq_some_iff.mp H
    obtain ⟨⟨t444, t447⟩, A200, H⟩ := H
    replace H : ((column_Wrong.f l0_0 a0_1 a0_2 a0_3).bind fun bt448 => (if t443 = 0 then (if t447 = 0 then (if bt448.2 = 0 then (if (t440.length : Int) > (l0_0.length : Int) then (L_Dual.j1 kj2 l1 t440 t444 true l0_0 a0_1 a0_2 a0_3) else (if (t444.length : Int) > (l0_0.length : Int) then (L_Dual.j1 kj2 l1 t440 t444 true l0_0 a0_1 a0_2 a0_3) else ((R_Rising.f kj2 t444 (wrap64 ((l0_0.length : Int) - 1))).bind fun t452 => (if t452 = true then ((R_Apart.f kj2 l0_0 a0_1 a0_2 a0_3 t444).bind fun t453 => (if t453 = true then (L_Dual.j1 kj2 l1 t440 t444 ((t444.length : Int) != (bt448.1.length : Int)) l0_0 a0_1 a0_2 a0_3) else (L_Dual.j1 kj2 l1 t440 t444 true l0_0 a0_1 a0_2 a0_3))) else (L_Dual.j1 kj2 l1 t440 t444 true l0_0 a0_1 a0_2 a0_3))))) else (L_Dual.j1 kj2 l1 t440 t444 true l0_0 a0_1 a0_2 a0_3)) else (L_Dual.j1 kj2 l1 t440 t444 true l0_0 a0_1 a0_2 a0_3)) else (L_Dual.j1 kj2 l1 t440 t444 true l0_0 a0_1 a0_2 a0_3))) = some r := H
    have A20 := Aside0.mk A200
    clear A200
    replace H := Option.bind_eq_some_iff.mp H
    obtain ⟨⟨t448, t451⟩, A210, H⟩ := H
    replace H : (if t443 = 0 then (if t447 = 0 then (if t451 = 0 then (if (t440.length : Int) > (l0_0.length : Int) then (L_Dual.j1 kj2 l1 t440 t444 true l0_0 a0_1 a0_2 a0_3) else (if (t444.length : Int) > (l0_0.length : Int) then (L_Dual.j1 kj2 l1 t440 t444 true l0_0 a0_1 a0_2 a0_3) else ((R_Rising.f kj2 t444 (wrap64 ((l0_0.length : Int) - 1))).bind fun t452 => (if t452 = true then ((R_Apart.f kj2 l0_0 a0_1 a0_2 a0_3 t444).bind fun t453 => (if t453 = true then (L_Dual.j1 kj2 l1 t440 t444 ((t444.length : Int) != (t448.length : Int)) l0_0 a0_1 a0_2 a0_3) else (L_Dual.j1 kj2 l1 t440 t444 true l0_0 a0_1 a0_2 a0_3))) else (L_Dual.j1 kj2 l1 t440 t444 true l0_0 a0_1 a0_2 a0_3))))) else (L_Dual.j1 kj2 l1 t440 t444 true l0_0 a0_1 a0_2 a0_3)) else (L_Dual.j1 kj2 l1 t440 t444 true l0_0 a0_1 a0_2 a0_3)) else (L_Dual.j1 kj2 l1 t440 t444 true l0_0 a0_1 a0_2 a0_3)) = some r := H
    have A21 := Aside0.mk A210
    clear A210
    have HC22 := Aside0.mk H
    clear H
    have hcz23_0 : wc.cell? ⟨gb436, 0, none⟩ = some (.slice A0_0 l0_0.length c0_0) := (blk_cell BK436.out 0).trans rfl
    have hcz23_1 : wc.cell? ⟨gb436, 1, none⟩ = some (.int .i64 a0_1) := (blk_cell BK436.out 1).trans rfl
    have hcz23_2 : wc.cell? ⟨gb436, 2, none⟩ = some (.int .i64 a0_2) := (blk_cell BK436.out 2).trans rfl
    have hcz23_3 : wc.cell? ⟨gb436, 3, none⟩ = some (.int .i64 a0_3) := (blk_cell BK436.out 3).trans rfl
    have hfz23_0 := blk_frozen BK436.out 0
    have hfz23_1 := blk_frozen BK436.out 1
    have hfz23_2 := blk_frozen BK436.out 2
    have hfz23_3 := blk_frozen BK436.out 3
    go_upto_region 6 with (first | ((with_reducible refine gate_callee (f := 22) rfl ?_); refine goesL_ (some 33) rfl rfl Tryz.func22 (by kernel_rfl) rfl #[.agg #[.slice A0_0 l0_0.length c0_0, .int .i64 a0_1, .int .i64 a0_2, .int .i64 a0_3]] rfl (by (try simp only [List.map_toArray, List.map_cons, List.map_nil]); first | done | rfl | (simp only [List.length_drop, List.length_take]; rfl)) ?_; (with_reducible refine (column_Jumps.calls _ _ l0_0 a0_1 a0_2 a0_3 t440 t443 _ ?side1 ?side2 A19.out).mono ?_); (case side1 => repeat (first | exact (Kd.C_below HR0_0.out HB.out) | (with_reducible refine Kd.C_alloc ?_ _) | (with_reducible refine Kd.C_drewN ?_ _) | (with_reducible refine Kd.C_drew ?_))); (case side2 => exact HC0_0.out); rintro e w24 ⟨v441, rfl, ho0, hb⟩; refine ⟨_, rfl, ?_⟩; have n0_ := Aside0.mk (Kd.R_lower ho0 (below_size (by repeat (first | (with_reducible first | exact HB.out | apply below_alloc | apply pw_below_drewN | apply below_drew1 | refine below_set ?_ GE436.out) | exact HB.out)))); have n1_ := Aside0.mk (blk_below (g := gb436) (o := .cells #[.slice A0_0 l0_0.length c0_0, .int .i64 a0_1, .int .i64 a0_2, .int .i64 a0_3] 26 (0, 0)) (bup BK436.out) hb); have n2_ := Aside0.mk (below_step (by repeat (first | (with_reducible first | exact HB.out | apply below_alloc | apply pw_below_drewN | apply below_drew1 | refine below_set ?_ GE436.out) | exact HB.out)) hb); clear BK436; clear HB; have HO442 := n0_; have BK436 := n1_; have HB := n2_; clear n0_ n1_ n2_; (try clear hb); (try clear hb2); (try clear hk); (try clear hi); (try clear ho0); have hcz25_0 : w24.cell? ⟨gb436, 0, none⟩ = some (.slice A0_0 l0_0.length c0_0) := (blk_cell BK436.out 0).trans rfl; have hcz25_1 : w24.cell? ⟨gb436, 1, none⟩ = some (.int .i64 a0_1) := (blk_cell BK436.out 1).trans rfl; have hcz25_2 : w24.cell? ⟨gb436, 2, none⟩ = some (.int .i64 a0_2) := (blk_cell BK436.out 2).trans rfl; have hcz25_3 : w24.cell? ⟨gb436, 3, none⟩ = some (.int .i64 a0_3) := (blk_cell BK436.out 3).trans rfl; have hfz25_0 := blk_frozen BK436.out 0; have hfz25_1 := blk_frozen BK436.out 1; have hfz25_2 := blk_frozen BK436.out 2; have hfz25_3 := blk_frozen BK436.out 3) | ((with_reducible refine gate_callee (f := 43) rfl ?_); refine goesL_ (some 38) rfl rfl Tryz.func43 (by kernel_rfl) rfl #[.agg #[.slice A0_0 l0_0.length c0_0, .int .i64 a0_1, .int .i64 a0_2, .int .i64 a0_3]] rfl (by (try simp only [List.map_toArray, List.map_cons, List.map_nil]); first | done | rfl | (simp only [List.length_drop, List.length_take]; rfl)) ?_; (with_reducible refine (column_Proof.calls _ _ l0_0 a0_1 a0_2 a0_3 t444 t447 _ ?side1 ?side2 A20.out).mono ?_); (case side1 => repeat (first | exact (Kd.C_below HR0_0.out HB.out) | (with_reducible refine Kd.C_alloc ?_ _) | (with_reducible refine Kd.C_drewN ?_ _) | (with_reducible refine Kd.C_drew ?_))); (case side2 => exact HC0_0.out); rintro e w26 ⟨v445, rfl, ho0, hb⟩; refine ⟨_, rfl, ?_⟩; have n0_ := Aside0.mk (Kd.R_elder' (rup HO442.out) (Kd.R_base ho0) hb); have n1_ := Aside0.mk (Kd.R_lower (Kd.R_new' ho0 (Kd.R_lt (rup HO442.out))) (below_size (by repeat (first | (with_reducible first | exact HB.out | apply below_alloc | apply pw_below_drewN | apply below_drew1 | refine below_set ?_ GE436.out) | exact HB.out)))); have n2_ := Aside0.mk (blk_below (g := gb436) (o := .cells #[.slice A0_0 l0_0.length c0_0, .int .i64 a0_1, .int .i64 a0_2, .int .i64 a0_3] 26 (0, 0)) (bup BK436.out) hb); have n3_ := Aside0.mk (below_step (by repeat (first | (with_reducible first | exact HB.out | apply below_alloc | apply pw_below_drewN | apply below_drew1 | refine below_set ?_ GE436.out) | exact HB.out)) hb); clear HO442; clear BK436; clear HB; have HO442 := n0_; have HO446 := n1_; have BK436 := n2_; have HB := n3_; clear n0_ n1_ n2_ n3_; (try clear hb); (try clear hb2); (try clear hk); (try clear hi); (try clear ho0); have hcz27_0 : w26.cell? ⟨gb436, 0, none⟩ = some (.slice A0_0 l0_0.length c0_0) := (blk_cell BK436.out 0).trans rfl; have hcz27_1 : w26.cell? ⟨gb436, 1, none⟩ = some (.int .i64 a0_1) := (blk_cell BK436.out 1).trans rfl; have hcz27_2 : w26.cell? ⟨gb436, 2, none⟩ = some (.int .i64 a0_2) := (blk_cell BK436.out 2).trans rfl; have hcz27_3 : w26.cell? ⟨gb436, 3, none⟩ = some (.int .i64 a0_3) := (blk_cell BK436.out 3).trans rfl; have hfz27_0 := blk_frozen BK436.out 0; have hfz27_1 := blk_frozen BK436.out 1; have hfz27_2 := blk_frozen BK436.out 2; have hfz27_3 := blk_frozen BK436.out 3) | ((with_reducible refine gate_callee (f := 28) rfl ?_); refine goesL_ (some 43) rfl rfl Tryz.func28 (by kernel_rfl) rfl #[.agg #[.slice A0_0 l0_0.length c0_0, .int .i64 a0_1, .int .i64 a0_2, .int .i64 a0_3]] rfl (by (try simp only [List.map_toArray, List.map_cons, List.map_nil]); first | done | rfl | (simp only [List.length_drop, List.length_take]; rfl)) ?_; (with_reducible refine (column_Wrong.calls _ _ l0_0 a0_1 a0_2 a0_3 t448 t451 _ ?side1 ?side2 A21.out).mono ?_); (case side1 => repeat (first | exact (Kd.C_below HR0_0.out HB.out) | (with_reducible refine Kd.C_alloc ?_ _) | (with_reducible refine Kd.C_drewN ?_ _) | (with_reducible refine Kd.C_drew ?_))); (case side2 => exact HC0_0.out); rintro e w28 ⟨v449, rfl, ho0, hb⟩; refine ⟨_, rfl, ?_⟩; have n0_ := Aside0.mk (Kd.R_elder' (rup HO442.out) (Kd.R_base ho0) hb); have n1_ := Aside0.mk (Kd.R_elder' (rup HO446.out) (Kd.R_base ho0) hb); have n2_ := Aside0.mk (Kd.R_lower (Kd.R_new' (Kd.R_new' ho0 (Kd.R_lt (rup HO442.out))) (Kd.R_lt (rup HO446.out))) (below_size (by repeat (first | (with_reducible first | exact HB.out | apply below_alloc | apply pw_below_drewN | apply below_drew1 | refine below_set ?_ GE436.out) | exact HB.out)))); have n3_ := Aside0.mk (blk_below (g := gb436) (o := .cells #[.slice A0_0 l0_0.length c0_0, .int .i64 a0_1, .int .i64 a0_2, .int .i64 a0_3] 26 (0, 0)) (bup BK436.out) hb); have n4_ := Aside0.mk (below_step (by repeat (first | (with_reducible first | exact HB.out | apply below_alloc | apply pw_below_drewN | apply below_drew1 | refine below_set ?_ GE436.out) | exact HB.out)) hb); clear HO442; clear HO446; clear BK436; clear HB; have HO442 := n0_; have HO446 := n1_; have HO450 := n2_; have BK436 := n3_; have HB := n4_; clear n0_ n1_ n2_ n3_ n4_; (try clear hb); (try clear hb2); (try clear hk); (try clear hi); (try clear ho0)))
    (try simp only [Act.put, List.setIfInBounds_toArray, List.set_cons_zero, List.set_cons_succ])
    go_cut [93] (fun v93 wc => ∃ (kq : Nat) (x93_21 : Bool), v93 = .bool x93_21 ∧ Aside0 (L_Dual.j1 kq l1 t440 t444 x93_21 l0_0 a0_1 a0_2 a0_3 = some r) ∧ Aside0 (kq ≤ kj2) ∧ Aside0 (Kd.R (Kd.int .i64) 3 wc w.heap.size (fun k_ => some k_ ≠ (v445 : Value).ownBlock) v441 t440) ∧ Aside0 (Kd.R (Kd.int .i64) 3 wc w.heap.size (fun k_ => some k_ ≠ (v441 : Value).ownBlock) v445 t444) ∧ Aside0 (wc.heap[gb436]? = some (.cells #[(.slice A0_0 l0_0.length c0_0), .int .i64 a0_1, .int .i64 a0_2, .int .i64 a0_3] 26 (0, 0))) ∧ Aside0 (Below w.heap.size w wc))
    case first =>
     have H := HC22.out
     clear HC22
     by_cases c29 : t443 = 0
     ·rw [if_pos c29] at H
      have c29b0 : (t443 == 0) = true := beq_iff_eq.mpr c29
      have c29b1 : (t443 != 0) = false := bne_eq_false_iff_eq.mpr c29
      clear c29
      (first | rw [c29b0] | (simp only [i64_w, i32_w]; rw [c29b0]) | skip)
      by_cases c30 : t447 = 0
      ·rw [if_pos c30] at H
       have c30b0 : (t447 == 0) = true := beq_iff_eq.mpr c30
       have c30b1 : (t447 != 0) = false := bne_eq_false_iff_eq.mpr c30
       clear c30
       by_cases c31 : t451 = 0
       ·rw [if_pos c31] at H
        have c31b0 : (t451 == 0) = true := beq_iff_eq.mpr c31
        have c31b1 : (t451 != 0) = false := bne_eq_false_iff_eq.mpr c31
        clear c31
        by_cases c32 : (t440.length : Int) > (l0_0.length : Int)
        ·rw [if_pos c32] at H
         have c32b0 : decide ((l0_0.length : Int) < (t440.length : Int)) = true := decide_eq_true c32
         have c32b1 : decide (l0_0.length < t440.length) = true := decide_eq_true (Int.ofNat_lt.mp c32)
         clear c32
         have H' := Aside0.mk H
         clear H
         obtain ⟨Ao33, co33, eo33⟩ := Kd.R_slice HO442.out
         subst eo33
         have hcz34_0 : w28.cell? ⟨gb436, 0, none⟩ = some (.slice A0_0 l0_0.length c0_0) := (blk_cell BK436.out 0).trans rfl
         have hcz34_1 : w28.cell? ⟨gb436, 1, none⟩ = some (.int .i64 a0_1) := (blk_cell BK436.out 1).trans rfl
         have hcz34_2 : w28.cell? ⟨gb436, 2, none⟩ = some (.int .i64 a0_2) := (blk_cell BK436.out 2).trans rfl
         have hcz34_3 : w28.cell? ⟨gb436, 3, none⟩ = some (.int .i64 a0_3) := (blk_cell BK436.out 3).trans rfl
         have hfz34_0 := blk_frozen BK436.out 0
         have hfz34_1 := blk_frozen BK436.out 1
         have hfz34_2 := blk_frozen BK436.out 2
         have hfz34_3 := blk_frozen BK436.out 3
         go_wp2
         go_meet
         case rel => exact ⟨_, (true), (by first | rfl | (simp; done) | (simp [*]; done)), H', ⟨by have := HJ2.out; first | omega | exact Nat.le_refl _⟩, ⟨rup (Kd.R_mono HO442.out (fun _ hk => hk.1.2))⟩, ⟨rup (Kd.R_mono HO446.out (fun _ hk => hk.1.2))⟩, ⟨bup BK436.out⟩, ⟨by repeat (first | (with_reducible first | exact HB.out | apply below_alloc | apply pw_below_drewN | apply below_drew1 | refine below_set ?_ GE436.out) | exact HB.out)⟩⟩
        ·rw [if_neg c32] at H
         have c32b0 : decide ((l0_0.length : Int) < (t440.length : Int)) = false := decide_eq_false c32
         have c32b1 : decide (l0_0.length < t440.length) = false := decide_eq_false (fun h => c32 (Int.ofNat_lt.mpr h))
         clear c32
         by_cases c35 : (t444.length : Int) > (l0_0.length : Int)
         ·rw [if_pos c35] at H
          have c35b0 : decide ((l0_0.length : Int) < (t444.length : Int)) = true := decide_eq_true c35
          have c35b1 : decide (l0_0.length < t444.length) = true := decide_eq_true (Int.ofNat_lt.mp c35)
          clear c35
          have H' := Aside0.mk H
          clear H
          obtain ⟨Ao36, co36, eo36⟩ := Kd.R_slice HO442.out
          subst eo36
          have hcz37_0 : w28.cell? ⟨gb436, 0, none⟩ = some (.slice A0_0 l0_0.length c0_0) := (blk_cell BK436.out 0).trans rfl
          have hcz37_1 : w28.cell? ⟨gb436, 1, none⟩ = some (.int .i64 a0_1) := (blk_cell BK436.out 1).trans rfl
          have hcz37_2 : w28.cell? ⟨gb436, 2, none⟩ = some (.int .i64 a0_2) := (blk_cell BK436.out 2).trans rfl
          have hcz37_3 : w28.cell? ⟨gb436, 3, none⟩ = some (.int .i64 a0_3) := (blk_cell BK436.out 3).trans rfl
          have hfz37_0 := blk_frozen BK436.out 0
          have hfz37_1 := blk_frozen BK436.out 1
          have hfz37_2 := blk_frozen BK436.out 2
          have hfz37_3 := blk_frozen BK436.out 3
          obtain ⟨Ao38, co38, eo38⟩ := Kd.R_slice HO446.out
          subst eo38
          go_wp2
          go_meet
          case rel => exact ⟨_, (true), (by first | rfl | (simp; done) | (simp [*]; done)), H', ⟨by have := HJ2.out; first | omega | exact Nat.le_refl _⟩, ⟨rup (Kd.R_mono HO442.out (fun _ hk => hk.1.2))⟩, ⟨rup (Kd.R_mono HO446.out (fun _ hk => hk.1.2))⟩, ⟨bup BK436.out⟩, ⟨by repeat (first | (with_reducible first | exact HB.out | apply below_alloc | apply pw_below_drewN | apply below_drew1 | refine below_set ?_ GE436.out) | exact HB.out)⟩⟩
         ·rw [if_neg c35] at H
          have c35b0 : decide ((l0_0.length : Int) < (t444.length : Int)) = false := decide_eq_false c35
          have c35b1 : decide (l0_0.length < t444.length) = false := decide_eq_false (fun h => c35 (Int.ofNat_lt.mpr h))
          clear c35
          replace H := Option.bind_eq_some_iff.mp H
          obtain ⟨t452, A390, H⟩ := H
          replace H : (if t452 = true then ((R_Apart.f kj2 l0_0 a0_1 a0_2 a0_3 t444).bind fun t453 => (if t453 = true then (L_Dual.j1 kj2 l1 t440 t444 ((t444.length : Int) != (t448.length : Int)) l0_0 a0_1 a0_2 a0_3) else (L_Dual.j1 kj2 l1 t440 t444 true l0_0 a0_1 a0_2 a0_3))) else (L_Dual.j1 kj2 l1 t440 t444 true l0_0 a0_1 a0_2 a0_3)) = some r := H
          have A39 := Aside0.mk A390
          clear A390
          by_cases c40 : t452 = true
          ·subst c40
           have H1 : ((R_Apart.f kj2 l0_0 a0_1 a0_2 a0_3 t444).bind fun t453 => (if t453 = true then (L_Dual.j1 kj2 l1 t440 t444 ((t444.length : Int) != (t448.length : Int)) l0_0 a0_1 a0_2 a0_3) else (L_Dual.j1 kj2 l1 t440 t444 true l0_0 a0_1 a0_2 a0_3))) = some r := by rw [if_pos rfl] at H; exact H
           clear H
           have H := H1
           clear H1
           replace H := Option.bind_eq_some_iff.mp H
           obtain ⟨t453, A410, H⟩ := H
           replace H : (if t453 = true then (L_Dual.j1 kj2 l1 t440 t444 ((t444.length : Int) != (t448.length : Int)) l0_0 a0_1 a0_2 a0_3) else (L_Dual.j1 kj2 l1 t440 t444 true l0_0 a0_1 a0_2 a0_3)) = some r := H
           have A41 := Aside0.mk A410
           clear A410
           by_cases c42 : t453 = true
           ·subst c42
            have H1 : (L_Dual.j1 kj2 l1 t440 t444 ((t444.length : Int) != (t448.length : Int)) l0_0 a0_1 a0_2 a0_3) = some r := by rw [if_pos rfl] at H; exact H
            clear H
            have H := H1
            clear H1
            have H' := Aside0.mk H
            clear H
            obtain ⟨Ao43, co43, eo43⟩ := Kd.R_slice HO442.out
            subst eo43
            have hcz44_0 : w28.cell? ⟨gb436, 0, none⟩ = some (.slice A0_0 l0_0.length c0_0) := (blk_cell BK436.out 0).trans rfl
            have hcz44_1 : w28.cell? ⟨gb436, 1, none⟩ = some (.int .i64 a0_1) := (blk_cell BK436.out 1).trans rfl
            have hcz44_2 : w28.cell? ⟨gb436, 2, none⟩ = some (.int .i64 a0_2) := (blk_cell BK436.out 2).trans rfl
            have hcz44_3 : w28.cell? ⟨gb436, 3, none⟩ = some (.int .i64 a0_3) := (blk_cell BK436.out 3).trans rfl
            have hfz44_0 := blk_frozen BK436.out 0
            have hfz44_1 := blk_frozen BK436.out 1
            have hfz44_2 := blk_frozen BK436.out 2
            have hfz44_3 := blk_frozen BK436.out 3
            obtain ⟨Ao45, co45, eo45⟩ := Kd.R_slice HO446.out
            subst eo45
            go_wp2_with (first | (go_at_call 27; (with_reducible refine (R_Rising.calls kj2 _ _ t444 (wrap64 ((l0_0.length : Int) - 1)) true _ ?side1 ?side2 A39.out).mono ?_); (case side1 => repeat (first | exact (Kd.R_reads' HO446.out).2.2 | (with_reducible refine Kd.C_alloc ?_ _) | (with_reducible refine Kd.C_drewN ?_ _) | (with_reducible refine Kd.C_drew ?_))); (case side2 => exact (Kd.R_reads' HO446.out).2.1); rintro e w' ⟨rfl, ⟨nd, rfl⟩⟩) | (go_at_call 44; (with_reducible refine (R_Apart.calls kj2 _ _ l0_0 a0_1 a0_2 a0_3 _ _ t444 true _ ?side1 ?side2 ?side3 ?side4 A41.out).mono ?_); (case side1 => repeat (first | exact (Kd.C_below HR0_0.out (by repeat (first | (with_reducible first | exact HB.out | apply below_alloc | apply pw_below_drewN | apply below_drew1 | refine below_set ?_ GE436.out) | exact HB.out))) | (with_reducible refine Kd.C_alloc ?_ _) | (with_reducible refine Kd.C_drewN ?_ _) | (with_reducible refine Kd.C_drew ?_))); (case side2 => exact HC0_0.out); (case side3 => repeat (first | exact (Kd.R_reads' HO446.out).2.2 | (with_reducible refine Kd.C_alloc ?_ _) | (with_reducible refine Kd.C_drewN ?_ _) | (with_reducible refine Kd.C_drew ?_))); (case side4 => exact (Kd.R_reads' HO446.out).2.1); rintro e w46 ⟨rfl, hb⟩; have n0_ := Aside0.mk (Kd.R_below (rup HO442.out) hb); have n1_ := Aside0.mk (Kd.R_below (rup HO446.out) hb); have n2_ := Aside0.mk (Kd.R_below (rup HO450.out) hb); have n3_ := Aside0.mk (blk_below (g := gb436) (o := .cells #[.slice A0_0 l0_0.length c0_0, .int .i64 a0_1, .int .i64 a0_2, .int .i64 a0_3] 26 (0, 0)) (bup BK436.out) hb); have n4_ := Aside0.mk (below_step (by repeat (first | (with_reducible first | exact HB.out | apply below_alloc | apply pw_below_drewN | apply below_drew1 | refine below_set ?_ GE436.out) | exact HB.out)) hb); clear HO442; clear HO446; clear HO450; clear BK436; clear HB; have HO442 := n0_; have HO446 := n1_; have HO450 := n2_; have BK436 := n3_; have HB := n4_; clear n0_ n1_ n2_ n3_ n4_; (try clear hb); (try clear hb2); (try clear hk); (try clear hi); obtain ⟨Ao47, co47, eo47⟩ := Kd.R_slice HO450.out; subst eo47))
            go_meet
            case rel => exact ⟨_, (((t444.length : Int) != (t448.length : Int))), (by first | rfl | (simp; done) | (simp [*]; done)), H', ⟨by have := HJ2.out; first | omega | exact Nat.le_refl _⟩, ⟨rup (Kd.R_mono HO442.out (fun _ hk => hk.1.2))⟩, ⟨rup (Kd.R_mono HO446.out (fun _ hk => hk.1.2))⟩, ⟨bup BK436.out⟩, ⟨by repeat (first | (with_reducible first | exact HB.out | apply below_alloc | apply pw_below_drewN | apply below_drew1 | refine below_set ?_ GE436.out) | exact HB.out)⟩⟩
           ·replace c42 := Bool.eq_false_iff.mpr c42
            subst c42
            have H1 : (L_Dual.j1 kj2 l1 t440 t444 true l0_0 a0_1 a0_2 a0_3) = some r := by rw [if_neg (show ¬ (false = true) by decide)] at H; exact H
            clear H
            have H := H1
            clear H1
            have H' := Aside0.mk H
            clear H
            obtain ⟨Ao48, co48, eo48⟩ := Kd.R_slice HO442.out
            subst eo48
            have hcz49_0 : w28.cell? ⟨gb436, 0, none⟩ = some (.slice A0_0 l0_0.length c0_0) := (blk_cell BK436.out 0).trans rfl
            have hcz49_1 : w28.cell? ⟨gb436, 1, none⟩ = some (.int .i64 a0_1) := (blk_cell BK436.out 1).trans rfl
            have hcz49_2 : w28.cell? ⟨gb436, 2, none⟩ = some (.int .i64 a0_2) := (blk_cell BK436.out 2).trans rfl
            have hcz49_3 : w28.cell? ⟨gb436, 3, none⟩ = some (.int .i64 a0_3) := (blk_cell BK436.out 3).trans rfl
            have hfz49_0 := blk_frozen BK436.out 0
            have hfz49_1 := blk_frozen BK436.out 1
            have hfz49_2 := blk_frozen BK436.out 2
            have hfz49_3 := blk_frozen BK436.out 3
            obtain ⟨Ao50, co50, eo50⟩ := Kd.R_slice HO446.out
            subst eo50
            go_wp2_with (first | (go_at_call 27; (with_reducible refine (R_Rising.calls kj2 _ _ t444 (wrap64 ((l0_0.length : Int) - 1)) true _ ?side1 ?side2 A39.out).mono ?_); (case side1 => repeat (first | exact (Kd.R_reads' HO446.out).2.2 | (with_reducible refine Kd.C_alloc ?_ _) | (with_reducible refine Kd.C_drewN ?_ _) | (with_reducible refine Kd.C_drew ?_))); (case side2 => exact (Kd.R_reads' HO446.out).2.1); rintro e w' ⟨rfl, ⟨nd, rfl⟩⟩) | (go_at_call 44; (with_reducible refine (R_Apart.calls kj2 _ _ l0_0 a0_1 a0_2 a0_3 _ _ t444 false _ ?side1 ?side2 ?side3 ?side4 A41.out).mono ?_); (case side1 => repeat (first | exact (Kd.C_below HR0_0.out (by repeat (first | (with_reducible first | exact HB.out | apply below_alloc | apply pw_below_drewN | apply below_drew1 | refine below_set ?_ GE436.out) | exact HB.out))) | (with_reducible refine Kd.C_alloc ?_ _) | (with_reducible refine Kd.C_drewN ?_ _) | (with_reducible refine Kd.C_drew ?_))); (case side2 => exact HC0_0.out); (case side3 => repeat (first | exact (Kd.R_reads' HO446.out).2.2 | (with_reducible refine Kd.C_alloc ?_ _) | (with_reducible refine Kd.C_drewN ?_ _) | (with_reducible refine Kd.C_drew ?_))); (case side4 => exact (Kd.R_reads' HO446.out).2.1); rintro e w51 ⟨rfl, hb⟩; have n0_ := Aside0.mk (Kd.R_below (rup HO442.out) hb); have n1_ := Aside0.mk (Kd.R_below (rup HO446.out) hb); have n2_ := Aside0.mk (Kd.R_below (rup HO450.out) hb); have n3_ := Aside0.mk (blk_below (g := gb436) (o := .cells #[.slice A0_0 l0_0.length c0_0, .int .i64 a0_1, .int .i64 a0_2, .int .i64 a0_3] 26 (0, 0)) (bup BK436.out) hb); have n4_ := Aside0.mk (below_step (by repeat (first | (with_reducible first | exact HB.out | apply below_alloc | apply pw_below_drewN | apply below_drew1 | refine below_set ?_ GE436.out) | exact HB.out)) hb); clear HO442; clear HO446; clear HO450; clear BK436; clear HB; have HO442 := n0_; have HO446 := n1_; have HO450 := n2_; have BK436 := n3_; have HB := n4_; clear n0_ n1_ n2_ n3_ n4_; (try clear hb); (try clear hb2); (try clear hk); (try clear hi)))
            go_meet
            case rel => exact ⟨_, (true), (by first | rfl | (simp; done) | (simp [*]; done)), H', ⟨by have := HJ2.out; first | omega | exact Nat.le_refl _⟩, ⟨rup (Kd.R_mono HO442.out (fun _ hk => hk.1.2))⟩, ⟨rup (Kd.R_mono HO446.out (fun _ hk => hk.1.2))⟩, ⟨bup BK436.out⟩, ⟨by repeat (first | (with_reducible first | exact HB.out | apply below_alloc | apply pw_below_drewN | apply below_drew1 | refine below_set ?_ GE436.out) | exact HB.out)⟩⟩
          ·replace c40 := Bool.eq_false_iff.mpr c40
           subst c40
           have H1 : (L_Dual.j1 kj2 l1 t440 t444 true l0_0 a0_1 a0_2 a0_3) = some r := by rw [if_neg (show ¬ (false = true) by decide)] at H; exact H
           clear H
           have H := H1
           clear H1
           have H' := Aside0.mk H
           clear H
           obtain ⟨Ao52, co52, eo52⟩ := Kd.R_slice HO442.out
           subst eo52
           have hcz53_0 : w28.cell? ⟨gb436, 0, none⟩ = some (.slice A0_0 l0_0.length c0_0) := (blk_cell BK436.out 0).trans rfl
           have hcz53_1 : w28.cell? ⟨gb436, 1, none⟩ = some (.int .i64 a0_1) := (blk_cell BK436.out 1).trans rfl
           have hcz53_2 : w28.cell? ⟨gb436, 2, none⟩ = some (.int .i64 a0_2) := (blk_cell BK436.out 2).trans rfl
           have hcz53_3 : w28.cell? ⟨gb436, 3, none⟩ = some (.int .i64 a0_3) := (blk_cell BK436.out 3).trans rfl
           have hfz53_0 := blk_frozen BK436.out 0
           have hfz53_1 := blk_frozen BK436.out 1
           have hfz53_2 := blk_frozen BK436.out 2
           have hfz53_3 := blk_frozen BK436.out 3
           obtain ⟨Ao54, co54, eo54⟩ := Kd.R_slice HO446.out
           subst eo54
           go_wp2_with (first | (go_at_call 27; (with_reducible refine (R_Rising.calls kj2 _ _ t444 (wrap64 ((l0_0.length : Int) - 1)) false _ ?side1 ?side2 A39.out).mono ?_); (case side1 => repeat (first | exact (Kd.R_reads' HO446.out).2.2 | (with_reducible refine Kd.C_alloc ?_ _) | (with_reducible refine Kd.C_drewN ?_ _) | (with_reducible refine Kd.C_drew ?_))); (case side2 => exact (Kd.R_reads' HO446.out).2.1); rintro e w' ⟨rfl, ⟨nd, rfl⟩⟩))
           go_meet
           case rel => exact ⟨_, (true), (by first | rfl | (simp; done) | (simp [*]; done)), H', ⟨by have := HJ2.out; first | omega | exact Nat.le_refl _⟩, ⟨rup (Kd.R_mono HO442.out (fun _ hk => hk.1.2))⟩, ⟨rup (Kd.R_mono HO446.out (fun _ hk => hk.1.2))⟩, ⟨bup BK436.out⟩, ⟨by repeat (first | (with_reducible first | exact HB.out | apply below_alloc | apply pw_below_drewN | apply below_drew1 | refine below_set ?_ GE436.out) | exact HB.out)⟩⟩
       ·rw [if_neg c31] at H
        have c31b0 : (t451 == 0) = false := beq_eq_false_iff_ne.mpr c31
        have c31b1 : (t451 != 0) = true := bne_iff_ne.mpr c31
        have H' := Aside0.mk H
        clear H
        go_wp2
        go_meet
        case rel => exact ⟨_, (true), (by first | rfl | (simp; done) | (simp [*]; done)), H', ⟨by have := HJ2.out; first | omega | exact Nat.le_refl _⟩, ⟨rup (Kd.R_mono HO442.out (fun _ hk => hk.1.2))⟩, ⟨rup (Kd.R_mono HO446.out (fun _ hk => hk.1.2))⟩, ⟨bup BK436.out⟩, ⟨by repeat (first | (with_reducible first | exact HB.out | apply below_alloc | apply pw_below_drewN | apply below_drew1 | refine below_set ?_ GE436.out) | exact HB.out)⟩⟩
      ·rw [if_neg c30] at H
       have c30b0 : (t447 == 0) = false := beq_eq_false_iff_ne.mpr c30
       have c30b1 : (t447 != 0) = true := bne_iff_ne.mpr c30
       have H' := Aside0.mk H
       clear H
       go_wp2
       go_meet
       case rel => exact ⟨_, (true), (by first | rfl | (simp; done) | (simp [*]; done)), H', ⟨by have := HJ2.out; first | omega | exact Nat.le_refl _⟩, ⟨rup (Kd.R_mono HO442.out (fun _ hk => hk.1.2))⟩, ⟨rup (Kd.R_mono HO446.out (fun _ hk => hk.1.2))⟩, ⟨bup BK436.out⟩, ⟨by repeat (first | (with_reducible first | exact HB.out | apply below_alloc | apply pw_below_drewN | apply below_drew1 | refine below_set ?_ GE436.out) | exact HB.out)⟩⟩
     ·rw [if_neg c29] at H
      have c29b0 : (t443 == 0) = false := beq_eq_false_iff_ne.mpr c29
      have c29b1 : (t443 != 0) = true := bne_iff_ne.mpr c29
      (first | rw [c29b0] | (simp only [i64_w, i32_w]; rw [c29b0]) | skip)
      have H' := Aside0.mk H
      clear H
      go_wp2
      go_meet
      case rel => exact ⟨_, (true), (by first | rfl | (simp; done) | (simp [*]; done)), H', ⟨by have := HJ2.out; first | omega | exact Nat.le_refl _⟩, ⟨rup (Kd.R_mono HO442.out (fun _ hk => hk.1.2))⟩, ⟨rup (Kd.R_mono HO446.out (fun _ hk => hk.1.2))⟩, ⟨bup BK436.out⟩, ⟨by repeat (first | (with_reducible first | exact HB.out | apply below_alloc | apply pw_below_drewN | apply below_drew1 | refine below_set ?_ GE436.out) | exact HB.out)⟩⟩
    case rest =>
     clear HC22
     obtain ⟨kq, x93_21, rfl, HA, HJ21, HO_5, HO_7, BK436, HB⟩ := hcut
     cases kq with
     | zero => exact absurd HA.out (by simp [L_Dual.j1])
     | succ kj21 =>
      have H := HA.out
      clear HA
      simp only [L_Dual.j1] at H
      by_cases c55 : x93_21 = true
      ·subst c55
       have H1 : (some false) = some r := by rw [if_pos rfl] at H; exact H
       clear H
       have H := H1
       clear H1
       obtain rfl := Option.some.inj H
       go_wp2
       go_ret
       exact ⟨by first | rfl | (simp [errW_none, errW_some] <;> rfl) | (simp [*, errW_none, errW_some] <;> rfl), by repeat (first | (with_reducible first | exact HB.out | apply below_alloc | apply pw_below_drewN | apply below_drew1 | refine below_set ?_ GE436.out) | exact HB.out)⟩
      ·replace c55 := Bool.eq_false_iff.mpr c55
       subst c55
       have H1 : (L_Dual.l0 kj21 l1 t440 t444 0 l0_0 a0_1 a0_2 a0_3) = some r := by rw [if_neg (show ¬ (false = true) by decide)] at H; exact H
       clear H
       have H := H1
       clear H1
       have H' := Aside0.mk H
       clear H
       go_wp2
       go_loopg [11] kj21 (fun kq v11 w' => ∃ (x11_3 : Int), v11 = .int .i64 x11_3 ∧ Aside0 (L_Dual.l0 kq l1 t440 t444 x11_3 l0_0 a0_1 a0_2 a0_3 = some r) ∧ Aside0 (kq ≤ kj21) ∧ Aside0 (Kd.R (Kd.int .i64) 3 w' w.heap.size (fun k_ => some k_ ≠ (v445 : Value).ownBlock) v441 t440) ∧ Aside0 (Kd.R (Kd.int .i64) 3 w' w.heap.size (fun k_ => some k_ ≠ (v441 : Value).ownBlock) v445 t444) ∧ Aside0 (w'.heap[gb436]? = some (.cells #[(.slice A0_0 l0_0.length c0_0), .int .i64 a0_1, .int .i64 a0_2, .int .i64 a0_3] 26 (0, 0))) ∧ Aside0 (Below w.heap.size w w'))
       case atStart => exact ⟨(0), (by first | rfl | (simp; done) | (simp [*]; done)), H', ⟨Nat.le_refl _⟩, ⟨rup HO_5.out⟩, ⟨rup HO_7.out⟩, ⟨bup BK436.out⟩, ⟨by repeat (first | (with_reducible first | exact HB.out | apply below_alloc | apply pw_below_drewN | apply below_drew1 | refine below_set ?_ GE436.out) | exact HB.out)⟩⟩
       case round =>
        clear H'
        obtain ⟨x11_3, rfl, HA, HK3, HO_5, HO_7, BK436, HB⟩ := hrel
        cases gk with
        | zero => exact absurd HA.out (by simp [L_Dual.l0])
        | succ k3 =>
         have H := HA.out
         clear HA
         simp only [L_Dual.l0] at H
         by_cases c56 : x11_3 < (t444.length : Int)
         ·rw [if_pos c56] at H
          have c56b0 : decide (x11_3 < (t444.length : Int)) = true := decide_eq_true c56
          clear c56
          by_cases c57 : 0 ≤ x11_3
          ·rw [if_pos c57] at H
           have c57b0 : decide (0 ≤ x11_3) = true := decide_eq_true c57
           clear c57
           replace H := Option.bind_eq_some_iff.mp H
           obtain ⟨t455, A580, H⟩ := H
           replace H : (if t455 = true then (L_Dual.l0 k3 l1 t440 t444 (wrap64 (x11_3 + 1)) l0_0 a0_1 a0_2 a0_3) else (some false)) = some r := H
           have A58 := Aside0.mk A580
           clear A580
           by_cases c59 : t455 = true
           ·subst c59
            have H1 : (L_Dual.l0 k3 l1 t440 t444 (wrap64 (x11_3 + 1)) l0_0 a0_1 a0_2 a0_3) = some r := by rw [if_pos rfl] at H; exact H
            clear H
            have H := H1
            clear H1
            have H' := Aside0.mk H
            clear H
            obtain ⟨Ao60, co60, eo60⟩ := Kd.R_slice HO_7.out
            subst eo60
            have p454 : 0 ≤ (x11_3 : Int) := of_decide_eq_true (by first | (with_reducible assumption) | assumption)
            have q454 : x11_3 < (t444.length : Int) := of_decide_eq_true (by first | (with_reducible assumption) | assumption)
            obtain ⟨ad454, e454, hx454_0⟩ := Kd.at_int (Kd.R_reads' HO_7.out).2.2 x11_3 p454 q454
            cases e454
            replace p454 := eq_true p454
            replace q454 := eq_true q454
            obtain ⟨Ao61, co61, eo61⟩ := Kd.R_slice HO_5.out
            subst eo61
            go_wp2_with (first | ((with_reducible refine gate_callee (f := 32) rfl ?_); refine goesL_ (some 105) rfl rfl Tryz.func32 (by kernel_rfl) rfl #[.slice Ao61 t440.length co61, .int .i64 (rd t444 x11_3)] rfl (by (try simp only [List.map_toArray, List.map_cons, List.map_nil]); first | done | rfl | (simp only [List.length_drop, List.length_take]; rfl)) ?_; (with_reducible refine (T_Listed.calls k3 _ _ t440 (rd t444 x11_3) true _ ?side1 ?side2 A58.out).mono ?_); (case side1 => repeat (first | exact (Kd.R_reads' HO_5.out).2.2 | (with_reducible refine Kd.C_alloc ?_ _) | (with_reducible refine Kd.C_drewN ?_ _) | (with_reducible refine Kd.C_drew ?_))); (case side2 => exact (Kd.R_reads' HO_5.out).2.1); rintro e w' ⟨rfl, ⟨nd, rfl⟩⟩; refine ⟨_, rfl, ?_⟩))
            go_roundg k3
            case measure => have := HJ2.out; have := HJ21.out; have := HK3.out; omega
            case rel => exact ⟨(wrap64 (x11_3 + 1)), (by first | rfl | (simp; done) | (simp [*]; done)), H', ⟨by have := HJ2.out; have := HJ21.out; have := HK3.out; omega⟩, ⟨rup HO_5.out⟩, ⟨rup HO_7.out⟩, ⟨bup BK436.out⟩, ⟨by repeat (first | (with_reducible first | exact HB.out | apply below_alloc | apply pw_below_drewN | apply below_drew1 | refine below_set ?_ GE436.out) | exact HB.out)⟩⟩
           ·replace c59 := Bool.eq_false_iff.mpr c59
            subst c59
            have H1 : (some false) = some r := by rw [if_neg (show ¬ (false = true) by decide)] at H; exact H
            clear H
            have H := H1
            clear H1
            obtain rfl := Option.some.inj H
            obtain ⟨Ao62, co62, eo62⟩ := Kd.R_slice HO_7.out
            subst eo62
            have p454 : 0 ≤ (x11_3 : Int) := of_decide_eq_true (by first | (with_reducible assumption) | assumption)
            have q454 : x11_3 < (t444.length : Int) := of_decide_eq_true (by first | (with_reducible assumption) | assumption)
            obtain ⟨ad454, e454, hx454_0⟩ := Kd.at_int (Kd.R_reads' HO_7.out).2.2 x11_3 p454 q454
            cases e454
            replace p454 := eq_true p454
            replace q454 := eq_true q454
            obtain ⟨Ao63, co63, eo63⟩ := Kd.R_slice HO_5.out
            subst eo63
            go_wp2_with (first | ((with_reducible refine gate_callee (f := 32) rfl ?_); refine goesL_ (some 105) rfl rfl Tryz.func32 (by kernel_rfl) rfl #[.slice Ao63 t440.length co63, .int .i64 (rd t444 x11_3)] rfl (by (try simp only [List.map_toArray, List.map_cons, List.map_nil]); first | done | rfl | (simp only [List.length_drop, List.length_take]; rfl)) ?_; (with_reducible refine (T_Listed.calls k3 _ _ t440 (rd t444 x11_3) false _ ?side1 ?side2 A58.out).mono ?_); (case side1 => repeat (first | exact (Kd.R_reads' HO_5.out).2.2 | (with_reducible refine Kd.C_alloc ?_ _) | (with_reducible refine Kd.C_drewN ?_ _) | (with_reducible refine Kd.C_drew ?_))); (case side2 => exact (Kd.R_reads' HO_5.out).2.1); rintro e w' ⟨rfl, ⟨nd, rfl⟩⟩; refine ⟨_, rfl, ?_⟩))
            go_ret
            exact ⟨by first | rfl | (simp [errW_none, errW_some] <;> rfl) | (simp [*, errW_none, errW_some] <;> rfl), by repeat (first | (with_reducible first | exact HB.out | apply below_alloc | apply pw_below_drewN | apply below_drew1 | refine below_set ?_ GE436.out) | exact HB.out)⟩
          ·rw [if_neg c57] at H
           exact absurd H (by simp)
         ·rw [if_neg c56] at H
          have c56b0 : decide (x11_3 < (t444.length : Int)) = false := decide_eq_false c56
          clear c56
          have H' := Aside0.mk H
          clear H
          obtain ⟨Ao64, co64, eo64⟩ := Kd.R_slice HO_7.out
          subst eo64
          go_wp2
          go_loopg [12] k3 (fun kq v12 w' => ∃ (x12_4 : Int), v12 = .int .i64 x12_4 ∧ Aside0 (L_Dual.l1 kq l1 t440 t444 x12_4 l0_0 a0_1 a0_2 a0_3 = some r) ∧ Aside0 (kq ≤ k3) ∧ Aside0 (Kd.R (Kd.int .i64) 3 w' w.heap.size (fun k_ => some k_ ≠ ((.slice Ao64 t444.length co64) : Value).ownBlock) v441 t440) ∧ Aside0 (Kd.R (Kd.int .i64) 3 w' w.heap.size (fun k_ => some k_ ≠ (v441 : Value).ownBlock) (.slice Ao64 t444.length co64) t444) ∧ Aside0 (w'.heap[gb436]? = some (.cells #[(.slice A0_0 l0_0.length c0_0), .int .i64 a0_1, .int .i64 a0_2, .int .i64 a0_3] 26 (0, 0))) ∧ Aside0 (Below w.heap.size w w'))
          case atStart => exact ⟨(0), (by first | rfl | (simp; done) | (simp [*]; done)), H', ⟨Nat.le_refl _⟩, ⟨rup HO_5.out⟩, ⟨rup HO_7.out⟩, ⟨bup BK436.out⟩, ⟨by repeat (first | (with_reducible first | exact HB.out | apply below_alloc | apply pw_below_drewN | apply below_drew1 | refine below_set ?_ GE436.out) | exact HB.out)⟩⟩
          case round =>
           clear H'
           obtain ⟨x12_4, rfl, HA, HK4, HO_5, HO_7, BK436, HB⟩ := hrel
           cases gk with
           | zero => exact absurd HA.out (by simp [L_Dual.l1])
           | succ k4 =>
            have H := HA.out
            clear HA
            simp only [L_Dual.l1] at H
            by_cases c65 : x12_4 < (l1.length : Int)
            ·rw [if_pos c65] at H
             have c65b0 : decide (x12_4 < (l1.length : Int)) = true := decide_eq_true c65
             clear c65
             by_cases c66 : 0 ≤ x12_4
             ·rw [if_pos c66] at H
              have c66b0 : decide (0 ≤ x12_4) = true := decide_eq_true c66
              clear c66
              replace H := Option.bind_eq_some_iff.mp H
              obtain ⟨t457, A670, H⟩ := H
              replace H : (if t457 = true then (L_Dual.l1 k4 l1 t440 t444 (wrap64 (x12_4 + 1)) l0_0 a0_1 a0_2 a0_3) else ((L_known.f).bind fun t458 => (some t458))) = some r := H
              have A67 := Aside0.mk A670
              clear A670
              by_cases c68 : t457 = true
              ·subst c68
               have H1 : (L_Dual.l1 k4 l1 t440 t444 (wrap64 (x12_4 + 1)) l0_0 a0_1 a0_2 a0_3) = some r := by rw [if_pos rfl] at H; exact H
               clear H
               have H := H1
               clear H1
               have H' := Aside0.mk H
               clear H
               have p456 : 0 ≤ (x12_4 : Int) := of_decide_eq_true (by first | (with_reducible assumption) | assumption)
               have q456 : x12_4 < (l1.length : Int) := of_decide_eq_true (by first | (with_reducible assumption) | assumption)
               obtain ⟨ad456, e456, hx456_0⟩ := Kd.at_int HR1.out x12_4 p456 q456
               cases e456
               replace hx456_0 := (HB.out.cell (World.block_lt_of_cell? w _ hx456_0)).trans hx456_0
               replace p456 := eq_true p456
               replace q456 := eq_true q456
               obtain ⟨Ao69, co69, eo69⟩ := Kd.R_slice HO_5.out
               subst eo69
               go_wp2_with (first | ((with_reducible refine gate_callee (f := 32) rfl ?_); refine goesL_ (some 118) rfl rfl Tryz.func32 (by kernel_rfl) rfl #[.slice Ao69 t440.length co69, .int .i64 (rd l1 x12_4)] rfl (by (try simp only [List.map_toArray, List.map_cons, List.map_nil]); first | done | rfl | (simp only [List.length_drop, List.length_take]; rfl)) ?_; (with_reducible refine (T_Listed.calls k4 _ _ t440 (rd l1 x12_4) true _ ?side1 ?side2 A67.out).mono ?_); (case side1 => repeat (first | exact (Kd.R_reads' HO_5.out).2.2 | (with_reducible refine Kd.C_alloc ?_ _) | (with_reducible refine Kd.C_drewN ?_ _) | (with_reducible refine Kd.C_drew ?_))); (case side2 => exact (Kd.R_reads' HO_5.out).2.1); rintro e w' ⟨rfl, ⟨nd, rfl⟩⟩; refine ⟨_, rfl, ?_⟩))
               go_roundg k4
               case measure => have := HJ2.out; have := HJ21.out; have := HK3.out; have := HK4.out; omega
               case rel => exact ⟨(wrap64 (x12_4 + 1)), (by first | rfl | (simp; done) | (simp [*]; done)), H', ⟨by have := HJ2.out; have := HJ21.out; have := HK3.out; have := HK4.out; omega⟩, ⟨rup HO_5.out⟩, ⟨rup HO_7.out⟩, ⟨bup BK436.out⟩, ⟨by repeat (first | (with_reducible first | exact HB.out | apply below_alloc | apply pw_below_drewN | apply below_drew1 | refine below_set ?_ GE436.out) | exact HB.out)⟩⟩
              ·replace c68 := Bool.eq_false_iff.mpr c68
               subst c68
               have H1 : ((L_known.f).bind fun t458 => (some t458)) = some r := by rw [if_neg (show ¬ (false = true) by decide)] at H; exact H
               clear H
               have H := H1
               clear H1
               replace H := Option.bind_eq_some_iff.mp H
               obtain ⟨t458, A700, H⟩ := H
               replace H : (some t458) = some r := H
               have A70 := Aside0.mk A700
               clear A700
               obtain rfl := Option.some.inj H
               have p456 : 0 ≤ (x12_4 : Int) := of_decide_eq_true (by first | (with_reducible assumption) | assumption)
               have q456 : x12_4 < (l1.length : Int) := of_decide_eq_true (by first | (with_reducible assumption) | assumption)
               obtain ⟨ad456, e456, hx456_0⟩ := Kd.at_int HR1.out x12_4 p456 q456
               cases e456
               replace hx456_0 := (HB.out.cell (World.block_lt_of_cell? w _ hx456_0)).trans hx456_0
               replace p456 := eq_true p456
               replace q456 := eq_true q456
               obtain ⟨Ao71, co71, eo71⟩ := Kd.R_slice HO_5.out
               subst eo71
               go_wp2_with (first | ((with_reducible refine gate_callee (f := 32) rfl ?_); refine goesL_ (some 118) rfl rfl Tryz.func32 (by kernel_rfl) rfl #[.slice Ao71 t440.length co71, .int .i64 (rd l1 x12_4)] rfl (by (try simp only [List.map_toArray, List.map_cons, List.map_nil]); first | done | rfl | (simp only [List.length_drop, List.length_take]; rfl)) ?_; (with_reducible refine (T_Listed.calls k4 _ _ t440 (rd l1 x12_4) false _ ?side1 ?side2 A67.out).mono ?_); (case side1 => repeat (first | exact (Kd.R_reads' HO_5.out).2.2 | (with_reducible refine Kd.C_alloc ?_ _) | (with_reducible refine Kd.C_drewN ?_ _) | (with_reducible refine Kd.C_drew ?_))); (case side2 => exact (Kd.R_reads' HO_5.out).2.1); rintro e w' ⟨rfl, ⟨nd, rfl⟩⟩; refine ⟨_, rfl, ?_⟩) | ((with_reducible refine gate_callee (f := 17) rfl ?_); refine goesL_ (some 120) rfl rfl Tryz.func17 (by kernel_rfl) rfl #[] rfl (by (try simp only [List.map_toArray, List.map_cons, List.map_nil]); first | done | rfl | (simp only [List.length_drop, List.length_take]; rfl)) ?_; (with_reducible refine (L_known.calls  t458 _ A70.out ?sideT).mono ?_); (case sideT => exact HT.out.below (by repeat (first | (with_reducible first | exact HB.out | apply below_alloc | apply pw_below_drewN | apply below_drew1 | refine below_set ?_ GE436.out) | exact HB.out))); rintro e w72 ⟨rfl, hb⟩; refine ⟨_, rfl, ?_⟩; have n0_ := Aside0.mk (Kd.R_below (rup HO_5.out) hb); have n1_ := Aside0.mk (Kd.R_below (rup HO_7.out) hb); have n2_ := Aside0.mk (blk_below (g := gb436) (o := .cells #[.slice A0_0 l0_0.length c0_0, .int .i64 a0_1, .int .i64 a0_2, .int .i64 a0_3] 26 (0, 0)) (bup BK436.out) hb); have n3_ := Aside0.mk (below_step (by repeat (first | (with_reducible first | exact HB.out | apply below_alloc | apply pw_below_drewN | apply below_drew1 | refine below_set ?_ GE436.out) | exact HB.out)) hb); clear HO_5; clear HO_7; clear BK436; clear HB; have HO_5 := n0_; have HO_7 := n1_; have BK436 := n2_; have HB := n3_; clear n0_ n1_ n2_ n3_; (try clear hb); (try clear hb2); (try clear hk); (try clear hi)))
               go_ret
               exact ⟨by first | rfl | (simp [errW_none, errW_some] <;> rfl) | (simp [*, errW_none, errW_some] <;> rfl), by repeat (first | (with_reducible first | exact HB.out | apply below_alloc | apply pw_below_drewN | apply below_drew1 | refine below_set ?_ GE436.out) | exact HB.out)⟩
             ·rw [if_neg c66] at H
              exact absurd H (by simp)
            ·rw [if_neg c65] at H
             have c65b0 : decide (x12_4 < (l1.length : Int)) = false := decide_eq_false c65
             clear c65
             replace H := Option.bind_eq_some_iff.mp H
             obtain ⟨t459, A730, H⟩ := H
             replace H : (if t459 = true then (if (l1.length : Int) < (t444.length : Int) then ((L_known.f).bind fun t460 => (some t460)) else (if (l1.length : Int) = (t444.length : Int) then ((T_Before.f k4 l1 t444).bind fun t461 => (if t461 = true then (some false) else ((L_known.f).bind fun t462 => (some t462)))) else (some false))) else ((L_known.f).bind fun t463 => (some t463))) = some r := H
             have A73 := Aside0.mk A730
             clear A730
             by_cases c74 : t459 = true
             ·subst c74
              have H1 : (if (l1.length : Int) < (t444.length : Int) then ((L_known.f).bind fun t460 => (some t460)) else (if (l1.length : Int) = (t444.length : Int) then ((T_Before.f k4 l1 t444).bind fun t461 => (if t461 = true then (some false) else ((L_known.f).bind fun t462 => (some t462)))) else (some false))) = some r := by rw [if_pos rfl] at H; exact H
              clear H
              have H := H1
              clear H1
              by_cases c75 : (l1.length : Int) < (t444.length : Int)
              ·rw [if_pos c75] at H
               have c75b0 : decide ((l1.length : Int) < (t444.length : Int)) = true := decide_eq_true c75
               have c75b1 : decide (l1.length < t444.length) = true := decide_eq_true (Int.ofNat_lt.mp c75)
               clear c75
               replace H := Option.bind_eq_some_iff.mp H
               obtain ⟨t460, A760, H⟩ := H
               replace H : (some t460) = some r := H
               have A76 := Aside0.mk A760
               clear A760
               obtain rfl := Option.some.inj H
               have hcz77_0 : wr.cell? ⟨gb436, 0, none⟩ = some (.slice A0_0 l0_0.length c0_0) := (blk_cell BK436.out 0).trans rfl
               have hcz77_1 : wr.cell? ⟨gb436, 1, none⟩ = some (.int .i64 a0_1) := (blk_cell BK436.out 1).trans rfl
               have hcz77_2 : wr.cell? ⟨gb436, 2, none⟩ = some (.int .i64 a0_2) := (blk_cell BK436.out 2).trans rfl
               have hcz77_3 : wr.cell? ⟨gb436, 3, none⟩ = some (.int .i64 a0_3) := (blk_cell BK436.out 3).trans rfl
               have hfz77_0 := blk_frozen BK436.out 0
               have hfz77_1 := blk_frozen BK436.out 1
               have hfz77_2 := blk_frozen BK436.out 2
               have hfz77_3 := blk_frozen BK436.out 3
               go_wp2_with (first | ((with_reducible refine gate_callee (f := 44) rfl ?_); refine goesL_ (some 123) rfl rfl Tryz.func44 (by kernel_rfl) rfl #[.agg #[.slice A0_0 l0_0.length c0_0, .int .i64 a0_1, .int .i64 a0_2, .int .i64 a0_3], .slice A1 l1.length c1] rfl (by (try simp only [List.map_toArray, List.map_cons, List.map_nil]); first | done | rfl | (simp only [List.length_drop, List.length_take]; rfl)) ?_; (with_reducible refine (R_Apart.calls k4 _ _ l0_0 a0_1 a0_2 a0_3 _ _ l1 true _ ?side1 ?side2 ?side3 ?side4 A73.out).mono ?_); (case side1 => repeat (first | exact (Kd.C_below HR0_0.out HB.out) | (with_reducible refine Kd.C_alloc ?_ _) | (with_reducible refine Kd.C_drewN ?_ _) | (with_reducible refine Kd.C_drew ?_))); (case side2 => exact HC0_0.out); (case side3 => repeat (first | exact (Kd.C_below HR1.out HB.out) | (with_reducible refine Kd.C_alloc ?_ _) | (with_reducible refine Kd.C_drewN ?_ _) | (with_reducible refine Kd.C_drew ?_))); (case side4 => exact HC1.out); rintro e w78 ⟨rfl, hb⟩; refine ⟨_, rfl, ?_⟩; have n0_ := Aside0.mk (Kd.R_below (rup HO_5.out) hb); have n1_ := Aside0.mk (Kd.R_below (rup HO_7.out) hb); have n2_ := Aside0.mk (blk_below (g := gb436) (o := .cells #[.slice A0_0 l0_0.length c0_0, .int .i64 a0_1, .int .i64 a0_2, .int .i64 a0_3] 26 (0, 0)) (bup BK436.out) hb); have n3_ := Aside0.mk (below_step (by repeat (first | (with_reducible first | exact HB.out | apply below_alloc | apply pw_below_drewN | apply below_drew1 | refine below_set ?_ GE436.out) | exact HB.out)) hb); clear HO_5; clear HO_7; clear BK436; clear HB; have HO_5 := n0_; have HO_7 := n1_; have BK436 := n2_; have HB := n3_; clear n0_ n1_ n2_ n3_; (try clear hb); (try clear hb2); (try clear hk); (try clear hi)) | (go_at_call 17; (with_reducible refine (L_known.calls  t460 _ A76.out ?sideT).mono ?_); (case sideT => exact HT.out.below (by repeat (first | (with_reducible first | exact HB.out | apply below_alloc | apply pw_below_drewN | apply below_drew1 | refine below_set ?_ GE436.out) | exact HB.out))); rintro e w79 ⟨rfl, hb⟩; have n0_ := Aside0.mk (Kd.R_below (rup HO_5.out) hb); have n1_ := Aside0.mk (Kd.R_below (rup HO_7.out) hb); have n2_ := Aside0.mk (blk_below (g := gb436) (o := .cells #[.slice A0_0 l0_0.length c0_0, .int .i64 a0_1, .int .i64 a0_2, .int .i64 a0_3] 26 (0, 0)) (bup BK436.out) hb); have n3_ := Aside0.mk (below_step (by repeat (first | (with_reducible first | exact HB.out | apply below_alloc | apply pw_below_drewN | apply below_drew1 | refine below_set ?_ GE436.out) | exact HB.out)) hb); clear HO_5; clear HO_7; clear BK436; clear HB; have HO_5 := n0_; have HO_7 := n1_; have BK436 := n2_; have HB := n3_; clear n0_ n1_ n2_ n3_; (try clear hb); (try clear hb2); (try clear hk); (try clear hi)))
               go_ret
               exact ⟨by first | rfl | (simp [errW_none, errW_some] <;> rfl) | (simp [*, errW_none, errW_some] <;> rfl), by repeat (first | (with_reducible first | exact HB.out | apply below_alloc | apply pw_below_drewN | apply below_drew1 | refine below_set ?_ GE436.out) | exact HB.out)⟩
              ·rw [if_neg c75] at H
               have c75b0 : decide ((l1.length : Int) < (t444.length : Int)) = false := decide_eq_false c75
               have c75b1 : decide (l1.length < t444.length) = false := decide_eq_false (fun h => c75 (Int.ofNat_lt.mpr h))
               clear c75
               by_cases c80 : (l1.length : Int) = (t444.length : Int)
               ·rw [if_pos c80] at H
                have c80b0 : ((l1.length : Int) == (t444.length : Int)) = true := beq_iff_eq.mpr c80
                have c80b1 : ((l1.length : Int) != (t444.length : Int)) = false := bne_eq_false_iff_eq.mpr c80
                have c80b2 : (l1.length == t444.length) = true := by first | simpa using c80 | (simp at c80 ⊢; omega)
                clear c80
                replace H := Option.bind_eq_some_iff.mp H
                obtain ⟨t461, A810, H⟩ := H
                replace H : (if t461 = true then (some false) else ((L_known.f).bind fun t462 => (some t462))) = some r := H
                have A81 := Aside0.mk A810
                clear A810
                by_cases c82 : t461 = true
                ·subst c82
                 have H1 : (some false) = some r := by rw [if_pos rfl] at H; exact H
                 clear H
                 have H := H1
                 clear H1
                 obtain rfl := Option.some.inj H
                 have hcz83_0 : wr.cell? ⟨gb436, 0, none⟩ = some (.slice A0_0 l0_0.length c0_0) := (blk_cell BK436.out 0).trans rfl
                 have hcz83_1 : wr.cell? ⟨gb436, 1, none⟩ = some (.int .i64 a0_1) := (blk_cell BK436.out 1).trans rfl
                 have hcz83_2 : wr.cell? ⟨gb436, 2, none⟩ = some (.int .i64 a0_2) := (blk_cell BK436.out 2).trans rfl
                 have hcz83_3 : wr.cell? ⟨gb436, 3, none⟩ = some (.int .i64 a0_3) := (blk_cell BK436.out 3).trans rfl
                 have hfz83_0 := blk_frozen BK436.out 0
                 have hfz83_1 := blk_frozen BK436.out 1
                 have hfz83_2 := blk_frozen BK436.out 2
                 have hfz83_3 := blk_frozen BK436.out 3
                 go_wp2_with (first | ((with_reducible refine gate_callee (f := 44) rfl ?_); refine goesL_ (some 123) rfl rfl Tryz.func44 (by kernel_rfl) rfl #[.agg #[.slice A0_0 l0_0.length c0_0, .int .i64 a0_1, .int .i64 a0_2, .int .i64 a0_3], .slice A1 l1.length c1] rfl (by (try simp only [List.map_toArray, List.map_cons, List.map_nil]); first | done | rfl | (simp only [List.length_drop, List.length_take]; rfl)) ?_; (with_reducible refine (R_Apart.calls k4 _ _ l0_0 a0_1 a0_2 a0_3 _ _ l1 true _ ?side1 ?side2 ?side3 ?side4 A73.out).mono ?_); (case side1 => repeat (first | exact (Kd.C_below HR0_0.out HB.out) | (with_reducible refine Kd.C_alloc ?_ _) | (with_reducible refine Kd.C_drewN ?_ _) | (with_reducible refine Kd.C_drew ?_))); (case side2 => exact HC0_0.out); (case side3 => repeat (first | exact (Kd.C_below HR1.out HB.out) | (with_reducible refine Kd.C_alloc ?_ _) | (with_reducible refine Kd.C_drewN ?_ _) | (with_reducible refine Kd.C_drew ?_))); (case side4 => exact HC1.out); rintro e w84 ⟨rfl, hb⟩; refine ⟨_, rfl, ?_⟩; have n0_ := Aside0.mk (Kd.R_below (rup HO_5.out) hb); have n1_ := Aside0.mk (Kd.R_below (rup HO_7.out) hb); have n2_ := Aside0.mk (blk_below (g := gb436) (o := .cells #[.slice A0_0 l0_0.length c0_0, .int .i64 a0_1, .int .i64 a0_2, .int .i64 a0_3] 26 (0, 0)) (bup BK436.out) hb); have n3_ := Aside0.mk (below_step (by repeat (first | (with_reducible first | exact HB.out | apply below_alloc | apply pw_below_drewN | apply below_drew1 | refine below_set ?_ GE436.out) | exact HB.out)) hb); clear HO_5; clear HO_7; clear BK436; clear HB; have HO_5 := n0_; have HO_7 := n1_; have BK436 := n2_; have HB := n3_; clear n0_ n1_ n2_ n3_; (try clear hb); (try clear hb2); (try clear hk); (try clear hi)) | (go_at_call 33; (with_reducible refine (T_Before.calls k4 _ _ l1 _ _ t444 true _ ?side1 ?side2 ?side3 ?side4 A81.out).mono ?_); (case side1 => repeat (first | exact (Kd.C_below HR1.out HB.out) | (with_reducible refine Kd.C_alloc ?_ _) | (with_reducible refine Kd.C_drewN ?_ _) | (with_reducible refine Kd.C_drew ?_))); (case side2 => exact HC1.out); (case side3 => repeat (first | exact (Kd.R_reads' HO_7.out).2.2 | (with_reducible refine Kd.C_alloc ?_ _) | (with_reducible refine Kd.C_drewN ?_ _) | (with_reducible refine Kd.C_drew ?_))); (case side4 => exact (Kd.R_reads' HO_7.out).2.1); rintro e w' ⟨rfl, ⟨nd, rfl⟩⟩))
                 go_ret
                 exact ⟨by first | rfl | (simp [errW_none, errW_some] <;> rfl) | (simp [*, errW_none, errW_some] <;> rfl), by repeat (first | (with_reducible first | exact HB.out | apply below_alloc | apply pw_below_drewN | apply below_drew1 | refine below_set ?_ GE436.out) | exact HB.out)⟩
                ·replace c82 := Bool.eq_false_iff.mpr c82
                 subst c82
                 have H1 : ((L_known.f).bind fun t462 => (some t462)) = some r := by rw [if_neg (show ¬ (false = true) by decide)] at H; exact H
                 clear H
                 have H := H1
                 clear H1
                 replace H := Option.bind_eq_some_iff.mp H
                 obtain ⟨t462, A850, H⟩ := H
                 replace H : (some t462) = some r := H
                 have A85 := Aside0.mk A850
                 clear A850
                 obtain rfl := Option.some.inj H
                 have hcz86_0 : wr.cell? ⟨gb436, 0, none⟩ = some (.slice A0_0 l0_0.length c0_0) := (blk_cell BK436.out 0).trans rfl
                 have hcz86_1 : wr.cell? ⟨gb436, 1, none⟩ = some (.int .i64 a0_1) := (blk_cell BK436.out 1).trans rfl
                 have hcz86_2 : wr.cell? ⟨gb436, 2, none⟩ = some (.int .i64 a0_2) := (blk_cell BK436.out 2).trans rfl
                 have hcz86_3 : wr.cell? ⟨gb436, 3, none⟩ = some (.int .i64 a0_3) := (blk_cell BK436.out 3).trans rfl
                 have hfz86_0 := blk_frozen BK436.out 0
                 have hfz86_1 := blk_frozen BK436.out 1
                 have hfz86_2 := blk_frozen BK436.out 2
                 have hfz86_3 := blk_frozen BK436.out 3
                 go_wp2_with (first | ((with_reducible refine gate_callee (f := 44) rfl ?_); refine goesL_ (some 123) rfl rfl Tryz.func44 (by kernel_rfl) rfl #[.agg #[.slice A0_0 l0_0.length c0_0, .int .i64 a0_1, .int .i64 a0_2, .int .i64 a0_3], .slice A1 l1.length c1] rfl (by (try simp only [List.map_toArray, List.map_cons, List.map_nil]); first | done | rfl | (simp only [List.length_drop, List.length_take]; rfl)) ?_; (with_reducible refine (R_Apart.calls k4 _ _ l0_0 a0_1 a0_2 a0_3 _ _ l1 true _ ?side1 ?side2 ?side3 ?side4 A73.out).mono ?_); (case side1 => repeat (first | exact (Kd.C_below HR0_0.out HB.out) | (with_reducible refine Kd.C_alloc ?_ _) | (with_reducible refine Kd.C_drewN ?_ _) | (with_reducible refine Kd.C_drew ?_))); (case side2 => exact HC0_0.out); (case side3 => repeat (first | exact (Kd.C_below HR1.out HB.out) | (with_reducible refine Kd.C_alloc ?_ _) | (with_reducible refine Kd.C_drewN ?_ _) | (with_reducible refine Kd.C_drew ?_))); (case side4 => exact HC1.out); rintro e w87 ⟨rfl, hb⟩; refine ⟨_, rfl, ?_⟩; have n0_ := Aside0.mk (Kd.R_below (rup HO_5.out) hb); have n1_ := Aside0.mk (Kd.R_below (rup HO_7.out) hb); have n2_ := Aside0.mk (blk_below (g := gb436) (o := .cells #[.slice A0_0 l0_0.length c0_0, .int .i64 a0_1, .int .i64 a0_2, .int .i64 a0_3] 26 (0, 0)) (bup BK436.out) hb); have n3_ := Aside0.mk (below_step (by repeat (first | (with_reducible first | exact HB.out | apply below_alloc | apply pw_below_drewN | apply below_drew1 | refine below_set ?_ GE436.out) | exact HB.out)) hb); clear HO_5; clear HO_7; clear BK436; clear HB; have HO_5 := n0_; have HO_7 := n1_; have BK436 := n2_; have HB := n3_; clear n0_ n1_ n2_ n3_; (try clear hb); (try clear hb2); (try clear hk); (try clear hi)) | (go_at_call 33; (with_reducible refine (T_Before.calls k4 _ _ l1 _ _ t444 false _ ?side1 ?side2 ?side3 ?side4 A81.out).mono ?_); (case side1 => repeat (first | exact (Kd.C_below HR1.out HB.out) | (with_reducible refine Kd.C_alloc ?_ _) | (with_reducible refine Kd.C_drewN ?_ _) | (with_reducible refine Kd.C_drew ?_))); (case side2 => exact HC1.out); (case side3 => repeat (first | exact (Kd.R_reads' HO_7.out).2.2 | (with_reducible refine Kd.C_alloc ?_ _) | (with_reducible refine Kd.C_drewN ?_ _) | (with_reducible refine Kd.C_drew ?_))); (case side4 => exact (Kd.R_reads' HO_7.out).2.1); rintro e w' ⟨rfl, ⟨nd, rfl⟩⟩) | (go_at_call 17; (with_reducible refine (L_known.calls  t462 _ A85.out ?sideT).mono ?_); (case sideT => exact HT.out.below (by repeat (first | (with_reducible first | exact HB.out | apply below_alloc | apply pw_below_drewN | apply below_drew1 | refine below_set ?_ GE436.out) | exact HB.out))); rintro e w88 ⟨rfl, hb⟩; have n0_ := Aside0.mk (Kd.R_below (rup HO_5.out) hb); have n1_ := Aside0.mk (Kd.R_below (rup HO_7.out) hb); have n2_ := Aside0.mk (blk_below (g := gb436) (o := .cells #[.slice A0_0 l0_0.length c0_0, .int .i64 a0_1, .int .i64 a0_2, .int .i64 a0_3] 26 (0, 0)) (bup BK436.out) hb); have n3_ := Aside0.mk (below_step (by repeat (first | (with_reducible first | exact HB.out | apply below_alloc | apply pw_below_drewN | apply below_drew1 | refine below_set ?_ GE436.out) | exact HB.out)) hb); clear HO_5; clear HO_7; clear BK436; clear HB; have HO_5 := n0_; have HO_7 := n1_; have BK436 := n2_; have HB := n3_; clear n0_ n1_ n2_ n3_; (try clear hb); (try clear hb2); (try clear hk); (try clear hi)))
                 go_ret
                 exact ⟨by first | rfl | (simp [errW_none, errW_some] <;> rfl) | (simp [*, errW_none, errW_some] <;> rfl), by repeat (first | (with_reducible first | exact HB.out | apply below_alloc | apply pw_below_drewN | apply below_drew1 | refine below_set ?_ GE436.out) | exact HB.out)⟩
               ·rw [if_neg c80] at H
                have c80b0 : ((l1.length : Int) == (t444.length : Int)) = false := beq_eq_false_iff_ne.mpr c80
                have c80b1 : ((l1.length : Int) != (t444.length : Int)) = true := bne_iff_ne.mpr c80
                have c80b2 : (l1.length == t444.length) = false := by first | simpa using c80 | (simp at c80 ⊢; omega)
                obtain rfl := Option.some.inj H
                have hcz89_0 : wr.cell? ⟨gb436, 0, none⟩ = some (.slice A0_0 l0_0.length c0_0) := (blk_cell BK436.out 0).trans rfl
                have hcz89_1 : wr.cell? ⟨gb436, 1, none⟩ = some (.int .i64 a0_1) := (blk_cell BK436.out 1).trans rfl
                have hcz89_2 : wr.cell? ⟨gb436, 2, none⟩ = some (.int .i64 a0_2) := (blk_cell BK436.out 2).trans rfl
                have hcz89_3 : wr.cell? ⟨gb436, 3, none⟩ = some (.int .i64 a0_3) := (blk_cell BK436.out 3).trans rfl
                have hfz89_0 := blk_frozen BK436.out 0
                have hfz89_1 := blk_frozen BK436.out 1
                have hfz89_2 := blk_frozen BK436.out 2
                have hfz89_3 := blk_frozen BK436.out 3
                go_wp2_with (first | ((with_reducible refine gate_callee (f := 44) rfl ?_); refine goesL_ (some 123) rfl rfl Tryz.func44 (by kernel_rfl) rfl #[.agg #[.slice A0_0 l0_0.length c0_0, .int .i64 a0_1, .int .i64 a0_2, .int .i64 a0_3], .slice A1 l1.length c1] rfl (by (try simp only [List.map_toArray, List.map_cons, List.map_nil]); first | done | rfl | (simp only [List.length_drop, List.length_take]; rfl)) ?_; (with_reducible refine (R_Apart.calls k4 _ _ l0_0 a0_1 a0_2 a0_3 _ _ l1 true _ ?side1 ?side2 ?side3 ?side4 A73.out).mono ?_); (case side1 => repeat (first | exact (Kd.C_below HR0_0.out HB.out) | (with_reducible refine Kd.C_alloc ?_ _) | (with_reducible refine Kd.C_drewN ?_ _) | (with_reducible refine Kd.C_drew ?_))); (case side2 => exact HC0_0.out); (case side3 => repeat (first | exact (Kd.C_below HR1.out HB.out) | (with_reducible refine Kd.C_alloc ?_ _) | (with_reducible refine Kd.C_drewN ?_ _) | (with_reducible refine Kd.C_drew ?_))); (case side4 => exact HC1.out); rintro e w90 ⟨rfl, hb⟩; refine ⟨_, rfl, ?_⟩; have n0_ := Aside0.mk (Kd.R_below (rup HO_5.out) hb); have n1_ := Aside0.mk (Kd.R_below (rup HO_7.out) hb); have n2_ := Aside0.mk (blk_below (g := gb436) (o := .cells #[.slice A0_0 l0_0.length c0_0, .int .i64 a0_1, .int .i64 a0_2, .int .i64 a0_3] 26 (0, 0)) (bup BK436.out) hb); have n3_ := Aside0.mk (below_step (by repeat (first | (with_reducible first | exact HB.out | apply below_alloc | apply pw_below_drewN | apply below_drew1 | refine below_set ?_ GE436.out) | exact HB.out)) hb); clear HO_5; clear HO_7; clear BK436; clear HB; have HO_5 := n0_; have HO_7 := n1_; have BK436 := n2_; have HB := n3_; clear n0_ n1_ n2_ n3_; (try clear hb); (try clear hb2); (try clear hk); (try clear hi)))
                go_ret
                exact ⟨by first | rfl | (simp [errW_none, errW_some] <;> rfl) | (simp [*, errW_none, errW_some] <;> rfl), by repeat (first | (with_reducible first | exact HB.out | apply below_alloc | apply pw_below_drewN | apply below_drew1 | refine below_set ?_ GE436.out) | exact HB.out)⟩
             ·replace c74 := Bool.eq_false_iff.mpr c74
              subst c74
              have H1 : ((L_known.f).bind fun t463 => (some t463)) = some r := by rw [if_neg (show ¬ (false = true) by decide)] at H; exact H
              clear H
              have H := H1
              clear H1
              replace H := Option.bind_eq_some_iff.mp H
              obtain ⟨t463, A910, H⟩ := H
              replace H : (some t463) = some r := H
              have A91 := Aside0.mk A910
              clear A910
              obtain rfl := Option.some.inj H
              have hcz92_0 : wr.cell? ⟨gb436, 0, none⟩ = some (.slice A0_0 l0_0.length c0_0) := (blk_cell BK436.out 0).trans rfl
              have hcz92_1 : wr.cell? ⟨gb436, 1, none⟩ = some (.int .i64 a0_1) := (blk_cell BK436.out 1).trans rfl
              have hcz92_2 : wr.cell? ⟨gb436, 2, none⟩ = some (.int .i64 a0_2) := (blk_cell BK436.out 2).trans rfl
              have hcz92_3 : wr.cell? ⟨gb436, 3, none⟩ = some (.int .i64 a0_3) := (blk_cell BK436.out 3).trans rfl
              have hfz92_0 := blk_frozen BK436.out 0
              have hfz92_1 := blk_frozen BK436.out 1
              have hfz92_2 := blk_frozen BK436.out 2
              have hfz92_3 := blk_frozen BK436.out 3
              go_wp2_with (first | ((with_reducible refine gate_callee (f := 44) rfl ?_); refine goesL_ (some 123) rfl rfl Tryz.func44 (by kernel_rfl) rfl #[.agg #[.slice A0_0 l0_0.length c0_0, .int .i64 a0_1, .int .i64 a0_2, .int .i64 a0_3], .slice A1 l1.length c1] rfl (by (try simp only [List.map_toArray, List.map_cons, List.map_nil]); first | done | rfl | (simp only [List.length_drop, List.length_take]; rfl)) ?_; (with_reducible refine (R_Apart.calls k4 _ _ l0_0 a0_1 a0_2 a0_3 _ _ l1 false _ ?side1 ?side2 ?side3 ?side4 A73.out).mono ?_); (case side1 => repeat (first | exact (Kd.C_below HR0_0.out HB.out) | (with_reducible refine Kd.C_alloc ?_ _) | (with_reducible refine Kd.C_drewN ?_ _) | (with_reducible refine Kd.C_drew ?_))); (case side2 => exact HC0_0.out); (case side3 => repeat (first | exact (Kd.C_below HR1.out HB.out) | (with_reducible refine Kd.C_alloc ?_ _) | (with_reducible refine Kd.C_drewN ?_ _) | (with_reducible refine Kd.C_drew ?_))); (case side4 => exact HC1.out); rintro e w93 ⟨rfl, hb⟩; refine ⟨_, rfl, ?_⟩; have n0_ := Aside0.mk (Kd.R_below (rup HO_5.out) hb); have n1_ := Aside0.mk (Kd.R_below (rup HO_7.out) hb); have n2_ := Aside0.mk (blk_below (g := gb436) (o := .cells #[.slice A0_0 l0_0.length c0_0, .int .i64 a0_1, .int .i64 a0_2, .int .i64 a0_3] 26 (0, 0)) (bup BK436.out) hb); have n3_ := Aside0.mk (below_step (by repeat (first | (with_reducible first | exact HB.out | apply below_alloc | apply pw_below_drewN | apply below_drew1 | refine below_set ?_ GE436.out) | exact HB.out)) hb); clear HO_5; clear HO_7; clear BK436; clear HB; have HO_5 := n0_; have HO_7 := n1_; have BK436 := n2_; have HB := n3_; clear n0_ n1_ n2_ n3_; (try clear hb); (try clear hb2); (try clear hk); (try clear hi)) | ((with_reducible refine gate_callee (f := 17) rfl ?_); refine goesL_ (some 125) rfl rfl Tryz.func17 (by kernel_rfl) rfl #[] rfl (by (try simp only [List.map_toArray, List.map_cons, List.map_nil]); first | done | rfl | (simp only [List.length_drop, List.length_take]; rfl)) ?_; (with_reducible refine (L_known.calls  t463 _ A91.out ?sideT).mono ?_); (case sideT => exact HT.out.below (by repeat (first | (with_reducible first | exact HB.out | apply below_alloc | apply pw_below_drewN | apply below_drew1 | refine below_set ?_ GE436.out) | exact HB.out))); rintro e w94 ⟨rfl, hb⟩; refine ⟨_, rfl, ?_⟩; have n0_ := Aside0.mk (Kd.R_below (rup HO_5.out) hb); have n1_ := Aside0.mk (Kd.R_below (rup HO_7.out) hb); have n2_ := Aside0.mk (blk_below (g := gb436) (o := .cells #[.slice A0_0 l0_0.length c0_0, .int .i64 a0_1, .int .i64 a0_2, .int .i64 a0_3] 26 (0, 0)) (bup BK436.out) hb); have n3_ := Aside0.mk (below_step (by repeat (first | (with_reducible first | exact HB.out | apply below_alloc | apply pw_below_drewN | apply below_drew1 | refine below_set ?_ GE436.out) | exact HB.out)) hb); clear HO_5; clear HO_7; clear BK436; clear HB; have HO_5 := n0_; have HO_7 := n1_; have BK436 := n2_; have HB := n3_; clear n0_ n1_ n2_ n3_; (try clear hb); (try clear hb2); (try clear hk); (try clear hi)))
              go_ret
              exact ⟨by first | rfl | (simp [errW_none, errW_some] <;> rfl) | (simp [*, errW_none, errW_some] <;> rfl), by repeat (first | (with_reducible first | exact HB.out | apply below_alloc | apply pw_below_drewN | apply below_drew1 | refine below_set ?_ GE436.out) | exact HB.out)⟩
end Go.Proofs.YtohlmoppcmjknaaGreatDoor.P
end
