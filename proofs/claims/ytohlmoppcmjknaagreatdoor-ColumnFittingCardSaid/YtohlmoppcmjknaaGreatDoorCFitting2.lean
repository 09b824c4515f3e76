/- What the law reaches beyond the common part; joined out of several texts. -/
import Derived.Test.YtohlmoppcmjknaaGreatDoorM2
import Derived.Test.YtohlmoppcmjknaaGreatDoorM4
import Derived.Test.YtohlmoppcmjknaaGreatDoorM5
import Derived.Test.YtohlmoppcmjknaaGreatDoorM7
import Derived.Test.YtohlmoppcmjknaaGreatDoorM20
import Derived.Test.YtohlmoppcmjknaaGreatDoorCFitting1
section
namespace Go.Proofs.YtohlmoppcmjknaaGreatDoor.P
open Go.RowKit Go.Proofs.YtohlmoppcmjknaaGreatDoorW.PrintWords Go.Proofs.YtohlmoppcmjknaaGreatDoorW.PrintLast Go.Proofs.YtohlmoppcmjknaaGreatDoorW.PrintMore
attribute [local go_sem] max2_int min2_int max_two min_two max_three min_three max_four min_four
set_option linter.unusedVariables false
set_option linter.unusedSimpArgs false
mutual
def L_Fitting.j0 : Nat → Int → Int → Bool → List Int → Int → Int → Int → Option (Bool)
 | 0, _, _, _, _, _, _, _ => none
 | k + 1, x1, x2, x28, x474000, x474001, x474002, x474003 => if x28 = true then ((L_known.f).bind fun t477 => (some t477)) else ((column_Between.f k x474000 x474001 x474002 x474003 x1).bind fun bt478 => ((column_Jumps.f x474000 x474001 x474002 x474003).bind fun bt482 => ((R_Changed.f x474000 x474001 x474002 x474003 x1 x2).bind fun bt486 => ((column_Jumps.f bt486.1 bt486.2.1 bt486.2.2.1 bt486.2.2.2).bind fun bt492 => (if bt478.2.2 = 0 then (if bt482.2 = 0 then (if bt492.2 = 0 then (if (bt482.1.length : Int) > (x474000.length : Int) then (L_Fitting.j1 k x1 x2 bt478.2.2 bt482.1 bt492.1 true x474000 x474001 x474002 x474003 bt478.1 bt478.2.1) else (L_Fitting.j1 k x1 x2 bt478.2.2 bt482.1 bt492.1 (decide ((bt492.1.length : Int) > (x474000.length : Int))) x474000 x474001 x474002 x474003 bt478.1 bt478.2.1)) else (L_Fitting.j1 k x1 x2 bt478.2.2 bt482.1 bt492.1 true x474000 x474001 x474002 x474003 bt478.1 bt478.2.1)) else (L_Fitting.j1 k x1 x2 bt478.2.2 bt482.1 bt492.1 true x474000 x474001 x474002 x474003 bt478.1 bt478.2.1)) else (if bt478.2.2 = 5 then (if bt482.2 = 0 then (if bt492.2 = 0 then (if (bt482.1.length : Int) > (x474000.length : Int) then (L_Fitting.j1 k x1 x2 bt478.2.2 bt482.1 bt492.1 true x474000 x474001 x474002 x474003 bt478.1 bt478.2.1) else (L_Fitting.j1 k x1 x2 bt478.2.2 bt482.1 bt492.1 (decide ((bt492.1.length : Int) > (x474000.length : Int))) x474000 x474001 x474002 x474003 bt478.1 bt478.2.1)) else (L_Fitting.j1 k x1 x2 bt478.2.2 bt482.1 bt492.1 true x474000 x474001 x474002 x474003 bt478.1 bt478.2.1)) else (L_Fitting.j1 k x1 x2 bt478.2.2 bt482.1 bt492.1 true x474000 x474001 x474002 x474003 bt478.1 bt478.2.1)) else (L_Fitting.j1 k x1 x2 bt478.2.2 bt482.1 bt492.1 true x474000 x474001 x474002 x474003 bt478.1 bt478.2.1)))))))
def L_Fitting.j1 : Nat → Int → Int → Int → List Int → List Int → Bool → List Int → Int → Int → Int → Int → Int → Option (Bool)
 | 0, _, _, _, _, _, _, _, _, _, _, _, _ => none
 | k + 1, x1, x2, x8, x9, x11, x78, x474000, x474001, x474002, x474003, x482000, x482001 => if x78 = true then (some false) else (L_Fitting.l0 k x1 x2 x8 x9 x11 true 0 x474000 x474001 x474002 x474003 x482000 x482001)
def L_Fitting.l0 : Nat → Int → Int → Int → List Int → List Int → Bool → Int → List Int → Int → Int → Int → Int → Int → Option (Bool)
 | 0, _, _, _, _, _, _, _, _, _, _, _, _, _ => none
 | k + 1, x1, x2, x8, x9, x11, x13, x14, x474000, x474001, x474002, x474003, x482000, x482001 => if (wrap64 (x14 + x474001)) < (x474000.length : Int) then (if x1 ≥ x14 then (L_Fitting.j3 k x1 x2 x8 x9 x11 x13 x14 (decide (x1 ≤ (wrap64 (x14 + x474001)))) x474000 x474001 x474002 x474003 x482000 x482001) else (L_Fitting.j3 k x1 x2 x8 x9 x11 x13 x14 false x474000 x474001 x474002 x474003 x482000 x482001)) else (if x8 = 0 then (if x2 ≥ x482000 then (if (x13 == (decide (x2 ≤ x482001))) = true then ((L_known.f).bind fun t496 => (some t496)) else (some false)) else (if (x13 == false) = true then ((L_known.f).bind fun t497 => (some t497)) else (some false))) else (if (x13 == false) = true then ((L_known.f).bind fun t498 => (some t498)) else (some false)))
def L_Fitting.j3 : Nat → Int → Int → Int → List Int → List Int → Bool → Int → Bool → List Int → Int → Int → Int → Int → Int → Option (Bool)
 | 0, _, _, _, _, _, _, _, _, _, _, _, _, _, _ => none
 | k + 1, x1, x2, x8, x9, x11, x13, x14, x99, x474000, x474001, x474002, x474003, x482000, x482001 => if x99 = true then (if x13 = true then ((T_Listed.f k x11 x14).bind fun t499 => (L_Fitting.l0 k x1 x2 x8 x9 x11 (!t499) (wrap64 (x14 + 1)) x474000 x474001 x474002 x474003 x482000 x482001)) else (L_Fitting.l0 k x1 x2 x8 x9 x11 false (wrap64 (x14 + 1)) x474000 x474001 x474002 x474003 x482000 x482001)) else ((T_Listed.f k x11 x14).bind fun t500 => ((T_Listed.f k x9 x14).bind fun t501 => (if (t500 != t501) = true then (some false) else (L_Fitting.l0 k x1 x2 x8 x9 x11 x13 (wrap64 (x14 + 1)) x474000 x474001 x474002 x474003 x482000 x482001))))
end
def L_Fitting.f (k : Nat) (l0_0 : List Int) (a0_1 : Int) (a0_2 : Int) (a0_3 : Int) (a1 : Int) (a2 : Int) : Option (Bool) := (L_right.f k l0_0 a0_1 a0_2 a0_3).bind fun t474 => (if t474 = true then ((R_Line.f l0_0 a0_1 a0_2 a0_3 a1).bind fun t475 => (if t475 = true then ((R_Value.f a2).bind fun t476 => (L_Fitting.j0 k a1 a2 (!t476) l0_0 a0_1 a0_2 a0_3)) else (L_Fitting.j0 k a1 a2 true l0_0 a0_1 a0_2 a0_3))) else (L_Fitting.j0 k a1 a2 true l0_0 a0_1 a0_2 a0_3))
set_option maxHeartbeats 8000000 in
set_option maxRecDepth 100000 in
theorem L_Fitting.calls (k : Nat) (A0_0 : Option Addr) (c0_0 : Nat) (l0_0 : List Int) (a0_1 : Int) (a0_2 : Int) (a0_3 : Int) (a1 : Int) (a2 : Int) (r : Bool) (w : World) (hr0_0 : Kd.C (Kd.int .i64) w A0_0 l0_0.length l0_0) (hc0_0 : l0_0.length ≤ c0_0) (h : L_Fitting.f k l0_0 a0_1 a0_2 a0_3 a1 a2 = some r) (hT : Tryz.Glob w) :
  Calls Tryz.prog 9 #[.agg #[.slice A0_0 l0_0.length c0_0, .int .i64 a0_1, .int .i64 a0_2, .int .i64 a0_3], .int .i64 a1, .int .i64 a2] w fun e w' => e = .returned (.bool r) ∧ Below w.heap.size w w' := by
 have hu26 := Tryz.underlying26
 have hu24 := Tryz.underlying24
 have HR0_0 := Aside0.mk hr0_0
 have HC0_0 := Aside0.mk hc0_0
 clear hr0_0 hc0_0
 have HB := Aside0.mk (Below.refl w.heap.size w)
 have HT := Aside0.mk hT
 clear hT
 have H : ((L_right.f k l0_0 a0_1 a0_2 a0_3).bind fun t474 => (if t474 = true then ((R_Line.f l0_0 a0_1 a0_2 a0_3 a1).bind fun t475 => (if t475 = true then ((R_Value.f a2).bind fun t476 => (L_Fitting.j0 k a1 a2 (!t476) l0_0 a0_1 a0_2 a0_3)) else (L_Fitting.j0 k a1 a2 true l0_0 a0_1 a0_2 a0_3))) else (L_Fitting.j0 k a1 a2 true l0_0 a0_1 a0_2 a0_3))) = some r := h
 clear h
 have HC4 := Aside0.mk H
 clear H
 go_enter Tryz.func9, Tryz.ntmps9
 go_upto_region 1 with (first | ((with_reducible refine gate_dst (N := 3) rfl ?_); (try (refine gate_guard (by rfl) ?_; dsimp only)); refine box_event ?hg (N := 3) ?hd (cs := #[.slice A0_0 l0_0.length c0_0, .int .i64 a0_1, .int .i64 a0_2, .int .i64 a0_3]) (t := 26) ?hr ?_; (case hd => rfl); (case hg => rfl); (case hr => first | (go_simp; done) | (go_simp; rfl)); intro gb473 hg w5 hbox hb; have n0_ := Aside0.mk (below_step (wup HB.out) hb); have n1_ := Aside0.mk (hbox); have n2_ := Aside0.mk ((by rw [hg]; exact (below_size (wup HB.out)) : w.heap.size ≤ gb473)); have n3_ := Aside0.mk ((by rw [hg]; exact (below_size (wup HB.out)) : w.heap.size ≤ gb473)); clear HB; have HB := n0_; have BK473 := n1_; have GW473 := n2_; have GE473 := n3_; clear n0_ n1_ n2_ n3_; clear hb hbox hg))
 (try simp only [Act.put, List.setIfInBounds_toArray, List.set_cons_zero, List.set_cons_succ])
 go_cut [28] (fun v28 wc => ∃ (kq : Nat) (x28_3 : Bool), v28 = .bool x28_3 ∧ Aside0 (L_Fitting.j0 kq a1 a2 x28_3 l0_0 a0_1 a0_2 a0_3 = some r) ∧ Aside0 (kq ≤ k) ∧ Aside0 (wc.heap[gb473]? = some (.cells #[(.slice A0_0 l0_0.length c0_0), .int .i64 a0_1, .int .i64 a0_2, .int .i64 a0_3] 26 (0, 0))) ∧ Aside0 (Below w.heap.size w wc))
 case first =>
  have H := HC4.out
  clear HC4
  replace H := Option.bind_eq_some_iff.mp H
  obtain ⟨t474, A60, H⟩ := H
  replace H : (if t474 = true then ((R_Line.f l0_0 a0_1 a0_2 a0_3 a1).bind fun t475 => (if t475 = true then ((R_Value.f a2).bind fun t476 => (L_Fitting.j0 k a1 a2 (!t476) l0_0 a0_1 a0_2 a0_3)) else (L_Fitting.j0 k a1 a2 true l0_0 a0_1 a0_2 a0_3))) else (L_Fitting.j0 k a1 a2 true l0_0 a0_1 a0_2 a0_3)) = some r := H
  have A6 := Aside0.mk A60
  clear A60
  by_cases c7 : t474 = true
  ·subst c7
   have H1 : ((R_Line.f l0_0 a0_1 a0_2 a0_3 a1).bind fun t475 => (if t475 = true then ((R_Value.f a2).bind fun t476 => (L_Fitting.j0 k a1 a2 (!t476) l0_0 a0_1 a0_2 a0_3)) else (L_Fitting.j0 k a1 a2 true l0_0 a0_1 a0_2 a0_3))) = some r := by rw [if_pos rfl] at H; exact H
   clear H
   have H := H1
   clear H1
   replace H := Option.bind_eq_some_iff.mp H
   obtain ⟨t475, A80, H⟩ := H
   replace H : (if t475 = true then ((R_Value.f a2).bind fun t476 => (L_Fitting.j0 k a1 a2 (!t476) l0_0 a0_1 a0_2 a0_3)) else (L_Fitting.j0 k a1 a2 true l0_0 a0_1 a0_2 a0_3)) = some r := H
   have A8 := Aside0.mk A80
   clear A80
   by_cases c9 : t475 = true
   ·subst c9
    have H1 : ((R_Value.f a2).bind fun t476 => (L_Fitting.j0 k a1 a2 (!t476) l0_0 a0_1 a0_2 a0_3)) = some r := by rw [if_pos rfl] at H; exact H
    clear H
    have H := H1
    clear H1
    replace H := Option.bind_eq_some_iff.mp H
    obtain ⟨t476, A100, H⟩ := H
    replace H : (L_Fitting.j0 k a1 a2 (!t476) l0_0 a0_1 a0_2 a0_3) = some r := H
    have A10 := Aside0.mk A100
    clear A100
    have H' := Aside0.mk H
    clear H
    have hcz11_0 : w5.cell? ⟨gb473, 0, none⟩ = some (.slice A0_0 l0_0.length c0_0) := (blk_cell BK473.out 0).trans rfl
    have hcz11_1 : w5.cell? ⟨gb473, 1, none⟩ = some (.int .i64 a0_1) := (blk_cell BK473.out 1).trans rfl
    have hcz11_2 : w5.cell? ⟨gb473, 2, none⟩ = some (.int .i64 a0_2) := (blk_cell BK473.out 2).trans rfl
    have hcz11_3 : w5.cell? ⟨gb473, 3, none⟩ = some (.int .i64 a0_3) := (blk_cell BK473.out 3).trans rfl
    have hfz11_0 := blk_frozen BK473.out 0
    have hfz11_1 := blk_frozen BK473.out 1
    have hfz11_2 := blk_frozen BK473.out 2
    have hfz11_3 := blk_frozen BK473.out 3
    go_wp2_with (first | ((with_reducible refine gate_callee (f := 15) rfl ?_); refine goesL_ (some 16) rfl rfl Tryz.func15 (by kernel_rfl) rfl #[.agg #[.slice A0_0 l0_0.length c0_0, .int .i64 a0_1, .int .i64 a0_2, .int .i64 a0_3]] rfl (by (try simp only [List.map_toArray, List.map_cons, List.map_nil]); first | done | rfl | (simp only [List.length_drop, List.length_take]; rfl)) ?_; (with_reducible refine (L_right.calls k _ _ l0_0 a0_1 a0_2 a0_3 true _ ?side1 ?side2 A6.out).mono ?_); (case side1 => repeat (first | exact (Kd.C_below HR0_0.out HB.out) | (with_reducible refine Kd.C_alloc ?_ _) | (with_reducible refine Kd.C_drewN ?_ _) | (with_reducible refine Kd.C_drew ?_))); (case side2 => exact HC0_0.out); rintro e w12 ⟨rfl, hb⟩; refine ⟨_, rfl, ?_⟩; have n0_ := Aside0.mk (blk_below (g := gb473) (o := .cells #[.slice A0_0 l0_0.length c0_0, .int .i64 a0_1, .int .i64 a0_2, .int .i64 a0_3] 26 (0, 0)) (bup BK473.out) hb); have n1_ := Aside0.mk (below_step (by repeat (first | (with_reducible first | exact HB.out | apply below_alloc | apply pw_below_drewN | apply below_drew1 | refine below_set ?_ GE473.out) | exact HB.out)) hb); clear BK473; clear HB; have BK473 := n0_; have HB := n1_; clear n0_ n1_; (try clear hb); (try clear hb2); (try clear hk); (try clear hi); have hcz13_0 : w12.cell? ⟨gb473, 0, none⟩ = some (.slice A0_0 l0_0.length c0_0) := (blk_cell BK473.out 0).trans rfl; have hcz13_1 : w12.cell? ⟨gb473, 1, none⟩ = some (.int .i64 a0_1) := (blk_cell BK473.out 1).trans rfl; have hcz13_2 : w12.cell? ⟨gb473, 2, none⟩ = some (.int .i64 a0_2) := (blk_cell BK473.out 2).trans rfl; have hcz13_3 : w12.cell? ⟨gb473, 3, none⟩ = some (.int .i64 a0_3) := (blk_cell BK473.out 3).trans rfl; have hfz13_0 := blk_frozen BK473.out 0; have hfz13_1 := blk_frozen BK473.out 1; have hfz13_2 := blk_frozen BK473.out 2; have hfz13_3 := blk_frozen BK473.out 3) | (go_at_call 45; (with_reducible refine (R_Line.calls _ _ l0_0 a0_1 a0_2 a0_3 a1 true _ ?side1 ?side2 A8.out).mono ?_); (case side1 => repeat (first | exact (Kd.C_below HR0_0.out HB.out) | (with_reducible refine Kd.C_alloc ?_ _) | (with_reducible refine Kd.C_drewN ?_ _) | (with_reducible refine Kd.C_drew ?_))); (case side2 => exact HC0_0.out); rintro e w14 ⟨rfl, hb⟩; have n0_ := Aside0.mk (blk_below (g := gb473) (o := .cells #[.slice A0_0 l0_0.length c0_0, .int .i64 a0_1, .int .i64 a0_2, .int .i64 a0_3] 26 (0, 0)) (bup BK473.out) hb); have n1_ := Aside0.mk (below_step (by repeat (first | (with_reducible first | exact HB.out | apply below_alloc | apply pw_below_drewN | apply below_drew1 | refine below_set ?_ GE473.out) | exact HB.out)) hb); clear BK473; clear HB; have BK473 := n0_; have HB := n1_; clear n0_ n1_; (try clear hb); (try clear hb2); (try clear hk); (try clear hi)) | (go_at_call 46; (with_reducible refine (R_Value.calls a2 t476 _ A10.out).mono ?_); rintro e w' ⟨rfl, ⟨nd, rfl⟩⟩))
    go_meet
    case rel => exact ⟨_, (!t476), (by first | rfl | (simp; done) | (simp [*]; done)), H', ⟨by first | omega | exact Nat.le_refl _⟩, ⟨bup BK473.out⟩, ⟨by repeat (first | (with_reducible first | exact HB.out | apply below_alloc | apply pw_below_drewN | apply below_drew1 | refine below_set ?_ GE473.out) | exact HB.out)⟩⟩
   ·replace c9 := Bool.eq_false_iff.mpr c9
    subst c9
    have H1 : (L_Fitting.j0 k a1 a2 true l0_0 a0_1 a0_2 a0_3) = some r := by rw [if_neg (show ¬ (false = true) by decide)] at H; exact H
    clear H
    have H := H1
    clear H1
    have H' := Aside0.mk H
    clear H
    have hcz15_0 : w5.cell? ⟨gb473, 0, none⟩ = some (.slice A0_0 l0_0.length c0_0) := (blk_cell BK473.out 0).trans rfl
    have hcz15_1 : w5.cell? ⟨gb473, 1, none⟩ = some (.int .i64 a0_1) := (blk_cell BK473.out 1).trans rfl
    have hcz15_2 : w5.cell? ⟨gb473, 2, none⟩ = some (.int .i64 a0_2) := (blk_cell BK473.out 2).trans rfl
    have hcz15_3 : w5.cell? ⟨gb473, 3, none⟩ = some (.int .i64 a0_3) := (blk_cell BK473.out 3).trans rfl
    have hfz15_0 := blk_frozen BK473.out 0
    have hfz15_1 := blk_frozen BK473.out 1
    have hfz15_2 := blk_frozen BK473.out 2
    have hfz15_3 := blk_frozen BK473.out 3
    go_wp2_with (first | ((with_reducible refine gate_callee (f := 15) rfl ?_); refine goesL_ (some 16) rfl rfl Tryz.func15 (by kernel_rfl) rfl #[.agg #[.slice A0_0 l0_0.length c0_0, .int .i64 a0_1, .int .i64 a0_2, .int .i64 a0_3]] rfl (by (try simp only [List.map_toArray, List.map_cons, List.map_nil]); first | done | rfl | (simp only [List.length_drop, List.length_take]; rfl)) ?_; (with_reducible refine (L_right.calls k _ _ l0_0 a0_1 a0_2 a0_3 true _ ?side1 ?side2 A6.out).mono ?_); (case side1 => repeat (first | exact (Kd.C_below HR0_0.out HB.out) | (with_reducible refine Kd.C_alloc ?_ _) | (with_reducible refine Kd.C_drewN ?_ _) | (with_reducible refine Kd.C_drew ?_))); (case side2 => exact HC0_0.out); rintro e w16 ⟨rfl, hb⟩; refine ⟨_, rfl, ?_⟩; have n0_ := Aside0.mk (blk_below (g := gb473) (o := .cells #[.slice A0_0 l0_0.length c0_0, .int .i64 a0_1, .int .i64 a0_2, .int .i64 a0_3] 26 (0, 0)) (bup BK473.out) hb); have n1_ := Aside0.mk (below_step (by repeat (first | (with_reducible first | exact HB.out | apply below_alloc | apply pw_below_drewN | apply below_drew1 | refine below_set ?_ GE473.out) | exact HB.out)) hb); clear BK473; clear HB; have BK473 := n0_; have HB := n1_; clear n0_ n1_; (try clear hb); (try clear hb2); (try clear hk); (try clear hi); have hcz17_0 : w16.cell? ⟨gb473, 0, none⟩ = some (.slice A0_0 l0_0.length c0_0) := (blk_cell BK473.out 0).trans rfl; have hcz17_1 : w16.cell? ⟨gb473, 1, none⟩ = some (.int .i64 a0_1) := (blk_cell BK473.out 1).trans rfl; have hcz17_2 : w16.cell? ⟨gb473, 2, none⟩ = some (.int .i64 a0_2) := (blk_cell BK473.out 2).trans rfl; have hcz17_3 : w16.cell? ⟨gb473, 3, none⟩ = some (.int .i64 a0_3) := (blk_cell BK473.out 3).trans rfl; have hfz17_0 := blk_frozen BK473.out 0; have hfz17_1 := blk_frozen BK473.out 1; have hfz17_2 := blk_frozen BK473.out 2; have hfz17_3 := blk_frozen BK473.out 3) | (go_at_call 45; (with_reducible refine (R_Line.calls _ _ l0_0 a0_1 a0_2 a0_3 a1 false _ ?side1 ?side2 A8.out).mono ?_); (case side1 => repeat (first | exact (Kd.C_below HR0_0.out HB.out) | (with_reducible refine Kd.C_alloc ?_ _) | (with_reducible refine Kd.C_drewN ?_ _) | (with_reducible refine Kd.C_drew ?_))); (case side2 => exact HC0_0.out); rintro e w18 ⟨rfl, hb⟩; have n0_ := Aside0.mk (blk_below (g := gb473) (o := .cells #[.slice A0_0 l0_0.length c0_0, .int .i64 a0_1, .int .i64 a0_2, .int .i64 a0_3] 26 (0, 0)) (bup BK473.out) hb); have n1_ := Aside0.mk (below_step (by repeat (first | (with_reducible first | exact HB.out | apply below_alloc | apply pw_below_drewN | apply below_drew1 | refine below_set ?_ GE473.out) | exact HB.out)) hb); clear BK473; clear HB; have BK473 := n0_; have HB := n1_; clear n0_ n1_; (try clear hb); (try clear hb2); (try clear hk); (try clear hi)))
    go_meet
    case rel => exact ⟨_, (true), (by first | rfl | (simp; done) | (simp [*]; done)), H', ⟨by first | omega | exact Nat.le_refl _⟩, ⟨bup BK473.out⟩, ⟨by repeat (first | (with_reducible first | exact HB.out | apply below_alloc | apply pw_below_drewN | apply below_drew1 | refine below_set ?_ GE473.out) | exact HB.out)⟩⟩
  ·replace c7 := Bool.eq_false_iff.mpr c7
   subst c7
   have H1 : (L_Fitting.j0 k a1 a2 true l0_0 a0_1 a0_2 a0_3) = some r := by rw [if_neg (show ¬ (false = true) by decide)] at H; exact H
   clear H
   have H := H1
   clear H1
   have H' := Aside0.mk H
   clear H
   have hcz19_0 : w5.cell? ⟨gb473, 0, none⟩ = some (.slice A0_0 l0_0.length c0_0) := (blk_cell BK473.out 0).trans rfl
   have hcz19_1 : w5.cell? ⟨gb473, 1, none⟩ = some (.int .i64 a0_1) := (blk_cell BK473.out 1).trans rfl
   have hcz19_2 : w5.cell? ⟨gb473, 2, none⟩ = some (.int .i64 a0_2) := (blk_cell BK473.out 2).trans rfl
   have hcz19_3 : w5.cell? ⟨gb473, 3, none⟩ = some (.int .i64 a0_3) := (blk_cell BK473.out 3).trans rfl
   have hfz19_0 := blk_frozen BK473.out 0
   have hfz19_1 := blk_frozen BK473.out 1
   have hfz19_2 := blk_frozen BK473.out 2
   have hfz19_3 := blk_frozen BK473.out 3
   go_wp2_with (first | ((with_reducible refine gate_callee (f := 15) rfl ?_); refine goesL_ (some 16) rfl rfl Tryz.func15 (by kernel_rfl) rfl #[.agg #[.slice A0_0 l0_0.length c0_0, .int .i64 a0_1, .int .i64 a0_2, .int .i64 a0_3]] rfl (by (try simp only [List.map_toArray, List.map_cons, List.map_nil]); first | done | rfl | (simp only [List.length_drop, List.length_take]; rfl)) ?_; (with_reducible refine (L_right.calls k _ _ l0_0 a0_1 a0_2 a0_3 false _ ?side1 ?side2 A6.out).mono ?_); (case side1 => repeat (first | exact (Kd.C_below HR0_0.out HB.out) | (with_reducible refine Kd.C_alloc ?_ _) | (with_reducible refine Kd.C_drewN ?_ _) | (with_reducible refine Kd.C_drew ?_))); (case side2 => exact HC0_0.out); rintro e w20 ⟨rfl, hb⟩; refine ⟨_, rfl, ?_⟩; have n0_ := Aside0.mk (blk_below (g := gb473) (o := .cells #[.slice A0_0 l0_0.length c0_0, .int .i64 a0_1, .int .i64 a0_2, .int .i64 a0_3] 26 (0, 0)) (bup BK473.out) hb); have n1_ := Aside0.mk (below_step (by repeat (first | (with_reducible first | exact HB.out | apply below_alloc | apply pw_below_drewN | apply below_drew1 | refine below_set ?_ GE473.out) | exact HB.out)) hb); clear BK473; clear HB; have BK473 := n0_; have HB := n1_; clear n0_ n1_; (try clear hb); (try clear hb2); (try clear hk); (try clear hi)))
   go_meet
   case rel => exact ⟨_, (true), (by first | rfl | (simp; done) | (simp [*]; done)), H', ⟨by first | omega | exact Nat.le_refl _⟩, ⟨bup BK473.out⟩, ⟨by repeat (first | (with_reducible first | exact HB.out | apply below_alloc | apply pw_below_drewN | apply below_drew1 | refine below_set ?_ GE473.out) | exact HB.out)⟩⟩
 case rest =>
  clear HC4
  obtain ⟨kq, x28_3, rfl, HA, HJ3, BK473, HB⟩ := hcut
  cases kq with
  | zero => exact absurd HA.out (by simp [L_Fitting.j0])
  | succ kj3 =>
   have H := HA.out
   clear HA
   simp only [L_Fitting.j0] at H
   by_cases c21 : x28_3 = true
   ·subst c21
    have H1 : ((L_known.f).bind fun t477 => (some t477)) = some r := by rw [if_pos rfl] at H; exact H
    clear H
    have H := H1
    clear H1
    replace H := Option.bind_eq_some_iff.mp H
    obtain ⟨t477, A220, H⟩ := H
    replace H : (some t477) = some r := H
    have A22 := Aside0.mk A220
    clear A220
    obtain rfl := Option.some.inj H
    go_wp2_with (first | ((with_reducible refine gate_callee (f := 17) rfl ?_); refine goesL_ (some 29) rfl rfl Tryz.func17 (by kernel_rfl) rfl #[] rfl (by (try simp only [List.map_toArray, List.map_cons, List.map_nil]); first | done | rfl | (simp only [List.length_drop, List.length_take]; rfl)) ?_; (with_reducible refine (L_known.calls  t477 _ A22.out ?sideT).mono ?_); (case sideT => exact HT.out.below (by repeat (first | (with_reducible first | exact HB.out | apply below_alloc | apply pw_below_drewN | apply below_drew1 | refine below_set ?_ GE473.out) | exact HB.out))); rintro e w23 ⟨rfl, hb⟩; refine ⟨_, rfl, ?_⟩; have n0_ := Aside0.mk (blk_below (g := gb473) (o := .cells #[.slice A0_0 l0_0.length c0_0, .int .i64 a0_1, .int .i64 a0_2, .int .i64 a0_3] 26 (0, 0)) (bup BK473.out) hb); have n1_ := Aside0.mk (below_step (by repeat (first | (with_reducible first | exact HB.out | apply below_alloc | apply pw_below_drewN | apply below_drew1 | refine below_set ?_ GE473.out) | exact HB.out)) hb); clear BK473; clear HB; have BK473 := n0_; have HB := n1_; clear n0_ n1_; (try clear hb); (try clear hb2); (try clear hk); (try clear hi)))
    go_ret
    exact ⟨by first | rfl | (simp [errW_none, errW_some] <;> rfl) | (simp [*, errW_none, errW_some] <;> rfl), by repeat (first | (with_reducible first | exact HB.out | apply below_alloc | apply pw_below_drewN | apply below_drew1 | refine below_set ?_ GE473.out) | exact HB.out)⟩
   ·replace c21 := Bool.eq_false_iff.mpr c21
    subst c21
    have H1 : ((column_Between.f kj3 l0_0 a0_1 a0_2 a0_3 a1).bind fun bt478 => ((column_Jumps.f l0_0 a0_1 a0_2 a0_3).bind fun bt482 => ((R_Changed.f l0_0 a0_1 a0_2 a0_3 a1 a2).bind fun bt486 => ((column_Jumps.f bt486.1 bt486.2.1 bt486.2.2.1 bt486.2.2.2).bind fun bt492 => (if bt478.2.2 = 0 then (if bt482.2 = 0 then (if bt492.2 = 0 then (if (bt482.1.length : Int) > (l0_0.length : Int) then (L_Fitting.j1 kj3 a1 a2 bt478.2.2 bt482.1 bt492.1 true l0_0 a0_1 a0_2 a0_3 bt478.1 bt478.2.1) else (L_Fitting.j1 kj3 a1 a2 bt478.2.2 bt482.1 bt492.1 (decide ((bt492.1.length : Int) > (l0_0.length : Int))) l0_0 a0_1 a0_2 a0_3 bt478.1 bt478.2.1)) else (L_Fitting.j1 kj3 a1 a2 bt478.2.2 bt482.1 bt492.1 true l0_0 a0_1 a0_2 a0_3 bt478.1 bt478.2.1)) else (L_Fitting.j1 kj3 a1 a2 bt478.2.2 bt482.1 bt492.1 true l0_0 a0_1 a0_2 a0_3 bt478.1 bt478.2.1)) else (if bt478.2.2 = 5 then (if bt482.2 = 0 then (if bt492.2 = 0 then (if (bt482.1.length : Int) > (l0_0.length : Int) then (L_Fitting.j1 kj3 a1 a2 bt478.2.2 bt482.1 bt492.1 true l0_0 a0_1 a0_2 a0_3 bt478.1 bt478.2.1) else (L_Fitting.j1 kj3 a1 a2 bt478.2.2 bt482.1 bt492.1 (decide ((bt492.1.length : Int) > (l0_0.length : Int))) l0_0 a0_1 a0_2 a0_3 bt478.1 bt478.2.1)) else (L_Fitting.j1 kj3 a1 a2 bt478.2.2 bt482.1 bt492.1 true l0_0 a0_1 a0_2 a0_3 bt478.1 bt478.2.1)) else (L_Fitting.j1 kj3 a1 a2 bt478.2.2 bt482.1 bt492.1 true l0_0 a0_1 a0_2 a0_3 bt478.1 bt478.2.1)) else (L_Fitting.j1 kj3 a1 a2 bt478.2.2 bt482.1 bt492.1 true l0_0 a0_1 a0_2 a0_3 bt478.1 bt478.2.1))))))) = some r := by rw [if_neg (show ¬ (false = true) by decide)] at H; exact H
    clear H
    have H := H1
    clear H1
    replace H := Option.bind_eq_some_iff.mp H
    obtain ⟨⟨t478, t479, t480⟩, A240, H⟩ := H
    replace H : ((column_Jumps.f l0_0 a0_1 a0_2 a0_3).bind fun bt482 => ((R_Changed.f l0_0 a0_1 a0_2 a0_3 a1 a2).bind fun bt486 => ((column_Jumps.f bt486.1 bt486.2.1 bt486.2.2.1 bt486.2.2.2).bind fun bt492 => (if t480 = 0 then (if bt482.2 = 0 then (if bt492.2 = 0 then (if (bt482.1.length : Int) > (l0_0.length : Int) then (L_Fitting.j1 kj3 a1 a2 t480 bt482.1 bt492.1 true l0_0 a0_1 a0_2 a0_3 t478 t479) else (L_Fitting.j1 kj3 a1 a2 t480 bt482.1 bt492.1 (decide ((bt492.1.length : Int) > (l0_0.length : Int))) l0_0 a0_1 a0_2 a0_3 t478 t479)) else (L_Fitting.j1 kj3 a1 a2 t480 bt482.1 bt492.1 true l0_0 a0_1 a0_2 a0_3 t478 t479)) else (L_Fitting.j1 kj3 a1 a2 t480 bt482.1 bt492.1 true l0_0 a0_1 a0_2 a0_3 t478 t479)) else (if t480 = 5 then (if bt482.2 = 0 then (if bt492.2 = 0 then (if (bt482.1.length : Int) > (l0_0.length : Int) then (L_Fitting.j1 kj3 a1 a2 t480 bt482.1 bt492.1 true l0_0 a0_1 a0_2 a0_3 t478 t479) else (L_Fitting.j1 kj3 a1 a2 t480 bt482.1 bt492.1 (decide ((bt492.1.length : Int) > (l0_0.length : Int))) l0_0 a0_1 a0_2 a0_3 t478 t479)) else (L_Fitting.j1 kj3 a1 a2 t480 bt482.1 bt492.1 true l0_0 a0_1 a0_2 a0_3 t478 t479)) else (L_Fitting.j1 kj3 a1 a2 t480 bt482.1 bt492.1 true l0_0 a0_1 a0_2 a0_3 t478 t479)) else (L_Fitting.j1 kj3 a1 a2 t480 bt482.1 bt492.1 true l0_0 a0_1 a0_2 a0_3 t478 t479)))))) = some r := H
    have A24 := Aside0.mk A240
    clear A240
    replace H := Option.bind_eq_some_iff.mp H
    obtain ⟨⟨t482, t485⟩, A250, H⟩ := H
    replace H : ((R_Changed.f l0_0 a0_1 a0_2 a0_3 a1 a2).bind fun bt486 => ((column_Jumps.f bt486.1 bt486.2.1 bt486.2.2.1 bt486.2.2.2).bind fun bt492 => (if t480 = 0 then (if t485 = 0 then (if bt492.2 = 0 then (if (t482.length : Int) > (l0_0.length : Int) then (L_Fitting.j1 kj3 a1 a2 t480 t482 bt492.1 true l0_0 a0_1 a0_2 a0_3 t478 t479) else (L_Fitting.j1 kj3 a1 a2 t480 t482 bt492.1 (decide ((bt492.1.length : Int) > (l0_0.length : Int))) l0_0 a0_1 a0_2 a0_3 t478 t479)) else (L_Fitting.j1 kj3 a1 a2 t480 t482 bt492.1 true l0_0 a0_1 a0_2 a0_3 t478 t479)) else (L_Fitting.j1 kj3 a1 a2 t480 t482 bt492.1 true l0_0 a0_1 a0_2 a0_3 t478 t479)) else (if t480 = 5 then (if t485 = 0 then (if bt492.2 = 0 then (if (t482.length : Int) > (l0_0.length : Int) then (L_Fitting.j1 kj3 a1 a2 t480 t482 bt492.1 true l0_0 a0_1 a0_2 a0_3 t478 t479) else (L_Fitting.j1 kj3 a1 a2 t480 t482 bt492.1 (decide ((bt492.1.length : Int) > (l0_0.length : Int))) l0_0 a0_1 a0_2 a0_3 t478 t479)) else (L_Fitting.j1 kj3 a1 a2 t480 t482 bt492.1 true l0_0 a0_1 a0_2 a0_3 t478 t479)) else (L_Fitting.j1 kj3 a1 a2 t480 t482 bt492.1 true l0_0 a0_1 a0_2 a0_3 t478 t479)) else (L_Fitting.j1 kj3 a1 a2 t480 t482 bt492.1 true l0_0 a0_1 a0_2 a0_3 t478 t479))))) = some r := H
    have A25 := Aside0.mk A250
    clear A250
    replace H := Option.bind_eq_some_iff.mp H
    obtain ⟨⟨t486, t489, t490, t491⟩, A260, H⟩ := H
    replace H : ((column_Jumps.f t486 t489 t490 t491).bind fun bt492 => (if t480 = 0 then (if t485 = 0 then (if bt492.2 = 0 then (if (t482.length : Int) > (l0_0.length : Int) then (L_Fitting.j1 kj3 a1 a2 t480 t482 bt492.1 true l0_0 a0_1 a0_2 a0_3 t478 t479) else (L_Fitting.j1 kj3 a1 a2 t480 t482 bt492.1 (decide ((bt492.1.length : Int) > (l0_0.length : Int))) l0_0 a0_1 a0_2 a0_3 t478 t479)) else (L_Fitting.j1 kj3 a1 a2 t480 t482 bt492.1 true l0_0 a0_1 a0_2 a0_3 t478 t479)) else (L_Fitting.j1 kj3 a1 a2 t480 t482 bt492.1 true l0_0 a0_1 a0_2 a0_3 t478 t479)) else (if t480 = 5 then (if t485 = 0 then (if bt492.2 = 0 then (if (t482.length : Int) > (l0_0.length : Int) then (L_Fitting.j1 kj3 a1 a2 t480 t482 bt492.1 true l0_0 a0_1 a0_2 a0_3 t478 t479) else (L_Fitting.j1 kj3 a1 a2 t480 t482 bt492.1 (decide ((bt492.1.length : Int) > (l0_0.length : Int))) l0_0 a0_1 a0_2 a0_3 t478 t479)) else (L_Fitting.j1 kj3 a1 a2 t480 t482 bt492.1 true l0_0 a0_1 a0_2 a0_3 t478 t479)) else (L_Fitting.j1 kj3 a1 a2 t480 t482 bt492.1 true l0_0 a0_1 a0_2 a0_3 t478 t479)) else (L_Fitting.j1 kj3 a1 a2 t480 t482 bt492.1 true l0_0 a0_1 a0_2 a0_3 t478 t479)))) = some r := H
    have A26 := Aside0.mk A260
    clear A260
    replace H := Option.bind_eq_some_iff.mp H
    obtain ⟨⟨t492, t495⟩, A270, H⟩ := H
    replace H : (if t480 = 0 then (if t485 = 0 then (if t495 = 0 then (if (t482.length : Int) > (l0_0.length : Int) then (L_Fitting.j1 kj3 a1 a2 t480 t482 t492 true l0_0 a0_1 a0_2 a0_3 t478 t479) else (L_Fitting.j1 kj3 a1 a2 t480 t482 t492 (decide ((t492.length : Int) > (l0_0.length : Int))) l0_0 a0_1 a0_2 a0_3 t478 t479)) else (L_Fitting.j1 kj3 a1 a2 t480 t482 t492 true l0_0 a0_1 a0_2 a0_3 t478 t479)) else (L_Fitting.j1 kj3 a1 a2 t480 t482 t492 true l0_0 a0_1 a0_2 a0_3 t478 t479)) else (if t480 = 5 then (if t485 = 0 then (if t495 = 0 then (if (t482.length : Int) > (l0_0.length : Int) then (L_Fitting.j1 kj3 a1 a2 t480 t482 t492 true l0_0 a0_1 a0_2 a0_3 t478 t479) else (L_Fitting.j1 kj3 a1 a2 t480 t482 t492 (decide ((t492.length : Int) > (l0_0.length : Int))) l0_0 a0_1 a0_2 a0_3 t478 t479)) else (L_Fitting.j1 kj3 a1 a2 t480 t482 t492 true l0_0 a0_1 a0_2 a0_3 t478 t479)) else (L_Fitting.j1 kj3 a1 a2 t480 t482 t492 true l0_0 a0_1 a0_2 a0_3 t478 t479)) else (L_Fitting.j1 kj3 a1 a2 t480 t482 t492 true l0_0 a0_1 a0_2 a0_3 t478 t479))) = some r := H
    have A27 := Aside0.mk A270
    clear A270
    have HC28 := Aside0.mk H
    clear H
    have hcz29_0 : wc.cell? ⟨gb473, 0, none⟩ = some (.slice A0_0 l0_0.length c0_0) := (blk_cell BK473.out 0).trans rfl
    have hcz29_1 : wc.cell? ⟨gb473, 1, none⟩ = some (.int .i64 a0_1) := (blk_cell BK473.out 1).trans rfl
    have hcz29_2 : wc.cell? ⟨gb473, 2, none⟩ = some (.int .i64 a0_2) := (blk_cell BK473.out 2).trans rfl
    have hcz29_3 : wc.cell? ⟨gb473, 3, none⟩ = some (.int .i64 a0_3) := (blk_cell BK473.out 3).trans rfl
    have hfz29_0 := blk_frozen BK473.out 0
    have hfz29_1 := blk_frozen BK473.out 1
    have hfz29_2 := blk_frozen BK473.out 2
    have hfz29_3 := blk_frozen BK473.out 3
    go_upto_region 6 with (first | ((with_reducible refine gate_callee (f := 47) rfl ?_); refine goesL_ (some 33) rfl rfl Tryz.func47 (by kernel_rfl) rfl #[.agg #[.slice A0_0 l0_0.length c0_0, .int .i64 a0_1, .int .i64 a0_2, .int .i64 a0_3], .int .i64 a1] rfl (by (try simp only [List.map_toArray, List.map_cons, List.map_nil]); first | done | rfl | (simp only [List.length_drop, List.length_take]; rfl)) ?_; (with_reducible refine (column_Between.calls kj3 _ _ l0_0 a0_1 a0_2 a0_3 a1 t478 t479 t480 _ ?side1 ?side2 A24.out).mono ?_); (case side1 => repeat (first | exact (Kd.C_below HR0_0.out HB.out) | (with_reducible refine Kd.C_alloc ?_ _) | (with_reducible refine Kd.C_drewN ?_ _) | (with_reducible refine Kd.C_drew ?_))); (case side2 => exact HC0_0.out); rintro e w30 ⟨rfl, hb⟩; refine ⟨_, rfl, ?_⟩; have n0_ := Aside0.mk (blk_below (g := gb473) (o := .cells #[.slice A0_0 l0_0.length c0_0, .int .i64 a0_1, .int .i64 a0_2, .int .i64 a0_3] 26 (0, 0)) (bup BK473.out) hb); have n1_ := Aside0.mk (below_step (by repeat (first | (with_reducible first | exact HB.out | apply below_alloc | apply pw_below_drewN | apply below_drew1 | refine below_set ?_ GE473.out) | exact HB.out)) hb); clear BK473; clear HB; have BK473 := n0_; have HB := n1_; clear n0_ n1_; (try clear hb); (try clear hb2); (try clear hk); (try clear hi)) | ((with_reducible refine gate_dst (N := 7) rfl ?_); (try (refine gate_guard (by rfl) ?_; dsimp only)); refine box_event ?hg (N := 7) ?hd (cs := #[.int .i64 0, .int .i64 0]) (t := 24) ?hr ?_; (case hd => rfl); (case hg => rfl); (case hr => first | (go_simp; done) | (go_simp; rfl)); intro gb481 hg w31 hbox hb; have n0_ := Aside0.mk (blk_below (g := gb473) (o := .cells #[.slice A0_0 l0_0.length c0_0, .int .i64 a0_1, .int .i64 a0_2, .int .i64 a0_3] 26 (0, 0)) (bup BK473.out) hb); have n1_ := Aside0.mk (below_step (by repeat (first | (with_reducible first | exact HB.out | apply below_alloc | apply pw_below_drewN | apply below_drew1 | refine below_set ?_ GE473.out) | exact HB.out)) hb); have n2_ := Aside0.mk (hbox); have n3_ := Aside0.mk ((by rw [hg]; exact (below_size (by repeat (first | (with_reducible first | exact HB.out | apply below_alloc | apply pw_below_drewN | apply below_drew1 | refine below_set ?_ GE473.out) | exact HB.out))) : w.heap.size ≤ gb481)); have n4_ := Aside0.mk ((by rw [hg]; exact (below_size (by repeat (first | (with_reducible first | exact HB.out | apply below_alloc | apply pw_below_drewN | apply below_drew1 | refine below_set ?_ GE473.out) | exact HB.out))) : w.heap.size ≤ gb481)); have n5_ := Aside0.mk ((by rw [hg]; exact Nat.ne_of_lt (blk_lt (g := gb473) (o := .cells #[.slice A0_0 l0_0.length c0_0, .int .i64 a0_1, .int .i64 a0_2, .int .i64 a0_3] 26 (0, 0)) (bup BK473.out)) : gb473 ≠ gb481)); have n6_ := Aside0.mk ((by rw [hg]; exact Nat.ne_of_gt (blk_lt (g := gb473) (o := .cells #[.slice A0_0 l0_0.length c0_0, .int .i64 a0_1, .int .i64 a0_2, .int .i64 a0_3] 26 (0, 0)) (bup BK473.out)) : gb481 ≠ gb473)); clear BK473; clear HB; have BK473 := n0_; have HB := n1_; have BK481 := n2_; have GW481 := n3_; have GE481 := n4_; have NB473_481 := n5_; have NB481_473 := n6_; clear n0_ n1_ n2_ n3_ n4_ n5_ n6_; clear hb hbox hg; have hnb32 := NB481_473.out; have hnc32 := NB473_481.out; have hcz33_0 : w31.cell? ⟨gb481, 0, none⟩ = some (.int .i64 0) := (blk_cell BK481.out 0).trans rfl; have hcz33_1 : w31.cell? ⟨gb481, 1, none⟩ = some (.int .i64 0) := (blk_cell BK481.out 1).trans rfl; have hfz33_0 := blk_frozen BK481.out 0; have hfz33_1 := blk_frozen BK481.out 1; have hcz34_0 : w31.cell? ⟨gb473, 0, none⟩ = some (.slice A0_0 l0_0.length c0_0) := (blk_cell BK473.out 0).trans rfl; have hcz34_1 : w31.cell? ⟨gb473, 1, none⟩ = some (.int .i64 a0_1) := (blk_cell BK473.out 1).trans rfl; have hcz34_2 : w31.cell? ⟨gb473, 2, none⟩ = some (.int .i64 a0_2) := (blk_cell BK473.out 2).trans rfl; have hcz34_3 : w31.cell? ⟨gb473, 3, none⟩ = some (.int .i64 a0_3) := (blk_cell BK473.out 3).trans rfl; have hfz34_0 := blk_frozen BK473.out 0; have hfz34_1 := blk_frozen BK473.out 1; have hfz34_2 := blk_frozen BK473.out 2; have hfz34_3 := blk_frozen BK473.out 3) | ((with_reducible refine gate_callee (f := 22) rfl ?_); refine goesL_ (some 38) rfl rfl Tryz.func22 (by kernel_rfl) rfl #[.agg #[.slice A0_0 l0_0.length c0_0, .int .i64 a0_1, .int .i64 a0_2, .int .i64 a0_3]] rfl (by (try simp only [List.map_toArray, List.map_cons, List.map_nil]); first | done | rfl | (simp only [List.length_drop, List.length_take]; rfl)) ?_; (with_reducible refine (column_Jumps.calls _ _ l0_0 a0_1 a0_2 a0_3 t482 t485 _ ?side1 ?side2 A25.out).mono ?_); (case side1 => exact Kd.C_below HR0_0.out (by repeat (first | (with_reducible first | exact HB.out | apply below_alloc | apply pw_below_drewN | apply below_drew1 | refine below_set ?_ GE473.out | refine below_set ?_ GE481.out) | exact HB.out))); (case side2 => exact HC0_0.out); rintro e w35 ⟨v483, rfl, ho0, hb⟩; refine ⟨_, rfl, ?_⟩; have n0_ := Aside0.mk (Kd.R_lower ho0 (below_size (by repeat (first | (with_reducible first | exact HB.out | apply below_alloc | apply pw_below_drewN | apply below_drew1 | refine below_set ?_ GE473.out | refine below_set ?_ GE481.out) | exact HB.out)))); have n1_ := Aside0.mk (blk_below (g := gb473) (o := .cells #[.slice A0_0 l0_0.length c0_0, .int .i64 a0_1, .int .i64 a0_2, .int .i64 a0_3] 26 (0, 0)) (by (with_reducible repeat (first | refine blk_drewN ?_ _ | refine blk_drew ?_ | refine blk_alloc ?_ _)); refine blk_far ?_ NB473_481.out _; (with_reducible repeat (first | refine blk_drewN ?_ _ | refine blk_drew ?_ | refine blk_alloc ?_ _)); refine blk_far ?_ NB473_481.out _; (with_reducible repeat (first | refine blk_drewN ?_ _ | refine blk_drew ?_ | refine blk_alloc ?_ _)); exact BK473.out) hb); have n2_ := Aside0.mk (blk_below (g := gb481) (o := .cells #[.int .i64 t478, .int .i64 t479] 24 (0, 0)) (by (with_reducible repeat (first | refine blk_drewN ?_ _ | refine blk_drew ?_ | refine blk_alloc ?_ _)); refine blk_put (cs := #[.int .i64 t478, .int .i64 0]) ?_ 1 _ rfl; (with_reducible repeat (first | refine blk_drewN ?_ _ | refine blk_drew ?_ | refine blk_alloc ?_ _)); refine blk_put (cs := #[.int .i64 0, .int .i64 0]) ?_ 0 _ rfl; (with_reducible repeat (first | refine blk_drewN ?_ _ | refine blk_drew ?_ | refine blk_alloc ?_ _)); exact BK481.out) hb); have n3_ := Aside0.mk (below_step (by repeat (first | (with_reducible first | exact HB.out | apply below_alloc | apply pw_below_drewN | apply below_drew1 | refine below_set ?_ GE473.out | refine below_set ?_ GE481.out) | exact HB.out)) hb); clear BK473; clear BK481; clear HB; have HO484 := n0_; have BK473 := n1_; have BK481 := n2_; have HB := n3_; clear n0_ n1_ n2_ n3_; (try clear hb); (try clear hb2); (try clear hk); (try clear hi); (try clear ho0); have hcz36_0 : w35.cell? ⟨gb473, 0, none⟩ = some (.slice A0_0 l0_0.length c0_0) := (blk_cell BK473.out 0).trans rfl; have hcz36_1 : w35.cell? ⟨gb473, 1, none⟩ = some (.int .i64 a0_1) := (blk_cell BK473.out 1).trans rfl; have hcz36_2 : w35.cell? ⟨gb473, 2, none⟩ = some (.int .i64 a0_2) := (blk_cell BK473.out 2).trans rfl; have hcz36_3 : w35.cell? ⟨gb473, 3, none⟩ = some (.int .i64 a0_3) := (blk_cell BK473.out 3).trans rfl; have hfz36_0 := blk_frozen BK473.out 0; have hfz36_1 := blk_frozen BK473.out 1; have hfz36_2 := blk_frozen BK473.out 2; have hfz36_3 := blk_frozen BK473.out 3) | ((with_reducible refine gate_callee (f := 41) rfl ?_); refine goesL_ (some 45) rfl rfl Tryz.func41 (by kernel_rfl) rfl #[.agg #[.slice A0_0 l0_0.length c0_0, .int .i64 a0_1, .int .i64 a0_2, .int .i64 a0_3], .int .i64 a1, .int .i64 a2] rfl (by (try simp only [List.map_toArray, List.map_cons, List.map_nil]); first | done | rfl | (simp only [List.length_drop, List.length_take]; rfl)) ?_; (with_reducible refine (R_Changed.calls _ _ l0_0 a0_1 a0_2 a0_3 a1 a2 t486 t489 t490 t491 _ ?side1 ?side2 A26.out).mono ?_); (case side1 => repeat (first | exact (Kd.C_below HR0_0.out HB.out) | (with_reducible refine Kd.C_alloc ?_ _) | (with_reducible refine Kd.C_drewN ?_ _) | (with_reducible refine Kd.C_drew ?_))); (case side2 => exact HC0_0.out); rintro e w37 ⟨v487, rfl, ho0, hb⟩; refine ⟨_, rfl, ?_⟩; have n0_ := Aside0.mk (Kd.R_elder' (rup HO484.out) (Kd.R_base ho0) hb); have n1_ := Aside0.mk (Kd.R_lower (Kd.R_new' ho0 (Kd.R_lt (rup HO484.out))) (below_size (by repeat (first | (with_reducible first | exact HB.out | apply below_alloc | apply pw_below_drewN | apply below_drew1 | refine below_set ?_ GE473.out | refine below_set ?_ GE481.out) | exact HB.out)))); have n2_ := Aside0.mk (blk_below (g := gb473) (o := .cells #[.slice A0_0 l0_0.length c0_0, .int .i64 a0_1, .int .i64 a0_2, .int .i64 a0_3] 26 (0, 0)) (bup BK473.out) hb); have n3_ := Aside0.mk (blk_below (g := gb481) (o := .cells #[.int .i64 t478, .int .i64 t479] 24 (0, 0)) (bup BK481.out) hb); have n4_ := Aside0.mk (below_step (by repeat (first | (with_reducible first | exact HB.out | apply below_alloc | apply pw_below_drewN | apply below_drew1 | refine below_set ?_ GE473.out | refine below_set ?_ GE481.out) | exact HB.out)) hb); clear HO484; clear BK473; clear BK481; clear HB; have HO484 := n0_; have HO488 := n1_; have BK473 := n2_; have BK481 := n3_; have HB := n4_; clear n0_ n1_ n2_ n3_ n4_; (try clear hb); (try clear hb2); (try clear hk); (try clear hi); (try clear ho0); obtain ⟨Ao38, co38, eo38⟩ := Kd.R_slice HO488.out; subst eo38) | ((with_reducible refine gate_callee (f := 22) rfl ?_); refine goesL_ (some 46) rfl rfl Tryz.func22 (by kernel_rfl) rfl #[.agg #[.slice Ao38 t486.length co38, .int .i64 t489, .int .i64 t490, .int .i64 t491]] rfl (by (try simp only [List.map_toArray, List.map_cons, List.map_nil]); first | done | rfl | (simp only [List.length_drop, List.length_take]; rfl)) ?_; (with_reducible refine (column_Jumps.calls _ _ t486 t489 t490 t491 t492 t495 _ ?side1 ?side2 A27.out).mono ?_); (case side1 => repeat (first | exact (Kd.R_reads' HO488.out).2.2 | (with_reducible refine Kd.C_alloc ?_ _) | (with_reducible refine Kd.C_drewN ?_ _) | (with_reducible refine Kd.C_drew ?_))); (case side2 => exact (Kd.R_reads' HO488.out).2.1); rintro e w39 ⟨v493, rfl, ho0, hb⟩; refine ⟨_, rfl, ?_⟩; have n0_ := Aside0.mk (Kd.R_elder' (rup HO484.out) (Kd.R_base ho0) hb); have n1_ := Aside0.mk (Kd.R_elder' (rup HO488.out) (Kd.R_base ho0) hb); have n2_ := Aside0.mk (Kd.R_lower (Kd.R_new' (Kd.R_new' ho0 (Kd.R_lt (rup HO484.out))) (Kd.R_lt (rup HO488.out))) (below_size (by repeat (first | (with_reducible first | exact HB.out | apply below_alloc | apply pw_below_drewN | apply below_drew1 | refine below_set ?_ GE473.out | refine below_set ?_ GE481.out) | exact HB.out)))); have n3_ := Aside0.mk (blk_below (g := gb473) (o := .cells #[.slice A0_0 l0_0.length c0_0, .int .i64 a0_1, .int .i64 a0_2, .int .i64 a0_3] 26 (0, 0)) (bup BK473.out) hb); have n4_ := Aside0.mk (blk_below (g := gb481) (o := .cells #[.int .i64 t478, .int .i64 t479] 24 (0, 0)) (bup BK481.out) hb); have n5_ := Aside0.mk (below_step (by repeat (first | (with_reducible first | exact HB.out | apply below_alloc | apply pw_below_drewN | apply below_drew1 | refine below_set ?_ GE473.out | refine below_set ?_ GE481.out) | exact HB.out)) hb); clear HO484; clear HO488; clear BK473; clear BK481; clear HB; have HO484 := n0_; have HO488 := n1_; have HO494 := n2_; have BK473 := n3_; have BK481 := n4_; have HB := n5_; clear n0_ n1_ n2_ n3_ n4_ n5_; (try clear hb); (try clear hb2); (try clear hk); (try clear hi); (try clear ho0)))
    (try simp only [Act.put, List.setIfInBounds_toArray, List.set_cons_zero, List.set_cons_succ])
    go_cut [78] (fun v78 wc => ∃ (kq : Nat) (x78_27 : Bool), v78 = .bool x78_27 ∧ Aside0 (L_Fitting.j1 kq a1 a2 t480 t482 t492 x78_27 l0_0 a0_1 a0_2 a0_3 t478 t479 = some r) ∧ Aside0 (kq ≤ kj3) ∧ Aside0 (Kd.R (Kd.int .i64) 3 wc w.heap.size (fun k_ => some k_ ≠ (v493 : Value).ownBlock) v483 t482) ∧ Aside0 (Kd.R (Kd.int .i64) 3 wc w.heap.size (fun k_ => some k_ ≠ (v483 : Value).ownBlock) v493 t492) ∧ Aside0 (wc.heap[gb473]? = some (.cells #[(.slice A0_0 l0_0.length c0_0), .int .i64 a0_1, .int .i64 a0_2, .int .i64 a0_3] 26 (0, 0))) ∧ Aside0 (wc.heap[gb481]? = some (.cells #[.int .i64 t478, .int .i64 t479] 24 (0, 0))) ∧ Aside0 (Below w.heap.size w wc))
    case first =>
     have H := HC28.out
     clear HC28
     by_cases c40 : t480 = 0
     ·rw [if_pos c40] at H
      have c40b0 : (t480 == 0) = true := beq_iff_eq.mpr c40
      have c40b1 : (t480 != 0) = false := bne_eq_false_iff_eq.mpr c40
      clear c40
      (first | rw [c40b0] | (simp only [i64_w, i32_w]; rw [c40b0]) | skip)
      by_cases c41 : t485 = 0
      ·rw [if_pos c41] at H
       have c41b0 : (t485 == 0) = true := beq_iff_eq.mpr c41
       have c41b1 : (t485 != 0) = false := bne_eq_false_iff_eq.mpr c41
       clear c41
       by_cases c42 : t495 = 0
       ·rw [if_pos c42] at H
        have c42b0 : (t495 == 0) = true := beq_iff_eq.mpr c42
        have c42b1 : (t495 != 0) = false := bne_eq_false_iff_eq.mpr c42
        clear c42
        by_cases c43 : (t482.length : Int) > (l0_0.length : Int)
        ·rw [if_pos c43] at H
         have c43b0 : decide ((l0_0.length : Int) < (t482.length : Int)) = true := decide_eq_true c43
         have c43b1 : decide (l0_0.length < t482.length) = true := decide_eq_true (Int.ofNat_lt.mp c43)
         clear c43
         have H' := Aside0.mk H
         clear H
         obtain ⟨Ao44, co44, eo44⟩ := Kd.R_slice HO484.out
         subst eo44
         have hnb45 := NB473_481.out
         have hnc45 := NB481_473.out
         have hcz46_0 : w39.cell? ⟨gb473, 0, none⟩ = some (.slice A0_0 l0_0.length c0_0) := (blk_cell BK473.out 0).trans rfl
         have hcz46_1 : w39.cell? ⟨gb473, 1, none⟩ = some (.int .i64 a0_1) := (blk_cell BK473.out 1).trans rfl
         have hcz46_2 : w39.cell? ⟨gb473, 2, none⟩ = some (.int .i64 a0_2) := (blk_cell BK473.out 2).trans rfl
         have hcz46_3 : w39.cell? ⟨gb473, 3, none⟩ = some (.int .i64 a0_3) := (blk_cell BK473.out 3).trans rfl
         have hfz46_0 := blk_frozen BK473.out 0
         have hfz46_1 := blk_frozen BK473.out 1
         have hfz46_2 := blk_frozen BK473.out 2
         have hfz46_3 := blk_frozen BK473.out 3
         go_wp2
         go_meet
         case rel => exact ⟨_, (true), (by first | rfl | (simp; done) | (simp [*]; done)), H', ⟨by have := HJ3.out; first | omega | exact Nat.le_refl _⟩, ⟨rup (Kd.R_mono HO484.out (fun _ hk => hk.2))⟩, ⟨rup (Kd.R_mono HO494.out (fun _ hk => hk.1.2))⟩, ⟨bup BK473.out⟩, ⟨bup BK481.out⟩, ⟨by repeat (first | (with_reducible first | exact HB.out | apply below_alloc | apply pw_below_drewN | apply below_drew1 | refine below_set ?_ GE473.out | refine below_set ?_ GE481.out) | exact HB.out)⟩⟩
        ·rw [if_neg c43] at H
         have c43b0 : decide ((l0_0.length : Int) < (t482.length : Int)) = false := decide_eq_false c43
         have c43b1 : decide (l0_0.length < t482.length) = false := decide_eq_false (fun h => c43 (Int.ofNat_lt.mpr h))
         clear c43
         have H' := Aside0.mk H
         clear H
         obtain ⟨Ao47, co47, eo47⟩ := Kd.R_slice HO484.out
         subst eo47
         have hnb48 := NB473_481.out
         have hnc48 := NB481_473.out
         have hcz49_0 : w39.cell? ⟨gb473, 0, none⟩ = some (.slice A0_0 l0_0.length c0_0) := (blk_cell BK473.out 0).trans rfl
         have hcz49_1 : w39.cell? ⟨gb473, 1, none⟩ = some (.int .i64 a0_1) := (blk_cell BK473.out 1).trans rfl
         have hcz49_2 : w39.cell? ⟨gb473, 2, none⟩ = some (.int .i64 a0_2) := (blk_cell BK473.out 2).trans rfl
         have hcz49_3 : w39.cell? ⟨gb473, 3, none⟩ = some (.int .i64 a0_3) := (blk_cell BK473.out 3).trans rfl
         have hfz49_0 := blk_frozen BK473.out 0
         have hfz49_1 := blk_frozen BK473.out 1
         have hfz49_2 := blk_frozen BK473.out 2
         have hfz49_3 := blk_frozen BK473.out 3
         obtain ⟨Ao50, co50, eo50⟩ := Kd.R_slice HO494.out
         subst eo50
         go_wp2
         go_meet
         case rel => exact ⟨_, (decide ((t492.length : Int) > (l0_0.length : Int))), (by first | rfl | (simp; done) | (simp [*]; done)), H', ⟨by have := HJ3.out; first | omega | exact Nat.le_refl _⟩, ⟨rup (Kd.R_mono HO484.out (fun _ hk => hk.2))⟩, ⟨rup (Kd.R_mono HO494.out (fun _ hk => hk.1.2))⟩, ⟨bup BK473.out⟩, ⟨bup BK481.out⟩, ⟨by repeat (first | (with_reducible first | exact HB.out | apply below_alloc | apply pw_below_drewN | apply below_drew1 | refine below_set ?_ GE473.out | refine below_set ?_ GE481.out) | exact HB.out)⟩⟩
       ·rw [if_neg c42] at H
        have c42b0 : (t495 == 0) = false := beq_eq_false_iff_ne.mpr c42
        have c42b1 : (t495 != 0) = true := bne_iff_ne.mpr c42
        have H' := Aside0.mk H
        clear H
        go_wp2
        go_meet
        case rel => exact ⟨_, (true), (by first | rfl | (simp; done) | (simp [*]; done)), H', ⟨by have := HJ3.out; first | omega | exact Nat.le_refl _⟩, ⟨rup (Kd.R_mono HO484.out (fun _ hk => hk.2))⟩, ⟨rup (Kd.R_mono HO494.out (fun _ hk => hk.1.2))⟩, ⟨bup BK473.out⟩, ⟨bup BK481.out⟩, ⟨by repeat (first | (with_reducible first | exact HB.out | apply below_alloc | apply pw_below_drewN | apply below_drew1 | refine below_set ?_ GE473.out | refine below_set ?_ GE481.out) | exact HB.out)⟩⟩
      ·rw [if_neg c41] at H
       have c41b0 : (t485 == 0) = false := beq_eq_false_iff_ne.mpr c41
       have c41b1 : (t485 != 0) = true := bne_iff_ne.mpr c41
       have H' := Aside0.mk H
       clear H
       go_wp2
       go_meet
       case rel => exact ⟨_, (true), (by first | rfl | (simp; done) | (simp [*]; done)), H', ⟨by have := HJ3.out; first | omega | exact Nat.le_refl _⟩, ⟨rup (Kd.R_mono HO484.out (fun _ hk => hk.2))⟩, ⟨rup (Kd.R_mono HO494.out (fun _ hk => hk.1.2))⟩, ⟨bup BK473.out⟩, ⟨bup BK481.out⟩, ⟨by repeat (first | (with_reducible first | exact HB.out | apply below_alloc | apply pw_below_drewN | apply below_drew1 | refine below_set ?_ GE473.out | refine below_set ?_ GE481.out) | exact HB.out)⟩⟩
     ·rw [if_neg c40] at H
      have c40b0 : (t480 == 0) = false := beq_eq_false_iff_ne.mpr c40
      have c40b1 : (t480 != 0) = true := bne_iff_ne.mpr c40
      (first | rw [c40b0] | (simp only [i64_w, i32_w]; rw [c40b0]) | skip)
      by_cases c51 : t480 = 5
      ·rw [if_pos c51] at H
       have c51b0 : (t480 == 5) = true := beq_iff_eq.mpr c51
       have c51b1 : (t480 != 5) = false := bne_eq_false_iff_eq.mpr c51
       clear c51
       by_cases c52 : t485 = 0
       ·rw [if_pos c52] at H
        have c52b0 : (t485 == 0) = true := beq_iff_eq.mpr c52
        have c52b1 : (t485 != 0) = false := bne_eq_false_iff_eq.mpr c52
        clear c52
        by_cases c53 : t495 = 0
        ·rw [if_pos c53] at H
         have c53b0 : (t495 == 0) = true := beq_iff_eq.mpr c53
         have c53b1 : (t495 != 0) = false := bne_eq_false_iff_eq.mpr c53
         clear c53
         by_cases c54 : (t482.length : Int) > (l0_0.length : Int)
         ·rw [if_pos c54] at H
          have c54b0 : decide ((l0_0.length : Int) < (t482.length : Int)) = true := decide_eq_true c54
          have c54b1 : decide (l0_0.length < t482.length) = true := decide_eq_true (Int.ofNat_lt.mp c54)
          clear c54
          have H' := Aside0.mk H
          clear H
          obtain ⟨Ao55, co55, eo55⟩ := Kd.R_slice HO484.out
          subst eo55
          have hnb56 := NB473_481.out
          have hnc56 := NB481_473.out
          have hcz57_0 : w39.cell? ⟨gb473, 0, none⟩ = some (.slice A0_0 l0_0.length c0_0) := (blk_cell BK473.out 0).trans rfl
          have hcz57_1 : w39.cell? ⟨gb473, 1, none⟩ = some (.int .i64 a0_1) := (blk_cell BK473.out 1).trans rfl
          have hcz57_2 : w39.cell? ⟨gb473, 2, none⟩ = some (.int .i64 a0_2) := (blk_cell BK473.out 2).trans rfl
          have hcz57_3 : w39.cell? ⟨gb473, 3, none⟩ = some (.int .i64 a0_3) := (blk_cell BK473.out 3).trans rfl
          have hfz57_0 := blk_frozen BK473.out 0
          have hfz57_1 := blk_frozen BK473.out 1
          have hfz57_2 := blk_frozen BK473.out 2
          have hfz57_3 := blk_frozen BK473.out 3
          go_wp2
          go_meet
          case rel => exact ⟨_, (true), (by first | rfl | (simp; done) | (simp [*]; done)), H', ⟨by have := HJ3.out; first | omega | exact Nat.le_refl _⟩, ⟨rup (Kd.R_mono HO484.out (fun _ hk => hk.2))⟩, ⟨rup (Kd.R_mono HO494.out (fun _ hk => hk.1.2))⟩, ⟨bup BK473.out⟩, ⟨bup BK481.out⟩, ⟨by repeat (first | (with_reducible first | exact HB.out | apply below_alloc | apply pw_below_drewN | apply below_drew1 | refine below_set ?_ GE473.out | refine below_set ?_ GE481.out) | exact HB.out)⟩⟩
         ·rw [if_neg c54] at H
          have c54b0 : decide ((l0_0.length : Int) < (t482.length : Int)) = false := decide_eq_false c54
          have c54b1 : decide (l0_0.length < t482.length) = false := decide_eq_false (fun h => c54 (Int.ofNat_lt.mpr h))
          clear c54
          have H' := Aside0.mk H
          clear H
          obtain ⟨Ao58, co58, eo58⟩ := Kd.R_slice HO484.out
          subst eo58
          have hnb59 := NB473_481.out
          have hnc59 := NB481_473.out
          have hcz60_0 : w39.cell? ⟨gb473, 0, none⟩ = some (.slice A0_0 l0_0.length c0_0) := (blk_cell BK473.out 0).trans rfl
          have hcz60_1 : w39.cell? ⟨gb473, 1, none⟩ = some (.int .i64 a0_1) := (blk_cell BK473.out 1).trans rfl
          have hcz60_2 : w39.cell? ⟨gb473, 2, none⟩ = some (.int .i64 a0_2) := (blk_cell BK473.out 2).trans rfl
          have hcz60_3 : w39.cell? ⟨gb473, 3, none⟩ = some (.int .i64 a0_3) := (blk_cell BK473.out 3).trans rfl
          have hfz60_0 := blk_frozen BK473.out 0
          have hfz60_1 := blk_frozen BK473.out 1
          have hfz60_2 := blk_frozen BK473.out 2
          have hfz60_3 := blk_frozen BK473.out 3
          obtain ⟨Ao61, co61, eo61⟩ := Kd.R_slice HO494.out
          subst eo61
          go_wp2
          go_meet
          case rel => exact ⟨_, (decide ((t492.length : Int) > (l0_0.length : Int))), (by first | rfl | (simp; done) | (simp [*]; done)), H', ⟨by have := HJ3.out; first | omega | exact Nat.le_refl _⟩, ⟨rup (Kd.R_mono HO484.out (fun _ hk => hk.2))⟩, ⟨rup (Kd.R_mono HO494.out (fun _ hk => hk.1.2))⟩, ⟨bup BK473.out⟩, ⟨bup BK481.out⟩, ⟨by repeat (first | (with_reducible first | exact HB.out | apply below_alloc | apply pw_below_drewN | apply below_drew1 | refine below_set ?_ GE473.out | refine below_set ?_ GE481.out) | exact HB.out)⟩⟩
        ·rw [if_neg c53] at H
         have c53b0 : (t495 == 0) = false := beq_eq_false_iff_ne.mpr c53
         have c53b1 : (t495 != 0) = true := bne_iff_ne.mpr c53
         have H' := Aside0.mk H
         clear H
         go_wp2
         go_meet
         case rel => exact ⟨_, (true), (by first | rfl | (simp; done) | (simp [*]; done)), H', ⟨by have := HJ3.out; first | omega | exact Nat.le_refl _⟩, ⟨rup (Kd.R_mono HO484.out (fun _ hk => hk.2))⟩, ⟨rup (Kd.R_mono HO494.out (fun _ hk => hk.1.2))⟩, ⟨bup BK473.out⟩, ⟨bup BK481.out⟩, ⟨by repeat (first | (with_reducible first | exact HB.out | apply below_alloc | apply pw_below_drewN | apply below_drew1 | refine below_set ?_ GE473.out | refine below_set ?_ GE481.out) | exact HB.out)⟩⟩
       ·rw [if_neg c52] at H
        have c52b0 : (t485 == 0) = false := beq_eq_false_iff_ne.mpr c52
        have c52b1 : (t485 != 0) = true := bne_iff_ne.mpr c52
        have H' := Aside0.mk H
        clear H
        go_wp2
        go_meet
        case rel => exact ⟨_, (true), (by first | rfl | (simp; done) | (simp [*]; done)), H', ⟨by have := HJ3.out; first | omega | exact Nat.le_refl _⟩, ⟨rup (Kd.R_mono HO484.out (fun _ hk => hk.2))⟩, ⟨rup (Kd.R_mono HO494.out (fun _ hk => hk.1.2))⟩, ⟨bup BK473.out⟩, ⟨bup BK481.out⟩, ⟨by repeat (first | (with_reducible first | exact HB.out | apply below_alloc | apply pw_below_drewN | apply below_drew1 | refine below_set ?_ GE473.out | refine below_set ?_ GE481.out) | exact HB.out)⟩⟩
      ·rw [if_neg c51] at H
       have c51b0 : (t480 == 5) = false := beq_eq_false_iff_ne.mpr c51
       have c51b1 : (t480 != 5) = true := bne_iff_ne.mpr c51
       have H' := Aside0.mk H
       clear H
       go_wp2
       go_meet
       case rel => exact ⟨_, (true), (by first | rfl | (simp; done) | (simp [*]; done)), H', ⟨by have := HJ3.out; first | omega | exact Nat.le_refl _⟩, ⟨rup (Kd.R_mono HO484.out (fun _ hk => hk.2))⟩, ⟨rup (Kd.R_mono HO494.out (fun _ hk => hk.1.2))⟩, ⟨bup BK473.out⟩, ⟨bup BK481.out⟩, ⟨by repeat (first | (with_reducible first | exact HB.out | apply below_alloc | apply pw_below_drewN | apply below_drew1 | refine below_set ?_ GE473.out | refine below_set ?_ GE481.out) | exact HB.out)⟩⟩
    case rest =>
     clear HC28
     obtain ⟨kq, x78_27, rfl, HA, HJ27, HO_9, HO_11, BK473, BK481, HB⟩ := hcut
     cases kq with
     | zero => exact absurd HA.out (by simp [L_Fitting.j1])
     | succ kj27 =>
      have H := HA.out
      clear HA
      simp only [L_Fitting.j1] at H
      by_cases c62 : x78_27 = true
      ·subst c62
       have H1 : (some false) = some r := by rw [if_pos rfl] at H; exact H
       clear H
       have H := H1
       clear H1
       obtain rfl := Option.some.inj H
       go_wp2
       go_ret
       exact ⟨by first | rfl | (simp [errW_none, errW_some] <;> rfl) | (simp [*, errW_none, errW_some] <;> rfl), by repeat (first | (with_reducible first | exact HB.out | apply below_alloc | apply pw_below_drewN | apply below_drew1 | refine below_set ?_ GE473.out | refine below_set ?_ GE481.out) | exact HB.out)⟩
      ·replace c62 := Bool.eq_false_iff.mpr c62
       subst c62
       have H1 : (L_Fitting.l0 kj27 a1 a2 t480 t482 t492 true 0 l0_0 a0_1 a0_2 a0_3 t478 t479) = some r := by rw [if_neg (show ¬ (false = true) by decide)] at H; exact H
       clear H
       have H := H1
       clear H1
       have H' := Aside0.mk H
       clear H
       go_wp2
       go_loopg [13, 14] kj27 (fun kq v13 v14 w' => ∃ (x13_3 : Bool) (x14_3 : Int), v13 = .bool x13_3 ∧ v14 = .int .i64 x14_3 ∧ Aside0 (L_Fitting.l0 kq a1 a2 t480 t482 t492 x13_3 x14_3 l0_0 a0_1 a0_2 a0_3 t478 t479 = some r) ∧ Aside0 (kq ≤ kj27) ∧ Aside0 (Kd.R (Kd.int .i64) 3 w' w.heap.size (fun k_ => some k_ ≠ (v493 : Value).ownBlock) v483 t482) ∧ Aside0 (Kd.R (Kd.int .i64) 3 w' w.heap.size (fun k_ => some k_ ≠ (v483 : Value).ownBlock) v493 t492) ∧ Aside0 (w'.heap[gb473]? = some (.cells #[(.slice A0_0 l0_0.length c0_0), .int .i64 a0_1, .int .i64 a0_2, .int .i64 a0_3] 26 (0, 0))) ∧ Aside0 (w'.heap[gb481]? = some (.cells #[.int .i64 t478, .int .i64 t479] 24 (0, 0))) ∧ Aside0 (Below w.heap.size w w'))
       case atStart => exact ⟨(true), (0), (by first | rfl | (simp; done) | (simp [*]; done)), (by first | rfl | (simp; done) | (simp [*]; done)), H', ⟨Nat.le_refl _⟩, ⟨rup HO_9.out⟩, ⟨rup HO_11.out⟩, ⟨bup BK473.out⟩, ⟨bup BK481.out⟩, ⟨by repeat (first | (with_reducible first | exact HB.out | apply below_alloc | apply pw_below_drewN | apply below_drew1 | refine below_set ?_ GE473.out | refine below_set ?_ GE481.out) | exact HB.out)⟩⟩
       case round =>
        clear H'
        obtain ⟨x13_3, x14_3, rfl, rfl, HA, HK3, HO_9, HO_11, BK473, BK481, HB⟩ := hrel
        cases gk with
        | zero => exact absurd HA.out (by simp [L_Fitting.l0])
        | succ k3 =>
         have H := HA.out
         clear HA
         simp only [L_Fitting.l0] at H
         by_cases c63 : (wrap64 (x14_3 + a0_1)) < (l0_0.length : Int)
         ·rw [if_pos c63] at H
          have c63b0 : decide ((wrap64 (x14_3 + a0_1)) < (l0_0.length : Int)) = true := decide_eq_true c63
          clear c63
          have HC64 := Aside0.mk H
          clear H
          have hnb65 := NB473_481.out
          have hnc65 := NB481_473.out
          have hcz66_0 : wr.cell? ⟨gb473, 0, none⟩ = some (.slice A0_0 l0_0.length c0_0) := (blk_cell BK473.out 0).trans rfl
          have hcz66_1 : wr.cell? ⟨gb473, 1, none⟩ = some (.int .i64 a0_1) := (blk_cell BK473.out 1).trans rfl
          have hcz66_2 : wr.cell? ⟨gb473, 2, none⟩ = some (.int .i64 a0_2) := (blk_cell BK473.out 2).trans rfl
          have hcz66_3 : wr.cell? ⟨gb473, 3, none⟩ = some (.int .i64 a0_3) := (blk_cell BK473.out 3).trans rfl
          have hfz66_0 := blk_frozen BK473.out 0
          have hfz66_1 := blk_frozen BK473.out 1
          have hfz66_2 := blk_frozen BK473.out 2
          have hfz66_3 := blk_frozen BK473.out 3
          go_upto_region 12 with (fail)
          go_cut [99] (fun v99 wc => ∃ (kq : Nat) (x99_63 : Bool), v99 = .bool x99_63 ∧ Aside0 (L_Fitting.j3 kq a1 a2 t480 t482 t492 x13_3 x14_3 x99_63 l0_0 a0_1 a0_2 a0_3 t478 t479 = some r) ∧ Aside0 (kq ≤ k3) ∧ Aside0 (Kd.R (Kd.int .i64) 3 wc w.heap.size (fun k_ => some k_ ≠ (v493 : Value).ownBlock) v483 t482) ∧ Aside0 (Kd.R (Kd.int .i64) 3 wc w.heap.size (fun k_ => some k_ ≠ (v483 : Value).ownBlock) v493 t492) ∧ Aside0 (wc.heap[gb473]? = some (.cells #[(.slice A0_0 l0_0.length c0_0), .int .i64 a0_1, .int .i64 a0_2, .int .i64 a0_3] 26 (0, 0))) ∧ Aside0 (wc.heap[gb481]? = some (.cells #[.int .i64 t478, .int .i64 t479] 24 (0, 0))) ∧ Aside0 (Below w.heap.size w wc))
          case first =>
           have H := HC64.out
           clear HC64
           by_cases c67 : a1 ≥ x14_3
           ·rw [if_pos c67] at H
            have c67b0 : decide (x14_3 ≤ a1) = true := decide_eq_true c67
            clear c67
            (first | rw [c67b0] | (simp only [i64_w, i32_w]; rw [c67b0]) | skip)
            have H' := Aside0.mk H
            clear H
            have hnb68 := NB473_481.out
            have hnc68 := NB481_473.out
            have hcz69_0 : wr.cell? ⟨gb473, 0, none⟩ = some (.slice A0_0 l0_0.length c0_0) := (blk_cell BK473.out 0).trans rfl
            have hcz69_1 : wr.cell? ⟨gb473, 1, none⟩ = some (.int .i64 a0_1) := (blk_cell BK473.out 1).trans rfl
            have hcz69_2 : wr.cell? ⟨gb473, 2, none⟩ = some (.int .i64 a0_2) := (blk_cell BK473.out 2).trans rfl
            have hcz69_3 : wr.cell? ⟨gb473, 3, none⟩ = some (.int .i64 a0_3) := (blk_cell BK473.out 3).trans rfl
            have hfz69_0 := blk_frozen BK473.out 0
            have hfz69_1 := blk_frozen BK473.out 1
            have hfz69_2 := blk_frozen BK473.out 2
            have hfz69_3 := blk_frozen BK473.out 3
            go_wp2
            go_meet
            case rel => exact ⟨_, (decide (a1 ≤ (wrap64 (x14_3 + a0_1)))), (by first | rfl | (simp; done) | (simp [*]; done)), H', ⟨by have := HJ3.out; have := HJ27.out; have := HK3.out; first | omega | exact Nat.le_refl _⟩, ⟨rup HO_9.out⟩, ⟨rup HO_11.out⟩, ⟨bup BK473.out⟩, ⟨bup BK481.out⟩, ⟨by repeat (first | (with_reducible first | exact HB.out | apply below_alloc | apply pw_below_drewN | apply below_drew1 | refine below_set ?_ GE473.out | refine below_set ?_ GE481.out) | exact HB.out)⟩⟩
           ·rw [if_neg c67] at H
            have c67b0 : decide (x14_3 ≤ a1) = false := decide_eq_false c67
            clear c67
            (first | rw [c67b0] | (simp only [i64_w, i32_w]; rw [c67b0]) | skip)
            have H' := Aside0.mk H
            clear H
            go_wp2
            go_meet
            case rel => exact ⟨_, (false), (by first | rfl | (simp; done) | (simp [*]; done)), H', ⟨by have := HJ3.out; have := HJ27.out; have := HK3.out; first | omega | exact Nat.le_refl _⟩, ⟨rup HO_9.out⟩, ⟨rup HO_11.out⟩, ⟨bup BK473.out⟩, ⟨bup BK481.out⟩, ⟨by repeat (first | (with_reducible first | exact HB.out | apply below_alloc | apply pw_below_drewN | apply below_drew1 | refine below_set ?_ GE473.out | refine below_set ?_ GE481.out) | exact HB.out)⟩⟩
          case rest =>
           clear HC64
           obtain ⟨kq, x99_63, rfl, HA, HJ63, HO_9, HO_11, BK473, BK481, HB⟩ := hcut
           cases kq with
           | zero => exact absurd HA.out (by simp [L_Fitting.j3])
           | succ kj63 =>
            have H := HA.out
            clear HA
            simp only [L_Fitting.j3] at H
            by_cases c70 : x99_63 = true
            ·subst c70
             have H1 : (if x13_3 = true then ((T_Listed.f kj63 t492 x14_3).bind fun t499 => (L_Fitting.l0 kj63 a1 a2 t480 t482 t492 (!t499) (wrap64 (x14_3 + 1)) l0_0 a0_1 a0_2 a0_3 t478 t479)) else (L_Fitting.l0 kj63 a1 a2 t480 t482 t492 false (wrap64 (x14_3 + 1)) l0_0 a0_1 a0_2 a0_3 t478 t479)) = some r := by rw [if_pos rfl] at H; exact H
             clear H
             have H := H1
             clear H1
             by_cases c71 : x13_3 = true
             ·subst c71
              have H1 : ((T_Listed.f kj63 t492 x14_3).bind fun t499 => (L_Fitting.l0 kj63 a1 a2 t480 t482 t492 (!t499) (wrap64 (x14_3 + 1)) l0_0 a0_1 a0_2 a0_3 t478 t479)) = some r := by rw [if_pos rfl] at H; exact H
              clear H
              have H := H1
              clear H1
              replace H := Option.bind_eq_some_iff.mp H
              obtain ⟨t499, A720, H⟩ := H
              replace H : (L_Fitting.l0 kj63 a1 a2 t480 t482 t492 (!t499) (wrap64 (x14_3 + 1)) l0_0 a0_1 a0_2 a0_3 t478 t479) = some r := H
              have A72 := Aside0.mk A720
              clear A720
              have H' := Aside0.mk H
              clear H
              obtain ⟨Ao73, co73, eo73⟩ := Kd.R_slice HO_11.out
              subst eo73
              go_wp2_with (first | (go_at_call 32; (with_reducible refine (T_Listed.calls kj63 _ _ t492 x14_3 t499 _ ?side1 ?side2 A72.out).mono ?_); (case side1 => repeat (first | exact (Kd.R_reads' HO_11.out).2.2 | (with_reducible refine Kd.C_alloc ?_ _) | (with_reducible refine Kd.C_drewN ?_ _) | (with_reducible refine Kd.C_drew ?_))); (case side2 => exact (Kd.R_reads' HO_11.out).2.1); rintro e w' ⟨rfl, ⟨nd, rfl⟩⟩))
              go_roundg kj63
              case measure => have := HJ3.out; have := HJ27.out; have := HK3.out; have := HJ63.out; omega
              case rel => exact ⟨(!t499), (wrap64 (x14_3 + 1)), (by first | rfl | (simp; done) | (simp [*]; done)), (by first | rfl | (simp; done) | (simp [*]; done)), H', ⟨by have := HJ3.out; have := HJ27.out; have := HK3.out; have := HJ63.out; omega⟩, ⟨rup HO_9.out⟩, ⟨rup HO_11.out⟩, ⟨bup BK473.out⟩, ⟨bup BK481.out⟩, ⟨by repeat (first | (with_reducible first | exact HB.out | apply below_alloc | apply pw_below_drewN | apply below_drew1 | refine below_set ?_ GE473.out | refine below_set ?_ GE481.out) | exact HB.out)⟩⟩
             ·replace c71 := Bool.eq_false_iff.mpr c71
              subst c71
              have H1 : (L_Fitting.l0 kj63 a1 a2 t480 t482 t492 false (wrap64 (x14_3 + 1)) l0_0 a0_1 a0_2 a0_3 t478 t479) = some r := by rw [if_neg (show ¬ (false = true) by decide)] at H; exact H
              clear H
              have H := H1
              clear H1
              have H' := Aside0.mk H
              clear H
              go_wp2
              go_roundg kj63
              case measure => have := HJ3.out; have := HJ27.out; have := HK3.out; have := HJ63.out; omega
              case rel => exact ⟨(false), (wrap64 (x14_3 + 1)), (by first | rfl | (simp; done) | (simp [*]; done)), (by first | rfl | (simp; done) | (simp [*]; done)), H', ⟨by have := HJ3.out; have := HJ27.out; have := HK3.out; have := HJ63.out; omega⟩, ⟨rup HO_9.out⟩, ⟨rup HO_11.out⟩, ⟨bup BK473.out⟩, ⟨bup BK481.out⟩, ⟨by repeat (first | (with_reducible first | exact HB.out | apply below_alloc | apply pw_below_drewN | apply below_drew1 | refine below_set ?_ GE473.out | refine below_set ?_ GE481.out) | exact HB.out)⟩⟩
            ·replace c70 := Bool.eq_false_iff.mpr c70
             subst c70
             have H1 : ((T_Listed.f kj63 t492 x14_3).bind fun t500 => ((T_Listed.f kj63 t482 x14_3).bind fun t501 => (if (t500 != t501) = true then (some false) else (L_Fitting.l0 kj63 a1 a2 t480 t482 t492 x13_3 (wrap64 (x14_3 + 1)) l0_0 a0_1 a0_2 a0_3 t478 t479)))) = some r := by rw [if_neg (show ¬ (false = true) by decide)] at H; exact H
             clear H
             have H := H1
             clear H1
             replace H := Option.bind_eq_some_iff.mp H
             obtain ⟨t500, A740, H⟩ := H
             replace H : ((T_Listed.f kj63 t482 x14_3).bind fun t501 => (if (t500 != t501) = true then (some false) else (L_Fitting.l0 kj63 a1 a2 t480 t482 t492 x13_3 (wrap64 (x14_3 + 1)) l0_0 a0_1 a0_2 a0_3 t478 t479))) = some r := H
             have A74 := Aside0.mk A740
             clear A740
             replace H := Option.bind_eq_some_iff.mp H
             obtain ⟨t501, A750, H⟩ := H
             replace H : (if (t500 != t501) = true then (some false) else (L_Fitting.l0 kj63 a1 a2 t480 t482 t492 x13_3 (wrap64 (x14_3 + 1)) l0_0 a0_1 a0_2 a0_3 t478 t479)) = some r := H
             have A75 := Aside0.mk A750
             clear A750
             by_cases c76 : (t500 != t501) = true
             ·rw [if_pos c76] at H
              have c76b0 : (t500 != t501) = true := c76
              (try (have c76b1 : decide (t500 = t501) = false := by simpa using c76))
              (try (have c76b2 : (t500 == t501) = false := by simpa using c76))
              (try (have c76b3 : ¬ (t500 = t501) := by simpa using c76))
              clear c76
              obtain rfl := Option.some.inj H
              obtain ⟨Ao77, co77, eo77⟩ := Kd.R_slice HO_11.out
              subst eo77
              go_wp2_with (first | ((with_reducible refine gate_callee (f := 32) rfl ?_); refine goesL_ (some 109) rfl rfl Tryz.func32 (by kernel_rfl) rfl #[.slice Ao77 t492.length co77, .int .i64 x14_3] rfl (by (try simp only [List.map_toArray, List.map_cons, List.map_nil]); first | done | rfl | (simp only [List.length_drop, List.length_take]; rfl)) ?_; (with_reducible refine (T_Listed.calls kj63 _ _ t492 x14_3 t500 _ ?side1 ?side2 A74.out).mono ?_); (case side1 => repeat (first | exact (Kd.R_reads' HO_11.out).2.2 | (with_reducible refine Kd.C_alloc ?_ _) | (with_reducible refine Kd.C_drewN ?_ _) | (with_reducible refine Kd.C_drew ?_))); (case side2 => exact (Kd.R_reads' HO_11.out).2.1); rintro e w' ⟨rfl, ⟨nd, rfl⟩⟩; refine ⟨_, rfl, ?_⟩; obtain ⟨Ao78, co78, eo78⟩ := Kd.R_slice HO_9.out; subst eo78) | ((with_reducible refine gate_callee (f := 32) rfl ?_); refine goesL_ (some 112) rfl rfl Tryz.func32 (by kernel_rfl) rfl #[.slice Ao78 t482.length co78, .int .i64 x14_3] rfl (by (try simp only [List.map_toArray, List.map_cons, List.map_nil]); first | done | rfl | (simp only [List.length_drop, List.length_take]; rfl)) ?_; (with_reducible refine (T_Listed.calls kj63 _ _ t482 x14_3 t501 _ ?side1 ?side2 A75.out).mono ?_); (case side1 => repeat (first | exact (Kd.R_reads' HO_9.out).2.2 | (with_reducible refine Kd.C_alloc ?_ _) | (with_reducible refine Kd.C_drewN ?_ _) | (with_reducible refine Kd.C_drew ?_))); (case side2 => exact (Kd.R_reads' HO_9.out).2.1); rintro e w' ⟨rfl, ⟨nd, rfl⟩⟩; refine ⟨_, rfl, ?_⟩))
              go_ret
              exact ⟨by first | rfl | (simp [errW_none, errW_some] <;> rfl) | (simp [*, errW_none, errW_some] <;> rfl), by repeat (first | (with_reducible first | exact HB.out | apply below_alloc | apply pw_below_drewN | apply below_drew1 | refine below_set ?_ GE473.out | refine below_set ?_ GE481.out) | exact HB.out)⟩
             ·rw [if_neg c76] at H
              have c76b0 : (t500 != t501) = false := by simpa using c76
              (try (have c76b1 : decide (t500 = t501) = true := by simpa using c76))
              (try (have c76b2 : (t500 == t501) = true := by simpa using c76))
              clear c76
              have H' := Aside0.mk H
              clear H
              obtain ⟨Ao79, co79, eo79⟩ := Kd.R_slice HO_11.out
              subst eo79
              go_wp2_with (first | ((with_reducible refine gate_callee (f := 32) rfl ?_); refine goesL_ (some 109) rfl rfl Tryz.func32 (by kernel_rfl) rfl #[.slice Ao79 t492.length co79, .int .i64 x14_3] rfl (by (try simp only [List.map_toArray, List.map_cons, List.map_nil]); first | done | rfl | (simp only [List.length_drop, List.length_take]; rfl)) ?_; (with_reducible refine (T_Listed.calls kj63 _ _ t492 x14_3 t500 _ ?side1 ?side2 A74.out).mono ?_); (case side1 => repeat (first | exact (Kd.R_reads' HO_11.out).2.2 | (with_reducible refine Kd.C_alloc ?_ _) | (with_reducible refine Kd.C_drewN ?_ _) | (with_reducible refine Kd.C_drew ?_))); (case side2 => exact (Kd.R_reads' HO_11.out).2.1); rintro e w' ⟨rfl, ⟨nd, rfl⟩⟩; refine ⟨_, rfl, ?_⟩; obtain ⟨Ao80, co80, eo80⟩ := Kd.R_slice HO_9.out; subst eo80) | ((with_reducible refine gate_callee (f := 32) rfl ?_); refine goesL_ (some 112) rfl rfl Tryz.func32 (by kernel_rfl) rfl #[.slice Ao80 t482.length co80, .int .i64 x14_3] rfl (by (try simp only [List.map_toArray, List.map_cons, List.map_nil]); first | done | rfl | (simp only [List.length_drop, List.length_take]; rfl)) ?_; (with_reducible refine (T_Listed.calls kj63 _ _ t482 x14_3 t501 _ ?side1 ?side2 A75.out).mono ?_); (case side1 => repeat (first | exact (Kd.R_reads' HO_9.out).2.2 | (with_reducible refine Kd.C_alloc ?_ _) | (with_reducible refine Kd.C_drewN ?_ _) | (with_reducible refine Kd.C_drew ?_))); (case side2 => exact (Kd.R_reads' HO_9.out).2.1); rintro e w' ⟨rfl, ⟨nd, rfl⟩⟩; refine ⟨_, rfl, ?_⟩))
              go_roundg kj63
              case measure => have := HJ3.out; have := HJ27.out; have := HK3.out; have := HJ63.out; omega
              case rel => exact ⟨(x13_3), (wrap64 (x14_3 + 1)), (by first | rfl | (simp; done) | (simp [*]; done)), (by first | rfl | (simp; done) | (simp [*]; done)), H', ⟨by have := HJ3.out; have := HJ27.out; have := HK3.out; have := HJ63.out; omega⟩, ⟨rup HO_9.out⟩, ⟨rup HO_11.out⟩, ⟨bup BK473.out⟩, ⟨bup BK481.out⟩, ⟨by repeat (first | (with_reducible first | exact HB.out | apply below_alloc | apply pw_below_drewN | apply below_drew1 | refine below_set ?_ GE473.out | refine below_set ?_ GE481.out) | exact HB.out)⟩⟩
         ·rw [if_neg c63] at H
          have c63b0 : decide ((wrap64 (x14_3 + a0_1)) < (l0_0.length : Int)) = false := decide_eq_false c63
          clear c63
          by_cases c81 : t480 = 0
          ·rw [if_pos c81] at H
           have c81b0 : (t480 == 0) = true := beq_iff_eq.mpr c81
           have c81b1 : (t480 != 0) = false := bne_eq_false_iff_eq.mpr c81
           clear c81
           by_cases c82 : a2 ≥ t478
           ·rw [if_pos c82] at H
            have c82b0 : decide (t478 ≤ a2) = true := decide_eq_true c82
            clear c82
            by_cases c83 : (x13_3 == (decide (a2 ≤ t479))) = true
            ·rw [if_pos c83] at H
             have c83b0 : (x13_3 == (decide (a2 ≤ t479))) = true := c83
             (try (have c83b1 : decide (x13_3 = (decide (a2 ≤ t479))) = true := by simpa using c83))
             (try (have c83b2 : (x13_3 == (decide (a2 ≤ t479))) = true := by simpa using c83))
             clear c83
             replace H := Option.bind_eq_some_iff.mp H
             obtain ⟨t496, A840, H⟩ := H
             replace H : (some t496) = some r := H
             have A84 := Aside0.mk A840
             clear A840
             obtain rfl := Option.some.inj H
             have hnb85 := NB473_481.out
             have hnc85 := NB481_473.out
             have hcz86_0 : wr.cell? ⟨gb473, 0, none⟩ = some (.slice A0_0 l0_0.length c0_0) := (blk_cell BK473.out 0).trans rfl
             have hcz86_1 : wr.cell? ⟨gb473, 1, none⟩ = some (.int .i64 a0_1) := (blk_cell BK473.out 1).trans rfl
             have hcz86_2 : wr.cell? ⟨gb473, 2, none⟩ = some (.int .i64 a0_2) := (blk_cell BK473.out 2).trans rfl
             have hcz86_3 : wr.cell? ⟨gb473, 3, none⟩ = some (.int .i64 a0_3) := (blk_cell BK473.out 3).trans rfl
             have hfz86_0 := blk_frozen BK473.out 0
             have hfz86_1 := blk_frozen BK473.out 1
             have hfz86_2 := blk_frozen BK473.out 2
             have hfz86_3 := blk_frozen BK473.out 3
             have hcz87_0 : wr.cell? ⟨gb481, 0, none⟩ = some (.int .i64 t478) := (blk_cell BK481.out 0).trans rfl
             have hcz87_1 : wr.cell? ⟨gb481, 1, none⟩ = some (.int .i64 t479) := (blk_cell BK481.out 1).trans rfl
             have hfz87_0 := blk_frozen BK481.out 0
             have hfz87_1 := blk_frozen BK481.out 1
             go_wp2_with (first | (go_at_call 17; (with_reducible refine (L_known.calls  t496 _ A84.out ?sideT).mono ?_); (case sideT => exact HT.out.below (by repeat (first | (with_reducible first | exact HB.out | apply below_alloc | apply pw_below_drewN | apply below_drew1 | refine below_set ?_ GE473.out | refine below_set ?_ GE481.out) | exact HB.out))); rintro e w88 ⟨rfl, hb⟩; have n0_ := Aside0.mk (Kd.R_below (rup HO_9.out) hb); have n1_ := Aside0.mk (Kd.R_below (rup HO_11.out) hb); have n2_ := Aside0.mk (blk_below (g := gb473) (o := .cells #[.slice A0_0 l0_0.length c0_0, .int .i64 a0_1, .int .i64 a0_2, .int .i64 a0_3] 26 (0, 0)) (bup BK473.out) hb); have n3_ := Aside0.mk (blk_below (g := gb481) (o := .cells #[.int .i64 t478, .int .i64 t479] 24 (0, 0)) (bup BK481.out) hb); have n4_ := Aside0.mk (below_step (by repeat (first | (with_reducible first | exact HB.out | apply below_alloc | apply pw_below_drewN | apply below_drew1 | refine below_set ?_ GE473.out | refine below_set ?_ GE481.out) | exact HB.out)) hb); clear HO_9; clear HO_11; clear BK473; clear BK481; clear HB; have HO_9 := n0_; have HO_11 := n1_; have BK473 := n2_; have BK481 := n3_; have HB := n4_; clear n0_ n1_ n2_ n3_ n4_; (try clear hb); (try clear hb2); (try clear hk); (try clear hi)))
             go_ret
             exact ⟨by first | rfl | (simp [errW_none, errW_some] <;> rfl) | (simp [*, errW_none, errW_some] <;> rfl), by repeat (first | (with_reducible first | exact HB.out | apply below_alloc | apply pw_below_drewN | apply below_drew1 | refine below_set ?_ GE473.out | refine below_set ?_ GE481.out) | exact HB.out)⟩
            ·rw [if_neg c83] at H
             have c83b0 : (x13_3 == (decide (a2 ≤ t479))) = false := by simpa using c83
             (try (have c83b1 : decide (x13_3 = (decide (a2 ≤ t479))) = false := by simpa using c83))
             (try (have c83b2 : (x13_3 == (decide (a2 ≤ t479))) = false := by simpa using c83))
             (try (have c83b3 : ¬ (x13_3 = (decide (a2 ≤ t479))) := by simpa using c83))
             clear c83
             obtain rfl := Option.some.inj H
             have hnb89 := NB473_481.out
             have hnc89 := NB481_473.out
             have hcz90_0 : wr.cell? ⟨gb473, 0, none⟩ = some (.slice A0_0 l0_0.length c0_0) := (blk_cell BK473.out 0).trans rfl
             have hcz90_1 : wr.cell? ⟨gb473, 1, none⟩ = some (.int .i64 a0_1) := (blk_cell BK473.out 1).trans rfl
             have hcz90_2 : wr.cell? ⟨gb473, 2, none⟩ = some (.int .i64 a0_2) := (blk_cell BK473.out 2).trans rfl
             have hcz90_3 : wr.cell? ⟨gb473, 3, none⟩ = some (.int .i64 a0_3) := (blk_cell BK473.out 3).trans rfl
             have hfz90_0 := blk_frozen BK473.out 0
             have hfz90_1 := blk_frozen BK473.out 1
             have hfz90_2 := blk_frozen BK473.out 2
             have hfz90_3 := blk_frozen BK473.out 3
             have hcz91_0 : wr.cell? ⟨gb481, 0, none⟩ = some (.int .i64 t478) := (blk_cell BK481.out 0).trans rfl
             have hcz91_1 : wr.cell? ⟨gb481, 1, none⟩ = some (.int .i64 t479) := (blk_cell BK481.out 1).trans rfl
             have hfz91_0 := blk_frozen BK481.out 0
             have hfz91_1 := blk_frozen BK481.out 1
             go_wp2
             go_ret
             exact ⟨by first | rfl | (simp [errW_none, errW_some] <;> rfl) | (simp [*, errW_none, errW_some] <;> rfl), by repeat (first | (with_reducible first | exact HB.out | apply below_alloc | apply pw_below_drewN | apply below_drew1 | refine below_set ?_ GE473.out | refine below_set ?_ GE481.out) | exact HB.out)⟩
           ·rw [if_neg c82] at H
            have c82b0 : decide (t478 ≤ a2) = false := decide_eq_false c82
            clear c82
            by_cases c92 : (x13_3 == false) = true
            ·rw [if_pos c92] at H
             have c92b0 : (x13_3 == false) = true := c92
             (try (have c92b1 : decide (x13_3 = false) = true := by simpa using c92))
             (try (have c92b2 : (x13_3 == false) = true := by simpa using c92))
             clear c92
             replace H := Option.bind_eq_some_iff.mp H
             obtain ⟨t497, A930, H⟩ := H
             replace H : (some t497) = some r := H
             have A93 := Aside0.mk A930
             clear A930
             obtain rfl := Option.some.inj H
             have hnb94 := NB473_481.out
             have hnc94 := NB481_473.out
             have hcz95_0 : wr.cell? ⟨gb473, 0, none⟩ = some (.slice A0_0 l0_0.length c0_0) := (blk_cell BK473.out 0).trans rfl
             have hcz95_1 : wr.cell? ⟨gb473, 1, none⟩ = some (.int .i64 a0_1) := (blk_cell BK473.out 1).trans rfl
             have hcz95_2 : wr.cell? ⟨gb473, 2, none⟩ = some (.int .i64 a0_2) := (blk_cell BK473.out 2).trans rfl
             have hcz95_3 : wr.cell? ⟨gb473, 3, none⟩ = some (.int .i64 a0_3) := (blk_cell BK473.out 3).trans rfl
             have hfz95_0 := blk_frozen BK473.out 0
             have hfz95_1 := blk_frozen BK473.out 1
             have hfz95_2 := blk_frozen BK473.out 2
             have hfz95_3 := blk_frozen BK473.out 3
             have hcz96_0 : wr.cell? ⟨gb481, 0, none⟩ = some (.int .i64 t478) := (blk_cell BK481.out 0).trans rfl
             have hcz96_1 : wr.cell? ⟨gb481, 1, none⟩ = some (.int .i64 t479) := (blk_cell BK481.out 1).trans rfl
             have hfz96_0 := blk_frozen BK481.out 0
             have hfz96_1 := blk_frozen BK481.out 1
             go_wp2_with (first | (go_at_call 17; (with_reducible refine (L_known.calls  t497 _ A93.out ?sideT).mono ?_); (case sideT => exact HT.out.below (by repeat (first | (with_reducible first | exact HB.out | apply below_alloc | apply pw_below_drewN | apply below_drew1 | refine below_set ?_ GE473.out | refine below_set ?_ GE481.out) | exact HB.out))); rintro e w97 ⟨rfl, hb⟩; have n0_ := Aside0.mk (Kd.R_below (rup HO_9.out) hb); have n1_ := Aside0.mk (Kd.R_below (rup HO_11.out) hb); have n2_ := Aside0.mk (blk_below (g := gb473) (o := .cells #[.slice A0_0 l0_0.length c0_0, .int .i64 a0_1, .int .i64 a0_2, .int .i64 a0_3] 26 (0, 0)) (bup BK473.out) hb); have n3_ := Aside0.mk (blk_below (g := gb481) (o := .cells #[.int .i64 t478, .int .i64 t479] 24 (0, 0)) (bup BK481.out) hb); have n4_ := Aside0.mk (below_step (by repeat (first | (with_reducible first | exact HB.out | apply below_alloc | apply pw_below_drewN | apply below_drew1 | refine below_set ?_ GE473.out | refine below_set ?_ GE481.out) | exact HB.out)) hb); clear HO_9; clear HO_11; clear BK473; clear BK481; clear HB; have HO_9 := n0_; have HO_11 := n1_; have BK473 := n2_; have BK481 := n3_; have HB := n4_; clear n0_ n1_ n2_ n3_ n4_; (try clear hb); (try clear hb2); (try clear hk); (try clear hi)))
             go_ret
             exact ⟨by first | rfl | (simp [errW_none, errW_some] <;> rfl) | (simp [*, errW_none, errW_some] <;> rfl), by repeat (first | (with_reducible first | exact HB.out | apply below_alloc | apply pw_below_drewN | apply below_drew1 | refine below_set ?_ GE473.out | refine below_set ?_ GE481.out) | exact HB.out)⟩
            ·rw [if_neg c92] at H
             have c92b0 : (x13_3 == false) = false := by simpa using c92
             (try (have c92b1 : decide (x13_3 = false) = false := by simpa using c92))
             (try (have c92b2 : (x13_3 == false) = false := by simpa using c92))
             (try (have c92b3 : ¬ (x13_3 = false) := by simpa using c92))
             clear c92
             obtain rfl := Option.some.inj H
             have hnb98 := NB473_481.out
             have hnc98 := NB481_473.out
             have hcz99_0 : wr.cell? ⟨gb473, 0, none⟩ = some (.slice A0_0 l0_0.length c0_0) := (blk_cell BK473.out 0).trans rfl
             have hcz99_1 : wr.cell? ⟨gb473, 1, none⟩ = some (.int .i64 a0_1) := (blk_cell BK473.out 1).trans rfl
             have hcz99_2 : wr.cell? ⟨gb473, 2, none⟩ = some (.int .i64 a0_2) := (blk_cell BK473.out 2).trans rfl
             have hcz99_3 : wr.cell? ⟨gb473, 3, none⟩ = some (.int .i64 a0_3) := (blk_cell BK473.out 3).trans rfl
             have hfz99_0 := blk_frozen BK473.out 0
             have hfz99_1 := blk_frozen BK473.out 1
             have hfz99_2 := blk_frozen BK473.out 2
             have hfz99_3 := blk_frozen BK473.out 3
             have hcz100_0 : wr.cell? ⟨gb481, 0, none⟩ = some (.int .i64 t478) := (blk_cell BK481.out 0).trans rfl
             have hcz100_1 : wr.cell? ⟨gb481, 1, none⟩ = some (.int .i64 t479) := (blk_cell BK481.out 1).trans rfl
             have hfz100_0 := blk_frozen BK481.out 0
             have hfz100_1 := blk_frozen BK481.out 1
             go_wp2
             go_ret
             exact ⟨by first | rfl | (simp [errW_none, errW_some] <;> rfl) | (simp [*, errW_none, errW_some] <;> rfl), by repeat (first | (with_reducible first | exact HB.out | apply below_alloc | apply pw_below_drewN | apply below_drew1 | refine below_set ?_ GE473.out | refine below_set ?_ GE481.out) | exact HB.out)⟩
          ·rw [if_neg c81] at H
           have c81b0 : (t480 == 0) = false := beq_eq_false_iff_ne.mpr c81
           have c81b1 : (t480 != 0) = true := bne_iff_ne.mpr c81
           by_cases c101 : (x13_3 == false) = true
           ·rw [if_pos c101] at H
            have c101b0 : (x13_3 == false) = true := c101
            (try (have c101b1 : decide (x13_3 = false) = true := by simpa using c101))
            (try (have c101b2 : (x13_3 == false) = true := by simpa using c101))
            clear c101
            replace H := Option.bind_eq_some_iff.mp H
            obtain ⟨t498, A1020, H⟩ := H
            replace H : (some t498) = some r := H
            have A102 := Aside0.mk A1020
            clear A1020
            obtain rfl := Option.some.inj H
            have hnb103 := NB473_481.out
            have hnc103 := NB481_473.out
            have hcz104_0 : wr.cell? ⟨gb473, 0, none⟩ = some (.slice A0_0 l0_0.length c0_0) := (blk_cell BK473.out 0).trans rfl
            have hcz104_1 : wr.cell? ⟨gb473, 1, none⟩ = some (.int .i64 a0_1) := (blk_cell BK473.out 1).trans rfl
            have hcz104_2 : wr.cell? ⟨gb473, 2, none⟩ = some (.int .i64 a0_2) := (blk_cell BK473.out 2).trans rfl
            have hcz104_3 : wr.cell? ⟨gb473, 3, none⟩ = some (.int .i64 a0_3) := (blk_cell BK473.out 3).trans rfl
            have hfz104_0 := blk_frozen BK473.out 0
            have hfz104_1 := blk_frozen BK473.out 1
            have hfz104_2 := blk_frozen BK473.out 2
            have hfz104_3 := blk_frozen BK473.out 3
            go_wp2_with (first | (go_at_call 17; (with_reducible refine (L_known.calls  t498 _ A102.out ?sideT).mono ?_); (case sideT => exact HT.out.below (by repeat (first | (with_reducible first | exact HB.out | apply below_alloc | apply pw_below_drewN | apply below_drew1 | refine below_set ?_ GE473.out | refine below_set ?_ GE481.out) | exact HB.out))); rintro e w105 ⟨rfl, hb⟩; have n0_ := Aside0.mk (Kd.R_below (rup HO_9.out) hb); have n1_ := Aside0.mk (Kd.R_below (rup HO_11.out) hb); have n2_ := Aside0.mk (blk_below (g := gb473) (o := .cells #[.slice A0_0 l0_0.length c0_0, .int .i64 a0_1, .int .i64 a0_2, .int .i64 a0_3] 26 (0, 0)) (bup BK473.out) hb); have n3_ := Aside0.mk (blk_below (g := gb481) (o := .cells #[.int .i64 t478, .int .i64 t479] 24 (0, 0)) (bup BK481.out) hb); have n4_ := Aside0.mk (below_step (by repeat (first | (with_reducible first | exact HB.out | apply below_alloc | apply pw_below_drewN | apply below_drew1 | refine below_set ?_ GE473.out | refine below_set ?_ GE481.out) | exact HB.out)) hb); clear HO_9; clear HO_11; clear BK473; clear BK481; clear HB; have HO_9 := n0_; have HO_11 := n1_; have BK473 := n2_; have BK481 := n3_; have HB := n4_; clear n0_ n1_ n2_ n3_ n4_; (try clear hb); (try clear hb2); (try clear hk); (try clear hi)))
            go_ret
            exact ⟨by first | rfl | (simp [errW_none, errW_some] <;> rfl) | (simp [*, errW_none, errW_some] <;> rfl), by repeat (first | (with_reducible first | exact HB.out | apply below_alloc | apply pw_below_drewN | apply below_drew1 | refine below_set ?_ GE473.out | refine below_set ?_ GE481.out) | exact HB.out)⟩
           ·rw [if_neg c101] at H
            have c101b0 : (x13_3 == false) = false := by simpa using c101
            (try (have c101b1 : decide (x13_3 = false) = false := by simpa using c101))
            (try (have c101b2 : (x13_3 == false) = false := by simpa using c101))
            (try (have c101b3 : ¬ (x13_3 = false) := by simpa using c101))
            clear c101
            obtain rfl := Option.some.inj H
            have hnb106 := NB473_481.out
            have hnc106 := NB481_473.out
            have hcz107_0 : wr.cell? ⟨gb473, 0, none⟩ = some (.slice A0_0 l0_0.length c0_0) := (blk_cell BK473.out 0).trans rfl
            have hcz107_1 : wr.cell? ⟨gb473, 1, none⟩ = some (.int .i64 a0_1) := (blk_cell BK473.out 1).trans rfl
            have hcz107_2 : wr.cell? ⟨gb473, 2, none⟩ = some (.int .i64 a0_2) := (blk_cell BK473.out 2).trans rfl
            have hcz107_3 : wr.cell? ⟨gb473, 3, none⟩ = some (.int .i64 a0_3) := (blk_cell BK473.out 3).trans rfl
            have hfz107_0 := blk_frozen BK473.out 0
            have hfz107_1 := blk_frozen BK473.out 1
            have hfz107_2 := blk_frozen BK473.out 2
            have hfz107_3 := blk_frozen BK473.out 3
            go_wp2
            go_ret
            exact ⟨by first | rfl | (simp [errW_none, errW_some] <;> rfl) | (simp [*, errW_none, errW_some] <;> rfl), by repeat (first | (with_reducible first | exact HB.out | apply below_alloc | apply pw_below_drewN | apply below_drew1 | refine below_set ?_ GE473.out | refine below_set ?_ GE481.out) | exact HB.out)⟩
end Go.Proofs.YtohlmoppcmjknaaGreatDoor.P
end
