/- What the law reaches beyond the common part; joined out of several texts. -/
import Derived.Test.YtohlmoppcmjknaaGreatDoorM2
section
namespace Go.Proofs.YtohlmoppcmjknaaGreatDoor.P
open Go.RowKit Go.Proofs.YtohlmoppcmjknaaGreatDoorW.PrintWords Go.Proofs.YtohlmoppcmjknaaGreatDoorW.PrintLast Go.Proofs.YtohlmoppcmjknaaGreatDoorW.PrintMore
attribute [local go_sem] max2_int min2_int max_two min_two max_three min_three max_four min_four
set_option linter.unusedVariables false
set_option linter.unusedSimpArgs false
def R_in.f (a0 : Int) (a1 : Int) (a2 : Int) : Option (Bool) := if a0 ≥ a1 then (some (decide (a0 ≤ a2))) else (some false)
set_option maxHeartbeats 8000000 in
set_option maxRecDepth 100000 in
theorem R_in.calls (a0 : Int) (a1 : Int) (a2 : Int) (r : Bool) (w : World) (h : R_in.f a0 a1 a2 = some r) :
  Calls Tryz.prog 56 #[.int .i64 a0, .int .i64 a1, .int .i64 a2] w fun e w' => e = .returned (.bool r) ∧ Drawn0 w w' := by
 have H : (if a0 ≥ a1 then (some (decide (a0 ≤ a2))) else (some false)) = some r := h
 clear h
 by_cases c4 : a0 ≥ a1
 ·rw [if_pos c4] at H
  have c4b0 : decide (a1 ≤ a0) = true := decide_eq_true c4
  clear c4
  obtain rfl := Option.some.inj H
  go_enter Tryz.func56, Tryz.ntmps56
  go_wp2
  go_ret
  exact ⟨by first | rfl | (simp; done) | (simp [*]; done), by repeat (first | exact Drawn0.refl _ | apply Drawn0.step)⟩
 ·rw [if_neg c4] at H
  have c4b0 : decide (a1 ≤ a0) = false := decide_eq_false c4
  clear c4
  obtain rfl := Option.some.inj H
  go_enter Tryz.func56, Tryz.ntmps56
  go_wp2
  go_ret
  exact ⟨by first | rfl | (simp; done) | (simp [*]; done), by repeat (first | exact Drawn0.refl _ | apply Drawn0.step)⟩
end Go.Proofs.YtohlmoppcmjknaaGreatDoor.P
end
section
namespace Go.Proofs.YtohlmoppcmjknaaGreatDoor.P
open Go.RowKit Go.Proofs.YtohlmoppcmjknaaGreatDoorW.PrintWords Go.Proofs.YtohlmoppcmjknaaGreatDoorW.PrintLast Go.Proofs.YtohlmoppcmjknaaGreatDoorW.PrintMore
attribute [local go_sem] max2_int min2_int max_two min_two max_three min_three max_four min_four
set_option linter.unusedVariables false
set_option linter.unusedSimpArgs false
def R_Smooth.f (a0_0 : Int) (a0_1 : Int) : Option (Bool) := (R_in.f a0_0 (-99999) 99999).bind fun t102 => (if t102 = true then ((R_in.f a0_1 a0_0 99999).bind fun t103 => (some t103)) else (some false))
set_option maxHeartbeats 8000000 in
set_option maxRecDepth 100000 in
theorem R_Smooth.calls (a0_0 : Int) (a0_1 : Int) (r : Bool) (w : World) (h : R_Smooth.f a0_0 a0_1 = some r) :
  Calls Tryz.prog 20 #[.agg #[.int .i64 a0_0, .int .i64 a0_1]] w fun e w' => e = .returned (.bool r) ∧ Below w.heap.size w w' := by
 have hu24 := Tryz.underlying24
 have HB := Aside0.mk (Below.refl w.heap.size w)
 have H : ((R_in.f a0_0 (-99999) 99999).bind fun t102 => (if t102 = true then ((R_in.f a0_1 a0_0 99999).bind fun t103 => (some t103)) else (some false))) = some r := h
 clear h
 replace H := Option.bind_eq_some_iff.mp H
 obtain ⟨t102, A20, H⟩ := H
 replace H : (if t102 = true then ((R_in.f a0_1 a0_0 99999).bind fun t103 => (some t103)) else (some false)) = some r := H
 have A2 := Aside0.mk A20
 clear A20
 by_cases c3 : t102 = true
 ·subst c3
  have H1 : ((R_in.f a0_1 a0_0 99999).bind fun t103 => (some t103)) = some r := by rw [if_pos rfl] at H; exact H
  clear H
  have H := H1
  clear H1
  replace H := Option.bind_eq_some_iff.mp H
  obtain ⟨t103, A40, H⟩ := H
  replace H : (some t103) = some r := H
  have A4 := Aside0.mk A40
  clear A40
  obtain rfl := Option.some.inj H
  go_enter Tryz.func20, Tryz.ntmps20
  go_wp2_with (first | ((with_reducible refine gate_dst (N := 1) rfl ?_); refine box_event ?hg (N := 1) ?hd (cs := #[.int .i64 a0_0, .int .i64 a0_1]) (t := 24) ?hr ?_; (case hd => rfl); (case hg => rfl); (case hr => first | (go_simp; done) | (go_simp; rfl)); intro gb101 hg w5 hbox hb; have n0_ := Aside0.mk (below_step (wup HB.out) hb); have n1_ := Aside0.mk (hbox); have n2_ := Aside0.mk ((by rw [hg]; exact (below_size (wup HB.out)) : w.heap.size ≤ gb101)); have n3_ := Aside0.mk ((by rw [hg]; exact (below_size (wup HB.out)) : w.heap.size ≤ gb101)); clear HB; have HB := n0_; have BK101 := n1_; have GW101 := n2_; have GE101 := n3_; clear n0_ n1_ n2_ n3_; clear hb hbox hg; have hcz6_0 : w5.cell? ⟨gb101, 0, none⟩ = some (.int .i64 a0_0) := (blk_cell BK101.out 0).trans rfl; have hcz6_1 : w5.cell? ⟨gb101, 1, none⟩ = some (.int .i64 a0_1) := (blk_cell BK101.out 1).trans rfl; have hfz6_0 := blk_frozen BK101.out 0; have hfz6_1 := blk_frozen BK101.out 1) | ((with_reducible refine gate_callee (f := 56) rfl ?_); refine goesL_ (some 5) rfl rfl Tryz.func56 (by kernel_rfl) rfl #[.int .i64 a0_0, .int .i64 (-99999), .int .i64 99999] rfl (by (try simp only [List.map_toArray, List.map_cons, List.map_nil]); first | done | rfl | (simp only [List.length_drop, List.length_take]; rfl)) ?_; (with_reducible refine (R_in.calls a0_0 (-99999) 99999 true _ A2.out).mono ?_); rintro e w' ⟨rfl, ⟨nd, rfl⟩⟩; refine ⟨_, rfl, ?_⟩) | (go_at_call 56; (with_reducible refine (R_in.calls a0_1 a0_0 99999 t103 _ A4.out).mono ?_); rintro e w' ⟨rfl, ⟨nd, rfl⟩⟩))
  go_ret
  exact ⟨by first | rfl | (simp [errW_none, errW_some] <;> rfl) | (simp [*, errW_none, errW_some] <;> rfl), by repeat (first | (with_reducible first | exact HB.out | apply below_alloc | apply pw_below_drewN | apply below_drew1 | refine below_set ?_ GE101.out) | exact HB.out)⟩
 ·replace c3 := Bool.eq_false_iff.mpr c3
  subst c3
  have H1 : (some false) = some r := by rw [if_neg (show ¬ (false = true) by decide)] at H; exact H
  clear H
  have H := H1
  clear H1
  obtain rfl := Option.some.inj H
  go_enter Tryz.func20, Tryz.ntmps20
  go_wp2_with (first | ((with_reducible refine gate_dst (N := 1) rfl ?_); refine box_event ?hg (N := 1) ?hd (cs := #[.int .i64 a0_0, .int .i64 a0_1]) (t := 24) ?hr ?_; (case hd => rfl); (case hg => rfl); (case hr => first | (go_simp; done) | (go_simp; rfl)); intro gb101 hg w7 hbox hb; have n0_ := Aside0.mk (below_step (wup HB.out) hb); have n1_ := Aside0.mk (hbox); have n2_ := Aside0.mk ((by rw [hg]; exact (below_size (wup HB.out)) : w.heap.size ≤ gb101)); have n3_ := Aside0.mk ((by rw [hg]; exact (below_size (wup HB.out)) : w.heap.size ≤ gb101)); clear HB; have HB := n0_; have BK101 := n1_; have GW101 := n2_; have GE101 := n3_; clear n0_ n1_ n2_ n3_; clear hb hbox hg; have hcz8_0 : w7.cell? ⟨gb101, 0, none⟩ = some (.int .i64 a0_0) := (blk_cell BK101.out 0).trans rfl; have hcz8_1 : w7.cell? ⟨gb101, 1, none⟩ = some (.int .i64 a0_1) := (blk_cell BK101.out 1).trans rfl; have hfz8_0 := blk_frozen BK101.out 0; have hfz8_1 := blk_frozen BK101.out 1) | ((with_reducible refine gate_callee (f := 56) rfl ?_); refine goesL_ (some 5) rfl rfl Tryz.func56 (by kernel_rfl) rfl #[.int .i64 a0_0, .int .i64 (-99999), .int .i64 99999] rfl (by (try simp only [List.map_toArray, List.map_cons, List.map_nil]); first | done | rfl | (simp only [List.length_drop, List.length_take]; rfl)) ?_; (with_reducible refine (R_in.calls a0_0 (-99999) 99999 false _ A2.out).mono ?_); rintro e w' ⟨rfl, ⟨nd, rfl⟩⟩; refine ⟨_, rfl, ?_⟩))
  go_ret
  exact ⟨by first | rfl | (simp [errW_none, errW_some] <;> rfl) | (simp [*, errW_none, errW_some] <;> rfl), by repeat (first | (with_reducible first | exact HB.out | apply below_alloc | apply pw_below_drewN | apply below_drew1 | refine below_set ?_ GE101.out) | exact HB.out)⟩
end Go.Proofs.YtohlmoppcmjknaaGreatDoor.P
end
section
namespace Go.Proofs.YtohlmoppcmjknaaGreatDoor.P
open Go.RowKit Go.Proofs.YtohlmoppcmjknaaGreatDoorW.PrintWords Go.Proofs.YtohlmoppcmjknaaGreatDoorW.PrintLast Go.Proofs.YtohlmoppcmjknaaGreatDoorW.PrintMore
attribute [local go_sem] max2_int min2_int max_two min_two max_three min_three max_four min_four
set_option linter.unusedVariables false
set_option linter.unusedSimpArgs false
def R_Value.f (a0 : Int) : Option (Bool) := (R_in.f a0 (-9999) 9999).bind fun t104 => (some t104)
set_option maxHeartbeats 8000000 in
set_option maxRecDepth 100000 in
theorem R_Value.calls (a0 : Int) (r : Bool) (w : World) (h : R_Value.f a0 = some r) :
  Calls Tryz.prog 46 #[.int .i64 a0] w fun e w' => e = .returned (.bool r) ∧ Drawn0 w w' := by
 have H : ((R_in.f a0 (-9999) 9999).bind fun t104 => (some t104)) = some r := h
 clear h
 replace H := Option.bind_eq_some_iff.mp H
 obtain ⟨t104, A20, H⟩ := H
 replace H : (some t104) = some r := H
 have A2 := Aside0.mk A20
 clear A20
 obtain rfl := Option.some.inj H
 go_enter Tryz.func46, Tryz.ntmps46
 go_wp2_with (first | ((with_reducible refine gate_callee (f := 56) rfl ?_); refine goesL_ (some 4) rfl rfl Tryz.func56 (by kernel_rfl) rfl #[.int .i64 a0, .int .i64 (-9999), .int .i64 9999] rfl (by (try simp only [List.map_toArray, List.map_cons, List.map_nil]); first | done | rfl | (simp only [List.length_drop, List.length_take]; rfl)) ?_; (with_reducible refine (R_in.calls a0 (-9999) 9999 t104 _ A2.out).mono ?_); rintro e w' ⟨rfl, ⟨nd, rfl⟩⟩; refine ⟨_, rfl, ?_⟩))
 go_ret
 exact ⟨by first | rfl | (simp; done) | (simp [*]; done), by repeat (first | exact Drawn0.refl _ | apply Drawn0.step)⟩
end Go.Proofs.YtohlmoppcmjknaaGreatDoor.P
end
section
namespace Go.Proofs.YtohlmoppcmjknaaGreatDoor.P
open Go.RowKit Go.Proofs.YtohlmoppcmjknaaGreatDoorW.PrintWords Go.Proofs.YtohlmoppcmjknaaGreatDoorW.PrintLast Go.Proofs.YtohlmoppcmjknaaGreatDoorW.PrintMore
attribute [local go_sem] max2_int min2_int max_two min_two max_three min_three max_four min_four
set_option linter.unusedVariables false
set_option linter.unusedSimpArgs false
def R_Sheet.l0 : Nat → Int → List Int → Int → Int → Int → Option (Bool)
 | 0, _, _, _, _, _ => none
 | k + 1, x3, x106000, x106001, x106002, x106003 => if x3 < (x106000.length : Int) then (if 0 ≤ x3 then ((R_Value.f (rd x106000 x3)).bind fun t107 => (if t107 = true then (R_Sheet.l0 k (wrap64 (x3 + 1)) x106000 x106001 x106002 x106003) else (some false))) else (none)) else ((R_in.f (x106000.length : Int) 1 14).bind fun t108 => (if t108 = true then ((R_in.f x106001 1 3).bind fun t109 => (if t109 = true then ((R_Smooth.f x106002 x106003).bind fun t110 => (some t110)) else (some false))) else (some false)))
def R_Sheet.f (k : Nat) (l0_0 : List Int) (a0_1 : Int) (a0_2 : Int) (a0_3 : Int) : Option (Bool) := R_Sheet.l0 k 0 l0_0 a0_1 a0_2 a0_3
set_option maxHeartbeats 8000000 in
set_option maxRecDepth 100000 in
theorem R_Sheet.calls (k : Nat) (A0_0 : Option Addr) (c0_0 : Nat) (l0_0 : List Int) (a0_1 : Int) (a0_2 : Int) (a0_3 : Int) (r : Bool) (w : World) (hr0_0 : Kd.C (Kd.int .i64) w A0_0 l0_0.length l0_0) (hc0_0 : l0_0.length ≤ c0_0) (h : R_Sheet.f k l0_0 a0_1 a0_2 a0_3 = some r) :
  Calls Tryz.prog 39 #[.agg #[.slice A0_0 l0_0.length c0_0, .int .i64 a0_1, .int .i64 a0_2, .int .i64 a0_3]] w fun e w' => e = .returned (.bool r) ∧ Below w.heap.size w w' := by
 have hu26 := Tryz.underlying26
 have hu24 := Tryz.underlying24
 have HR0_0 := Aside0.mk hr0_0
 have HC0_0 := Aside0.mk hc0_0
 clear hr0_0 hc0_0
 have HB := Aside0.mk (Below.refl w.heap.size w)
 have H : (R_Sheet.l0 k 0 l0_0 a0_1 a0_2 a0_3) = some r := h
 clear h
 have H' := Aside0.mk H
 clear H
 go_enter Tryz.func39, Tryz.ntmps39
 go_wp2_with (first | ((with_reducible refine gate_dst (N := 1) rfl ?_); refine box_event ?hg (N := 1) ?hd (cs := #[.slice A0_0 l0_0.length c0_0, .int .i64 a0_1, .int .i64 a0_2, .int .i64 a0_3]) (t := 26) ?hr ?_; (case hd => rfl); (case hg => rfl); (case hr => first | (go_simp; done) | (go_simp; rfl)); intro gb105 hg w2 hbox hb; have n0_ := Aside0.mk (below_step (wup HB.out) hb); have n1_ := Aside0.mk (hbox); have n2_ := Aside0.mk ((by rw [hg]; exact (below_size (wup HB.out)) : w.heap.size ≤ gb105)); have n3_ := Aside0.mk ((by rw [hg]; exact (below_size (wup HB.out)) : w.heap.size ≤ gb105)); clear HB; have HB := n0_; have BK105 := n1_; have GW105 := n2_; have GE105 := n3_; clear n0_ n1_ n2_ n3_; clear hb hbox hg))
 go_loopg [3] k (fun kq v3 w' => ∃ (x3_1 : Int), v3 = .int .i64 x3_1 ∧ Aside0 (R_Sheet.l0 kq x3_1 l0_0 a0_1 a0_2 a0_3 = some r) ∧ Aside0 (kq ≤ k) ∧ Aside0 (w'.heap[gb105]? = some (.cells #[(.slice A0_0 l0_0.length c0_0), .int .i64 a0_1, .int .i64 a0_2, .int .i64 a0_3] 26 (0, 0))) ∧ Aside0 (Below w.heap.size w w'))
 case atStart => exact ⟨(0), (by first | rfl | (simp; done) | (simp [*]; done)), H', ⟨Nat.le_refl _⟩, ⟨bup BK105.out⟩, ⟨by repeat (first | (with_reducible first | exact HB.out | apply below_alloc | apply pw_below_drewN | apply below_drew1 | refine below_set ?_ GE105.out) | exact HB.out)⟩⟩
 case round =>
  clear H'
  obtain ⟨x3_1, rfl, HA, HK1, BK105, HB⟩ := hrel
  cases gk with
  | zero => exact absurd HA.out (by simp [R_Sheet.l0])
  | succ k1 =>
   have H := HA.out
   clear HA
   simp only [R_Sheet.l0] at H
   by_cases c3 : x3_1 < (l0_0.length : Int)
   ·rw [if_pos c3] at H
    have c3b0 : decide (x3_1 < (l0_0.length : Int)) = true := decide_eq_true c3
    clear c3
    by_cases c4 : 0 ≤ x3_1
    ·rw [if_pos c4] at H
     have c4b0 : decide (0 ≤ x3_1) = true := decide_eq_true c4
     clear c4
     replace H := Option.bind_eq_some_iff.mp H
     obtain ⟨t107, A50, H⟩ := H
     replace H : (if t107 = true then (R_Sheet.l0 k1 (wrap64 (x3_1 + 1)) l0_0 a0_1 a0_2 a0_3) else (some false)) = some r := H
     have A5 := Aside0.mk A50
     clear A50
     by_cases c6 : t107 = true
     ·subst c6
      have H1 : (R_Sheet.l0 k1 (wrap64 (x3_1 + 1)) l0_0 a0_1 a0_2 a0_3) = some r := by rw [if_pos rfl] at H; exact H
      clear H
      have H := H1
      clear H1
      have H' := Aside0.mk H
      clear H
      have hcz7_0 : wr.cell? ⟨gb105, 0, none⟩ = some (.slice A0_0 l0_0.length c0_0) := (blk_cell BK105.out 0).trans rfl
      have hcz7_1 : wr.cell? ⟨gb105, 1, none⟩ = some (.int .i64 a0_1) := (blk_cell BK105.out 1).trans rfl
      have hcz7_2 : wr.cell? ⟨gb105, 2, none⟩ = some (.int .i64 a0_2) := (blk_cell BK105.out 2).trans rfl
      have hcz7_3 : wr.cell? ⟨gb105, 3, none⟩ = some (.int .i64 a0_3) := (blk_cell BK105.out 3).trans rfl
      have hfz7_0 := blk_frozen BK105.out 0
      have hfz7_1 := blk_frozen BK105.out 1
      have hfz7_2 := blk_frozen BK105.out 2
      have hfz7_3 := blk_frozen BK105.out 3
      have p106 : 0 ≤ (x3_1 : Int) := of_decide_eq_true (by first | (with_reducible assumption) | assumption)
      have q106 : x3_1 < (l0_0.length : Int) := of_decide_eq_true (by first | (with_reducible assumption) | assumption)
      obtain ⟨ad106, e106, hx106_0⟩ := Kd.at_int HR0_0.out x3_1 p106 q106
      cases e106
      replace hx106_0 := (HB.out.cell (World.block_lt_of_cell? w _ hx106_0)).trans hx106_0
      replace p106 := eq_true p106
      replace q106 := eq_true q106
      go_wp2_with (first | ((with_reducible refine gate_callee (f := 46) rfl ?_); refine goesL_ (some 16) rfl rfl Tryz.func46 (by kernel_rfl) rfl #[.int .i64 (rd l0_0 x3_1)] rfl (by (try simp only [List.map_toArray, List.map_cons, List.map_nil]); first | done | rfl | (simp only [List.length_drop, List.length_take]; rfl)) ?_; (with_reducible refine (R_Value.calls (rd l0_0 x3_1) true _ A5.out).mono ?_); rintro e w' ⟨rfl, ⟨nd, rfl⟩⟩; refine ⟨_, rfl, ?_⟩))
      go_roundg k1
      case measure => have := HK1.out; omega
      case rel => exact ⟨(wrap64 (x3_1 + 1)), (by first | rfl | (simp; done) | (simp [*]; done)), H', ⟨by have := HK1.out; omega⟩, ⟨bup BK105.out⟩, ⟨by repeat (first | (with_reducible first | exact HB.out | apply below_alloc | apply pw_below_drewN | apply below_drew1 | refine below_set ?_ GE105.out) | exact HB.out)⟩⟩
     ·replace c6 := Bool.eq_false_iff.mpr c6
      subst c6
      have H1 : (some false) = some r := by rw [if_neg (show ¬ (false = true) by decide)] at H; exact H
      clear H
      have H := H1
      clear H1
      obtain rfl := Option.some.inj H
      have hcz8_0 : wr.cell? ⟨gb105, 0, none⟩ = some (.slice A0_0 l0_0.length c0_0) := (blk_cell BK105.out 0).trans rfl
      have hcz8_1 : wr.cell? ⟨gb105, 1, none⟩ = some (.int .i64 a0_1) := (blk_cell BK105.out 1).trans rfl
      have hcz8_2 : wr.cell? ⟨gb105, 2, none⟩ = some (.int .i64 a0_2) := (blk_cell BK105.out 2).trans rfl
      have hcz8_3 : wr.cell? ⟨gb105, 3, none⟩ = some (.int .i64 a0_3) := (blk_cell BK105.out 3).trans rfl
      have hfz8_0 := blk_frozen BK105.out 0
      have hfz8_1 := blk_frozen BK105.out 1
      have hfz8_2 := blk_frozen BK105.out 2
      have hfz8_3 := blk_frozen BK105.out 3
      have p106 : 0 ≤ (x3_1 : Int) := of_decide_eq_true (by first | (with_reducible assumption) | assumption)
      have q106 : x3_1 < (l0_0.length : Int) := of_decide_eq_true (by first | (with_reducible assumption) | assumption)
      obtain ⟨ad106, e106, hx106_0⟩ := Kd.at_int HR0_0.out x3_1 p106 q106
      cases e106
      replace hx106_0 := (HB.out.cell (World.block_lt_of_cell? w _ hx106_0)).trans hx106_0
      replace p106 := eq_true p106
      replace q106 := eq_true q106
      go_wp2_with (first | ((with_reducible refine gate_callee (f := 46) rfl ?_); refine goesL_ (some 16) rfl rfl Tryz.func46 (by kernel_rfl) rfl #[.int .i64 (rd l0_0 x3_1)] rfl (by (try simp only [List.map_toArray, List.map_cons, List.map_nil]); first | done | rfl | (simp only [List.length_drop, List.length_take]; rfl)) ?_; (with_reducible refine (R_Value.calls (rd l0_0 x3_1) false _ A5.out).mono ?_); rintro e w' ⟨rfl, ⟨nd, rfl⟩⟩; refine ⟨_, rfl, ?_⟩))
      go_ret
      exact ⟨by first | rfl | (simp [errW_none, errW_some] <;> rfl) | (simp [*, errW_none, errW_some] <;> rfl), by repeat (first | (with_reducible first | exact HB.out | apply below_alloc | apply pw_below_drewN | apply below_drew1 | refine below_set ?_ GE105.out) | exact HB.out)⟩
    ·rw [if_neg c4] at H
     exact absurd H (by simp)
   ·rw [if_neg c3] at H
    have c3b0 : decide (x3_1 < (l0_0.length : Int)) = false := decide_eq_false c3
    clear c3
    replace H := Option.bind_eq_some_iff.mp H
    obtain ⟨t108, A90, H⟩ := H
    replace H : (if t108 = true then ((R_in.f a0_1 1 3).bind fun t109 => (if t109 = true then ((R_Smooth.f a0_2 a0_3).bind fun t110 => (some t110)) else (some false))) else (some false)) = some r := H
    have A9 := Aside0.mk A90
    clear A90
    by_cases c10 : t108 = true
    ·subst c10
     have H1 : ((R_in.f a0_1 1 3).bind fun t109 => (if t109 = true then ((R_Smooth.f a0_2 a0_3).bind fun t110 => (some t110)) else (some false))) = some r := by rw [if_pos rfl] at H; exact H
     clear H
     have H := H1
     clear H1
     replace H := Option.bind_eq_some_iff.mp H
     obtain ⟨t109, A110, H⟩ := H
     replace H : (if t109 = true then ((R_Smooth.f a0_2 a0_3).bind fun t110 => (some t110)) else (some false)) = some r := H
     have A11 := Aside0.mk A110
     clear A110
     by_cases c12 : t109 = true
     ·subst c12
      have H1 : ((R_Smooth.f a0_2 a0_3).bind fun t110 => (some t110)) = some r := by rw [if_pos rfl] at H; exact H
      clear H
      have H := H1
      clear H1
      replace H := Option.bind_eq_some_iff.mp H
      obtain ⟨t110, A130, H⟩ := H
      replace H : (some t110) = some r := H
      have A13 := Aside0.mk A130
      clear A130
      obtain rfl := Option.some.inj H
      have hcz14_0 : wr.cell? ⟨gb105, 0, none⟩ = some (.slice A0_0 l0_0.length c0_0) := (blk_cell BK105.out 0).trans rfl
      have hcz14_1 : wr.cell? ⟨gb105, 1, none⟩ = some (.int .i64 a0_1) := (blk_cell BK105.out 1).trans rfl
      have hcz14_2 : wr.cell? ⟨gb105, 2, none⟩ = some (.int .i64 a0_2) := (blk_cell BK105.out 2).trans rfl
      have hcz14_3 : wr.cell? ⟨gb105, 3, none⟩ = some (.int .i64 a0_3) := (blk_cell BK105.out 3).trans rfl
      have hfz14_0 := blk_frozen BK105.out 0
      have hfz14_1 := blk_frozen BK105.out 1
      have hfz14_2 := blk_frozen BK105.out 2
      have hfz14_3 := blk_frozen BK105.out 3
      go_wp2_with (first | ((with_reducible refine gate_callee (f := 56) rfl ?_); refine goesL_ (some 21) rfl rfl Tryz.func56 (by kernel_rfl) rfl #[.int .i64 (l0_0.length : Int), .int .i64 1, .int .i64 14] rfl (by (try simp only [List.map_toArray, List.map_cons, List.map_nil]); first | done | rfl | (simp only [List.length_drop, List.length_take]; rfl)) ?_; (with_reducible refine (R_in.calls (l0_0.length : Int) 1 14 true _ A9.out).mono ?_); rintro e w' ⟨rfl, ⟨nd, rfl⟩⟩; refine ⟨_, rfl, ?_⟩) | (go_at_call 56; (with_reducible refine (R_in.calls a0_1 1 3 true _ A11.out).mono ?_); rintro e w' ⟨rfl, ⟨nd, rfl⟩⟩) | (go_at_call 20; (with_reducible refine (R_Smooth.calls a0_2 a0_3 t110 _ A13.out).mono ?_); rintro e w15 ⟨rfl, hb⟩; have n0_ := Aside0.mk (blk_below (g := gb105) (o := .cells #[.slice A0_0 l0_0.length c0_0, .int .i64 a0_1, .int .i64 a0_2, .int .i64 a0_3] 26 (0, 0)) (bup BK105.out) hb); have n1_ := Aside0.mk (below_step (by repeat (first | (with_reducible first | exact HB.out | apply below_alloc | apply pw_below_drewN | apply below_drew1 | refine below_set ?_ GE105.out) | exact HB.out)) hb); clear BK105; clear HB; have BK105 := n0_; have HB := n1_; clear n0_ n1_; (try clear hb); (try clear hb2); (try clear hk); (try clear hi)))
      go_ret
      exact ⟨by first | rfl | (simp [errW_none, errW_some] <;> rfl) | (simp [*, errW_none, errW_some] <;> rfl), by repeat (first | (with_reducible first | exact HB.out | apply below_alloc | apply pw_below_drewN | apply below_drew1 | refine below_set ?_ GE105.out) | exact HB.out)⟩
     ·replace c12 := Bool.eq_false_iff.mpr c12
      subst c12
      have H1 : (some false) = some r := by rw [if_neg (show ¬ (false = true) by decide)] at H; exact H
      clear H
      have H := H1
      clear H1
      obtain rfl := Option.some.inj H
      have hcz16_0 : wr.cell? ⟨gb105, 0, none⟩ = some (.slice A0_0 l0_0.length c0_0) := (blk_cell BK105.out 0).trans rfl
      have hcz16_1 : wr.cell? ⟨gb105, 1, none⟩ = some (.int .i64 a0_1) := (blk_cell BK105.out 1).trans rfl
      have hcz16_2 : wr.cell? ⟨gb105, 2, none⟩ = some (.int .i64 a0_2) := (blk_cell BK105.out 2).trans rfl
      have hcz16_3 : wr.cell? ⟨gb105, 3, none⟩ = some (.int .i64 a0_3) := (blk_cell BK105.out 3).trans rfl
      have hfz16_0 := blk_frozen BK105.out 0
      have hfz16_1 := blk_frozen BK105.out 1
      have hfz16_2 := blk_frozen BK105.out 2
      have hfz16_3 := blk_frozen BK105.out 3
      go_wp2_with (first | ((with_reducible refine gate_callee (f := 56) rfl ?_); refine goesL_ (some 21) rfl rfl Tryz.func56 (by kernel_rfl) rfl #[.int .i64 (l0_0.length : Int), .int .i64 1, .int .i64 14] rfl (by (try simp only [List.map_toArray, List.map_cons, List.map_nil]); first | done | rfl | (simp only [List.length_drop, List.length_take]; rfl)) ?_; (with_reducible refine (R_in.calls (l0_0.length : Int) 1 14 true _ A9.out).mono ?_); rintro e w' ⟨rfl, ⟨nd, rfl⟩⟩; refine ⟨_, rfl, ?_⟩) | (go_at_call 56; (with_reducible refine (R_in.calls a0_1 1 3 false _ A11.out).mono ?_); rintro e w' ⟨rfl, ⟨nd, rfl⟩⟩))
      go_ret
      exact ⟨by first | rfl | (simp [errW_none, errW_some] <;> rfl) | (simp [*, errW_none, errW_some] <;> rfl), by repeat (first | (with_reducible first | exact HB.out | apply below_alloc | apply pw_below_drewN | apply below_drew1 | refine below_set ?_ GE105.out) | exact HB.out)⟩
    ·replace c10 := Bool.eq_false_iff.mpr c10
     subst c10
     have H1 : (some false) = some r := by rw [if_neg (show ¬ (false = true) by decide)] at H; exact H
     clear H
     have H := H1
     clear H1
     obtain rfl := Option.some.inj H
     have hcz17_0 : wr.cell? ⟨gb105, 0, none⟩ = some (.slice A0_0 l0_0.length c0_0) := (blk_cell BK105.out 0).trans rfl
     have hcz17_1 : wr.cell? ⟨gb105, 1, none⟩ = some (.int .i64 a0_1) := (blk_cell BK105.out 1).trans rfl
     have hcz17_2 : wr.cell? ⟨gb105, 2, none⟩ = some (.int .i64 a0_2) := (blk_cell BK105.out 2).trans rfl
     have hcz17_3 : wr.cell? ⟨gb105, 3, none⟩ = some (.int .i64 a0_3) := (blk_cell BK105.out 3).trans rfl
     have hfz17_0 := blk_frozen BK105.out 0
     have hfz17_1 := blk_frozen BK105.out 1
     have hfz17_2 := blk_frozen BK105.out 2
     have hfz17_3 := blk_frozen BK105.out 3
     go_wp2_with (first | ((with_reducible refine gate_callee (f := 56) rfl ?_); refine goesL_ (some 21) rfl rfl Tryz.func56 (by kernel_rfl) rfl #[.int .i64 (l0_0.length : Int), .int .i64 1, .int .i64 14] rfl (by (try simp only [List.map_toArray, List.map_cons, List.map_nil]); first | done | rfl | (simp only [List.length_drop, List.length_take]; rfl)) ?_; (with_reducible refine (R_in.calls (l0_0.length : Int) 1 14 false _ A9.out).mono ?_); rintro e w' ⟨rfl, ⟨nd, rfl⟩⟩; refine ⟨_, rfl, ?_⟩))
     go_ret
     exact ⟨by first | rfl | (simp [errW_none, errW_some] <;> rfl) | (simp [*, errW_none, errW_some] <;> rfl), by repeat (first | (with_reducible first | exact HB.out | apply below_alloc | apply pw_below_drewN | apply below_drew1 | refine below_set ?_ GE105.out) | exact HB.out)⟩
end Go.Proofs.YtohlmoppcmjknaaGreatDoor.P
end
section
namespace Go.Proofs.YtohlmoppcmjknaaGreatDoor.P
open Go.RowKit Go.Proofs.YtohlmoppcmjknaaGreatDoorW.PrintWords Go.Proofs.YtohlmoppcmjknaaGreatDoorW.PrintLast Go.Proofs.YtohlmoppcmjknaaGreatDoorW.PrintMore
attribute [local go_sem] max2_int min2_int max_two min_two max_three min_three max_four min_four
set_option linter.unusedVariables false
set_option linter.unusedSimpArgs false
def L_short.f (l0_0 : List Int) (a0_1 : Int) (a0_2 : Int) (a0_3 : Int) : Option (Bool) := some (decide ((l0_0.length : Int) ≤ 17))
set_option maxHeartbeats 8000000 in
set_option maxRecDepth 100000 in
theorem L_short.calls (A0_0 : Option Addr) (c0_0 : Nat) (l0_0 : List Int) (a0_1 : Int) (a0_2 : Int) (a0_3 : Int) (r : Bool) (w : World) (hr0_0 : Kd.C (Kd.int .i64) w A0_0 l0_0.length l0_0) (hc0_0 : l0_0.length ≤ c0_0) (h : L_short.f l0_0 a0_1 a0_2 a0_3 = some r) :
  Calls Tryz.prog 53 #[.agg #[.slice A0_0 l0_0.length c0_0, .int .i64 a0_1, .int .i64 a0_2, .int .i64 a0_3]] w fun e w' => e = .returned (.bool r) ∧ Below w.heap.size w w' := by
 have hu26 := Tryz.underlying26
 have HR0_0 := Aside0.mk hr0_0
 have HC0_0 := Aside0.mk hc0_0
 clear hr0_0 hc0_0
 have HB := Aside0.mk (Below.refl w.heap.size w)
 have H : (some (decide ((l0_0.length : Int) ≤ 17))) = some r := h
 clear h
 obtain rfl := Option.some.inj H
 go_enter Tryz.func53, Tryz.ntmps53
 go_wp2_with (first | ((with_reducible refine gate_dst (N := 1) rfl ?_); refine box_event ?hg (N := 1) ?hd (cs := #[.slice A0_0 l0_0.length c0_0, .int .i64 a0_1, .int .i64 a0_2, .int .i64 a0_3]) (t := 26) ?hr ?_; (case hd => rfl); (case hg => rfl); (case hr => first | (go_simp; done) | (go_simp; rfl)); intro gb111 hg w2 hbox hb; have n0_ := Aside0.mk (below_step (wup HB.out) hb); have n1_ := Aside0.mk (hbox); have n2_ := Aside0.mk ((by rw [hg]; exact (below_size (wup HB.out)) : w.heap.size ≤ gb111)); have n3_ := Aside0.mk ((by rw [hg]; exact (below_size (wup HB.out)) : w.heap.size ≤ gb111)); clear HB; have HB := n0_; have BK111 := n1_; have GW111 := n2_; have GE111 := n3_; clear n0_ n1_ n2_ n3_; clear hb hbox hg; have hcz3_0 : w2.cell? ⟨gb111, 0, none⟩ = some (.slice A0_0 l0_0.length c0_0) := (blk_cell BK111.out 0).trans rfl; have hcz3_1 : w2.cell? ⟨gb111, 1, none⟩ = some (.int .i64 a0_1) := (blk_cell BK111.out 1).trans rfl; have hcz3_2 : w2.cell? ⟨gb111, 2, none⟩ = some (.int .i64 a0_2) := (blk_cell BK111.out 2).trans rfl; have hcz3_3 : w2.cell? ⟨gb111, 3, none⟩ = some (.int .i64 a0_3) := (blk_cell BK111.out 3).trans rfl; have hfz3_0 := blk_frozen BK111.out 0; have hfz3_1 := blk_frozen BK111.out 1; have hfz3_2 := blk_frozen BK111.out 2; have hfz3_3 := blk_frozen BK111.out 3))
 go_ret
 exact ⟨by first | rfl | (simp [errW_none, errW_some] <;> rfl) | (simp [*, errW_none, errW_some] <;> rfl), by repeat (first | (with_reducible first | exact HB.out | apply below_alloc | apply pw_below_drewN | apply below_drew1 | refine below_set ?_ GE111.out) | exact HB.out)⟩
end Go.Proofs.YtohlmoppcmjknaaGreatDoor.P
end
section
namespace Go.Proofs.YtohlmoppcmjknaaGreatDoor.P
open Go.RowKit Go.Proofs.YtohlmoppcmjknaaGreatDoorW.PrintWords Go.Proofs.YtohlmoppcmjknaaGreatDoorW.PrintLast Go.Proofs.YtohlmoppcmjknaaGreatDoorW.PrintMore
attribute [local go_sem] max2_int min2_int max_two min_two max_three min_three max_four min_four
set_option linter.unusedVariables false
set_option linter.unusedSimpArgs false
def L_right.f (k : Nat) (l0_0 : List Int) (a0_1 : Int) (a0_2 : Int) (a0_3 : Int) : Option (Bool) := (L_short.f l0_0 a0_1 a0_2 a0_3).bind fun t113 => (if t113 = true then ((R_Sheet.f k l0_0 a0_1 a0_2 a0_3).bind fun t114 => (some t114)) else (some false))
set_option maxHeartbeats 8000000 in
set_option maxRecDepth 100000 in
theorem L_right.calls (k : Nat) (A0_0 : Option Addr) (c0_0 : Nat) (l0_0 : List Int) (a0_1 : Int) (a0_2 : Int) (a0_3 : Int) (r : Bool) (w : World) (hr0_0 : Kd.C (Kd.int .i64) w A0_0 l0_0.length l0_0) (hc0_0 : l0_0.length ≤ c0_0) (h : L_right.f k l0_0 a0_1 a0_2 a0_3 = some r) :
  Calls Tryz.prog 15 #[.agg #[.slice A0_0 l0_0.length c0_0, .int .i64 a0_1, .int .i64 a0_2, .int .i64 a0_3]] w fun e w' => e = .returned (.bool r) ∧ Below w.heap.size w w' := by
 have hu26 := Tryz.underlying26
 have HR0_0 := Aside0.mk hr0_0
 have HC0_0 := Aside0.mk hc0_0
 clear hr0_0 hc0_0
 have HB := Aside0.mk (Below.refl w.heap.size w)
 have H : ((L_short.f l0_0 a0_1 a0_2 a0_3).bind fun t113 => (if t113 = true then ((R_Sheet.f k l0_0 a0_1 a0_2 a0_3).bind fun t114 => (some t114)) else (some false))) = some r := h
 clear h
 replace H := Option.bind_eq_some_iff.mp H
 obtain ⟨t113, A20, H⟩ := H
 replace H : (if t113 = true then ((R_Sheet.f k l0_0 a0_1 a0_2 a0_3).bind fun t114 => (some t114)) else (some false)) = some r := H
 have A2 := Aside0.mk A20
 clear A20
 by_cases c3 : t113 = true
 ·subst c3
  have H1 : ((R_Sheet.f k l0_0 a0_1 a0_2 a0_3).bind fun t114 => (some t114)) = some r := by rw [if_pos rfl] at H; exact H
  clear H
  have H := H1
  clear H1
  replace H := Option.bind_eq_some_iff.mp H
  obtain ⟨t114, A40, H⟩ := H
  replace H : (some t114) = some r := H
  have A4 := Aside0.mk A40
  clear A40
  obtain rfl := Option.some.inj H
  go_enter Tryz.func15, Tryz.ntmps15
  go_wp2_with (first | ((with_reducible refine gate_dst (N := 1) rfl ?_); refine box_event ?hg (N := 1) ?hd (cs := #[.slice A0_0 l0_0.length c0_0, .int .i64 a0_1, .int .i64 a0_2, .int .i64 a0_3]) (t := 26) ?hr ?_; (case hd => rfl); (case hg => rfl); (case hr => first | (go_simp; done) | (go_simp; rfl)); intro gb112 hg w5 hbox hb; have n0_ := Aside0.mk (below_step (wup HB.out) hb); have n1_ := Aside0.mk (hbox); have n2_ := Aside0.mk ((by rw [hg]; exact (below_size (wup HB.out)) : w.heap.size ≤ gb112)); have n3_ := Aside0.mk ((by rw [hg]; exact (below_size (wup HB.out)) : w.heap.size ≤ gb112)); clear HB; have HB := n0_; have BK112 := n1_; have GW112 := n2_; have GE112 := n3_; clear n0_ n1_ n2_ n3_; clear hb hbox hg; have hcz6_0 : w5.cell? ⟨gb112, 0, none⟩ = some (.slice A0_0 l0_0.length c0_0) := (blk_cell BK112.out 0).trans rfl; have hcz6_1 : w5.cell? ⟨gb112, 1, none⟩ = some (.int .i64 a0_1) := (blk_cell BK112.out 1).trans rfl; have hcz6_2 : w5.cell? ⟨gb112, 2, none⟩ = some (.int .i64 a0_2) := (blk_cell BK112.out 2).trans rfl; have hcz6_3 : w5.cell? ⟨gb112, 3, none⟩ = some (.int .i64 a0_3) := (blk_cell BK112.out 3).trans rfl; have hfz6_0 := blk_frozen BK112.out 0; have hfz6_1 := blk_frozen BK112.out 1; have hfz6_2 := blk_frozen BK112.out 2; have hfz6_3 := blk_frozen BK112.out 3) | ((with_reducible refine gate_callee (f := 53) rfl ?_); refine goesL_ (some 4) rfl rfl Tryz.func53 (by kernel_rfl) rfl #[.agg #[.slice A0_0 l0_0.length c0_0, .int .i64 a0_1, .int .i64 a0_2, .int .i64 a0_3]] rfl (by (try simp only [List.map_toArray, List.map_cons, List.map_nil]); first | done | rfl | (simp only [List.length_drop, List.length_take]; rfl)) ?_; (with_reducible refine (L_short.calls _ _ l0_0 a0_1 a0_2 a0_3 true _ ?side1 ?side2 A2.out).mono ?_); (case side1 => repeat (first | exact (Kd.C_below HR0_0.out HB.out) | (with_reducible refine Kd.C_alloc ?_ _) | (with_reducible refine Kd.C_drewN ?_ _) | (with_reducible refine Kd.C_drew ?_))); (case side2 => exact HC0_0.out); rintro e w7 ⟨rfl, hb⟩; refine ⟨_, rfl, ?_⟩; have n0_ := Aside0.mk (blk_below (g := gb112) (o := .cells #[.slice A0_0 l0_0.length c0_0, .int .i64 a0_1, .int .i64 a0_2, .int .i64 a0_3] 26 (0, 0)) (bup BK112.out) hb); have n1_ := Aside0.mk (below_step (by repeat (first | (with_reducible first | exact HB.out | apply below_alloc | apply pw_below_drewN | apply below_drew1 | refine below_set ?_ GE112.out) | exact HB.out)) hb); clear BK112; clear HB; have BK112 := n0_; have HB := n1_; clear n0_ n1_; (try clear hb); (try clear hb2); (try clear hk); (try clear hi); have hcz8_0 : w7.cell? ⟨gb112, 0, none⟩ = some (.slice A0_0 l0_0.length c0_0) := (blk_cell BK112.out 0).trans rfl; have hcz8_1 : w7.cell? ⟨gb112, 1, none⟩ = some (.int .i64 a0_1) := (blk_cell BK112.out 1).trans rfl; have hcz8_2 : w7.cell? ⟨gb112, 2, none⟩ = some (.int .i64 a0_2) := (blk_cell BK112.out 2).trans rfl; have hcz8_3 : w7.cell? ⟨gb112, 3, none⟩ = some (.int .i64 a0_3) := (blk_cell BK112.out 3).trans rfl; have hfz8_0 := blk_frozen BK112.out 0; have hfz8_1 := blk_frozen BK112.out 1; have hfz8_2 := blk_frozen BK112.out 2; have hfz8_3 := blk_frozen BK112.out 3) | (go_at_call 39; (with_reducible refine (R_Sheet.calls k _ _ l0_0 a0_1 a0_2 a0_3 t114 _ ?side1 ?side2 A4.out).mono ?_); (case side1 => repeat (first | exact (Kd.C_below HR0_0.out HB.out) | (with_reducible refine Kd.C_alloc ?_ _) | (with_reducible refine Kd.C_drewN ?_ _) | (with_reducible refine Kd.C_drew ?_))); (case side2 => exact HC0_0.out); rintro e w9 ⟨rfl, hb⟩; have n0_ := Aside0.mk (blk_below (g := gb112) (o := .cells #[.slice A0_0 l0_0.length c0_0, .int .i64 a0_1, .int .i64 a0_2, .int .i64 a0_3] 26 (0, 0)) (bup BK112.out) hb); have n1_ := Aside0.mk (below_step (by repeat (first | (with_reducible first | exact HB.out | apply below_alloc | apply pw_below_drewN | apply below_drew1 | refine below_set ?_ GE112.out) | exact HB.out)) hb); clear BK112; clear HB; have BK112 := n0_; have HB := n1_; clear n0_ n1_; (try clear hb); (try clear hb2); (try clear hk); (try clear hi)))
  go_ret
  exact ⟨by first | rfl | (simp [errW_none, errW_some] <;> rfl) | (simp [*, errW_none, errW_some] <;> rfl), by repeat (first | (with_reducible first | exact HB.out | apply below_alloc | apply pw_below_drewN | apply below_drew1 | refine below_set ?_ GE112.out) | exact HB.out)⟩
 ·replace c3 := Bool.eq_false_iff.mpr c3
  subst c3
  have H1 : (some false) = some r := by rw [if_neg (show ¬ (false = true) by decide)] at H; exact H
  clear H
  have H := H1
  clear H1
  obtain rfl := Option.some.inj H
  go_enter Tryz.func15, Tryz.ntmps15
  go_wp2_with (first | ((with_reducible refine gate_dst (N := 1) rfl ?_); refine box_event ?hg (N := 1) ?hd (cs := #[.slice A0_0 l0_0.length c0_0, .int .i64 a0_1, .int .i64 a0_2, .int .i64 a0_3]) (t := 26) ?hr ?_; (case hd => rfl); (case hg => rfl); (case hr => first | (go_simp; done) | (go_simp; rfl)); intro gb112 hg w10 hbox hb; have n0_ := Aside0.mk (below_step (wup HB.out) hb); have n1_ := Aside0.mk (hbox); have n2_ := Aside0.mk ((by rw [hg]; exact (below_size (wup HB.out)) : w.heap.size ≤ gb112)); have n3_ := Aside0.mk ((by rw [hg]; exact (below_size (wup HB.out)) : w.heap.size ≤ gb112)); clear HB; have HB := n0_; have BK112 := n1_; have GW112 := n2_; have GE112 := n3_; clear n0_ n1_ n2_ n3_; clear hb hbox hg; have hcz11_0 : w10.cell? ⟨gb112, 0, none⟩ = some (.slice A0_0 l0_0.length c0_0) := (blk_cell BK112.out 0).trans rfl; have hcz11_1 : w10.cell? ⟨gb112, 1, none⟩ = some (.int .i64 a0_1) := (blk_cell BK112.out 1).trans rfl; have hcz11_2 : w10.cell? ⟨gb112, 2, none⟩ = some (.int .i64 a0_2) := (blk_cell BK112.out 2).trans rfl; have hcz11_3 : w10.cell? ⟨gb112, 3, none⟩ = some (.int .i64 a0_3) := (blk_cell BK112.out 3).trans rfl; have hfz11_0 := blk_frozen BK112.out 0; have hfz11_1 := blk_frozen BK112.out 1; have hfz11_2 := blk_frozen BK112.out 2; have hfz11_3 := blk_frozen BK112.out 3) | ((with_reducible refine gate_callee (f := 53) rfl ?_); refine goesL_ (some 4) rfl rfl Tryz.func53 (by kernel_rfl) rfl #[.agg #[.slice A0_0 l0_0.length c0_0, .int .i64 a0_1, .int .i64 a0_2, .int .i64 a0_3]] rfl (by (try simp only [List.map_toArray, List.map_cons, List.map_nil]); first | done | rfl | (simp only [List.length_drop, List.length_take]; rfl)) ?_; (with_reducible refine (L_short.calls _ _ l0_0 a0_1 a0_2 a0_3 false _ ?side1 ?side2 A2.out).mono ?_); (case side1 => repeat (first | exact (Kd.C_below HR0_0.out HB.out) | (with_reducible refine Kd.C_alloc ?_ _) | (with_reducible refine Kd.C_drewN ?_ _) | (with_reducible refine Kd.C_drew ?_))); (case side2 => exact HC0_0.out); rintro e w12 ⟨rfl, hb⟩; refine ⟨_, rfl, ?_⟩; have n0_ := Aside0.mk (blk_below (g := gb112) (o := .cells #[.slice A0_0 l0_0.length c0_0, .int .i64 a0_1, .int .i64 a0_2, .int .i64 a0_3] 26 (0, 0)) (bup BK112.out) hb); have n1_ := Aside0.mk (below_step (by repeat (first | (with_reducible first | exact HB.out | apply below_alloc | apply pw_below_drewN | apply below_drew1 | refine below_set ?_ GE112.out) | exact HB.out)) hb); clear BK112; clear HB; have BK112 := n0_; have HB := n1_; clear n0_ n1_; (try clear hb); (try clear hb2); (try clear hk); (try clear hi)))
  go_ret
  exact ⟨by first | rfl | (simp [errW_none, errW_some] <;> rfl) | (simp [*, errW_none, errW_some] <;> rfl), by repeat (first | (with_reducible first | exact HB.out | apply below_alloc | apply pw_below_drewN | apply below_drew1 | refine below_set ?_ GE112.out) | exact HB.out)⟩
end Go.Proofs.YtohlmoppcmjknaaGreatDoor.P
end
section
namespace Go.Proofs.YtohlmoppcmjknaaGreatDoor.P
open Go.RowKit Go.Proofs.YtohlmoppcmjknaaGreatDoorW.PrintWords Go.Proofs.YtohlmoppcmjknaaGreatDoorW.PrintLast Go.Proofs.YtohlmoppcmjknaaGreatDoorW.PrintMore
attribute [local go_sem] max2_int min2_int max_two min_two max_three min_three max_four min_four
set_option linter.unusedVariables false
set_option linter.unusedSimpArgs false
def R_Rising.l0 : Nat → List Int → Int → Int → Option (Bool)
 | 0, _, _, _ => none
 | k + 1, x0, x1, x5 => if x5 < (x0.length : Int) then (if 0 ≤ x5 then ((R_in.f (rd x0 x5) 0 x1).bind fun t225 => (if t225 = true then (if x5 > 0 then (if 0 ≤ (wrap64 (x5 - 1)) then (if (wrap64 (x5 - 1)) < (x0.length : Int) then (if (rd x0 x5) ≤ (rd x0 (wrap64 (x5 - 1))) then (some false) else (R_Rising.l0 k x0 x1 (wrap64 (x5 + 1)))) else (none)) else (none)) else (R_Rising.l0 k x0 x1 (wrap64 (x5 + 1)))) else (some false))) else (none)) else (some true)
def R_Rising.f (k : Nat) (l0 : List Int) (a1 : Int) : Option (Bool) := R_Rising.l0 k l0 a1 0
set_option maxHeartbeats 8000000 in
set_option maxRecDepth 100000 in
theorem R_Rising.calls (k : Nat) (A0 : Option Addr) (c0 : Nat) (l0 : List Int) (a1 : Int) (r : Bool) (w : World) (hr0 : Kd.C (Kd.int .i64) w A0 l0.length l0) (hc0 : l0.length ≤ c0) (h : R_Rising.f k l0 a1 = some r) :
  Calls Tryz.prog 27 #[.slice A0 l0.length c0, .int .i64 a1] w fun e w' => e = .returned (.bool r) ∧ Drawn0 w w' := by
 have HR0 := Aside0.mk hr0
 have HC0 := Aside0.mk hc0
 clear hr0 hc0
 have H : (R_Rising.l0 k l0 a1 0) = some r := h
 clear h
 have H' := Aside0.mk H
 clear H
 go_enter Tryz.func27, Tryz.ntmps27
 go_wp2
 repeat (go_quiet (fail); try go_wp2)
 go_loopg [5] k (fun kq v5 w' => ∃ (x5_1 : Int), v5 = .int .i64 x5_1 ∧ Aside0 (R_Rising.l0 kq l0 a1 x5_1 = some r) ∧ Aside0 (kq ≤ k) ∧ Drawn0 w w')
 case atStart => exact ⟨(0), (by first | rfl | (simp; done) | (simp [*]; done)), H', ⟨Nat.le_refl _⟩, by repeat (first | exact Drawn0.refl _ | apply Drawn0.step)⟩
 case round =>
  clear H'
  obtain ⟨x5_1, rfl, HA, HK1, ⟨m1, rfl⟩⟩ := hrel
  cases gk with
  | zero => exact absurd HA.out (by simp [R_Rising.l0])
  | succ k1 =>
   have H := HA.out
   clear HA
   simp only [R_Rising.l0] at H
   by_cases c3 : x5_1 < (l0.length : Int)
   ·rw [if_pos c3] at H
    have c3b0 : decide (x5_1 < (l0.length : Int)) = true := decide_eq_true c3
    clear c3
    by_cases c4 : 0 ≤ x5_1
    ·rw [if_pos c4] at H
     have c4b0 : decide (0 ≤ x5_1) = true := decide_eq_true c4
     clear c4
     replace H := Option.bind_eq_some_iff.mp H
     obtain ⟨t225, A50, H⟩ := H
     replace H : (if t225 = true then (if x5_1 > 0 then (if 0 ≤ (wrap64 (x5_1 - 1)) then (if (wrap64 (x5_1 - 1)) < (l0.length : Int) then (if (rd l0 x5_1) ≤ (rd l0 (wrap64 (x5_1 - 1))) then (some false) else (R_Rising.l0 k1 l0 a1 (wrap64 (x5_1 + 1)))) else (none)) else (none)) else (R_Rising.l0 k1 l0 a1 (wrap64 (x5_1 + 1)))) else (some false)) = some r := H
     have A5 := Aside0.mk A50
     clear A50
     by_cases c6 : t225 = true
     ·subst c6
      have H1 : (if x5_1 > 0 then (if 0 ≤ (wrap64 (x5_1 - 1)) then (if (wrap64 (x5_1 - 1)) < (l0.length : Int) then (if (rd l0 x5_1) ≤ (rd l0 (wrap64 (x5_1 - 1))) then (some false) else (R_Rising.l0 k1 l0 a1 (wrap64 (x5_1 + 1)))) else (none)) else (none)) else (R_Rising.l0 k1 l0 a1 (wrap64 (x5_1 + 1)))) = some r := by rw [if_pos rfl] at H; exact H
      clear H
      have H := H1
      clear H1
      by_cases c7 : x5_1 > 0
      ·rw [if_pos c7] at H
       have c7b0 : decide (0 < x5_1) = true := decide_eq_true c7
       clear c7
       obtain ⟨ji8, hji8⟩ : ∃ j_ : Int, (wrap64 (x5_1 - 1)) = j_ := ⟨_, rfl⟩
       replace H : (if 0 ≤ (ji8) then (if (ji8) < (l0.length : Int) then (if (rd l0 x5_1) ≤ (rd l0 (ji8)) then (some false) else (R_Rising.l0 k1 l0 a1 (wrap64 (x5_1 + 1)))) else (none)) else (none)) = some r := by first | (rw [hji8] at H; exact H) | (simp only [hji8] at H ⊢; exact H)
       (try rw [hji8] at A5)
       have hji8w : (IntKind.i64.wrap (x5_1 - 1)) = ji8 := (i64_w _).trans hji8
       by_cases c9 : 0 ≤ (ji8)
       ·rw [if_pos c9] at H
        have c9b0 : decide (0 ≤ (ji8)) = true := decide_eq_true c9
        clear c9
        by_cases c10 : (ji8) < (l0.length : Int)
        ·rw [if_pos c10] at H
         have c10b0 : decide ((ji8) < (l0.length : Int)) = true := decide_eq_true c10
         clear c10
         by_cases c11 : (rd l0 x5_1) ≤ (rd l0 (ji8))
         ·rw [if_pos c11] at H
          have c11b0 : decide ((rd l0 x5_1) ≤ (rd l0 (ji8))) = true := decide_eq_true c11
          clear c11
          obtain rfl := Option.some.inj H
          have p224 : 0 ≤ (x5_1 : Int) := of_decide_eq_true (by first | (with_reducible assumption) | assumption)
          have q224 : x5_1 < (l0.length : Int) := of_decide_eq_true (by first | (with_reducible assumption) | assumption)
          obtain ⟨ad224, e224, hx224_0⟩ := Kd.at_int HR0.out x5_1 p224 q224
          cases e224
          replace p224 := eq_true p224
          replace q224 := eq_true q224
          go_wp2_with (first | (go_at_call 56; (with_reducible refine (R_in.calls (rd l0 x5_1) 0 a1 true _ A5.out).mono ?_); rintro e w' ⟨rfl, ⟨nd, rfl⟩⟩; (try first | exact ⟨rfl, _, World.drewN_drewN _ _ _⟩ | exact ⟨rfl, _, Eq.trans (World.drewN_drewN _ _ _) (congrArg (World.drewN _) (Nat.add_assoc _ _ _))⟩); have p226 : 0 ≤ (x5_1 : Int) := of_decide_eq_true (by first | (with_reducible assumption) | assumption); have q226 : x5_1 < (l0.length : Int) := of_decide_eq_true (by first | (with_reducible assumption) | assumption); obtain ⟨ad226, e226, hx226_0⟩ := Kd.at_int HR0.out x5_1 p226 q226; obtain rfl : ad224 = ad226 := (by injection e226); replace p226 := eq_true p226; replace q226 := eq_true q226; have p227 : 0 ≤ ((ji8) : Int) := of_decide_eq_true (by first | (with_reducible assumption) | assumption); have q227 : (ji8) < (l0.length : Int) := of_decide_eq_true (by first | (with_reducible assumption) | assumption); obtain ⟨ad227, e227, hx227_0⟩ := Kd.at_int HR0.out (ji8) p227 q227; obtain rfl : ad224 = ad227 := (by injection e227); replace p227 := eq_true p227; replace q227 := eq_true q227))
          repeat (go_quiet (first | (go_at_call 56; (with_reducible refine (R_in.calls (rd l0 x5_1) 0 a1 true _ A5.out).mono ?_); rintro e w' ⟨rfl, ⟨nd, rfl⟩⟩; (try first | exact ⟨rfl, _, World.drewN_drewN _ _ _⟩ | exact ⟨rfl, _, Eq.trans (World.drewN_drewN _ _ _) (congrArg (World.drewN _) (Nat.add_assoc _ _ _))⟩); have p226 : 0 ≤ (x5_1 : Int) := of_decide_eq_true (by first | (with_reducible assumption) | assumption); have q226 : x5_1 < (l0.length : Int) := of_decide_eq_true (by first | (with_reducible assumption) | assumption); obtain ⟨ad226, e226, hx226_0⟩ := Kd.at_int HR0.out x5_1 p226 q226; obtain rfl : ad224 = ad226 := (by injection e226); replace p226 := eq_true p226; replace q226 := eq_true q226; have p227 : 0 ≤ ((ji8) : Int) := of_decide_eq_true (by first | (with_reducible assumption) | assumption); have q227 : (ji8) < (l0.length : Int) := of_decide_eq_true (by first | (with_reducible assumption) | assumption); obtain ⟨ad227, e227, hx227_0⟩ := Kd.at_int HR0.out (ji8) p227 q227; obtain rfl : ad224 = ad227 := (by injection e227); replace p227 := eq_true p227; replace q227 := eq_true q227)); try go_wp2_with (first | (go_at_call 56; (with_reducible refine (R_in.calls (rd l0 x5_1) 0 a1 true _ A5.out).mono ?_); rintro e w' ⟨rfl, ⟨nd, rfl⟩⟩; (try first | exact ⟨rfl, _, World.drewN_drewN _ _ _⟩ | exact ⟨rfl, _, Eq.trans (World.drewN_drewN _ _ _) (congrArg (World.drewN _) (Nat.add_assoc _ _ _))⟩); have p226 : 0 ≤ (x5_1 : Int) := of_decide_eq_true (by first | (with_reducible assumption) | assumption); have q226 : x5_1 < (l0.length : Int) := of_decide_eq_true (by first | (with_reducible assumption) | assumption); obtain ⟨ad226, e226, hx226_0⟩ := Kd.at_int HR0.out x5_1 p226 q226; obtain rfl : ad224 = ad226 := (by injection e226); replace p226 := eq_true p226; replace q226 := eq_true q226; have p227 : 0 ≤ ((ji8) : Int) := of_decide_eq_true (by first | (with_reducible assumption) | assumption); have q227 : (ji8) < (l0.length : Int) := of_decide_eq_true (by first | (with_reducible assumption) | assumption); obtain ⟨ad227, e227, hx227_0⟩ := Kd.at_int HR0.out (ji8) p227 q227; obtain rfl : ad224 = ad227 := (by injection e227); replace p227 := eq_true p227; replace q227 := eq_true q227)))
          go_ret
          exact ⟨by first | rfl | (simp; done) | (simp only [← hji8] <;> (first | rfl | simp)) | (simp [*]; done), by repeat (first | exact Drawn0.refl _ | apply Drawn0.step)⟩
         ·rw [if_neg c11] at H
          have c11b0 : decide ((rd l0 x5_1) ≤ (rd l0 (ji8))) = false := decide_eq_false c11
          clear c11
          have H' := Aside0.mk H
          clear H
          have p224 : 0 ≤ (x5_1 : Int) := of_decide_eq_true (by first | (with_reducible assumption) | assumption)
          have q224 : x5_1 < (l0.length : Int) := of_decide_eq_true (by first | (with_reducible assumption) | assumption)
          obtain ⟨ad224, e224, hx224_0⟩ := Kd.at_int HR0.out x5_1 p224 q224
          cases e224
          replace p224 := eq_true p224
          replace q224 := eq_true q224
          go_wp2_with (first | (go_at_call 56; (with_reducible refine (R_in.calls (rd l0 x5_1) 0 a1 true _ A5.out).mono ?_); rintro e w' ⟨rfl, ⟨nd, rfl⟩⟩; (try first | exact ⟨rfl, _, World.drewN_drewN _ _ _⟩ | exact ⟨rfl, _, Eq.trans (World.drewN_drewN _ _ _) (congrArg (World.drewN _) (Nat.add_assoc _ _ _))⟩); have p226 : 0 ≤ (x5_1 : Int) := of_decide_eq_true (by first | (with_reducible assumption) | assumption); have q226 : x5_1 < (l0.length : Int) := of_decide_eq_true (by first | (with_reducible assumption) | assumption); obtain ⟨ad226, e226, hx226_0⟩ := Kd.at_int HR0.out x5_1 p226 q226; obtain rfl : ad224 = ad226 := (by injection e226); replace p226 := eq_true p226; replace q226 := eq_true q226; have p227 : 0 ≤ ((ji8) : Int) := of_decide_eq_true (by first | (with_reducible assumption) | assumption); have q227 : (ji8) < (l0.length : Int) := of_decide_eq_true (by first | (with_reducible assumption) | assumption); obtain ⟨ad227, e227, hx227_0⟩ := Kd.at_int HR0.out (ji8) p227 q227; obtain rfl : ad224 = ad227 := (by injection e227); replace p227 := eq_true p227; replace q227 := eq_true q227))
          repeat (go_quiet (first | (go_at_call 56; (with_reducible refine (R_in.calls (rd l0 x5_1) 0 a1 true _ A5.out).mono ?_); rintro e w' ⟨rfl, ⟨nd, rfl⟩⟩; (try first | exact ⟨rfl, _, World.drewN_drewN _ _ _⟩ | exact ⟨rfl, _, Eq.trans (World.drewN_drewN _ _ _) (congrArg (World.drewN _) (Nat.add_assoc _ _ _))⟩); have p226 : 0 ≤ (x5_1 : Int) := of_decide_eq_true (by first | (with_reducible assumption) | assumption); have q226 : x5_1 < (l0.length : Int) := of_decide_eq_true (by first | (with_reducible assumption) | assumption); obtain ⟨ad226, e226, hx226_0⟩ := Kd.at_int HR0.out x5_1 p226 q226; obtain rfl : ad224 = ad226 := (by injection e226); replace p226 := eq_true p226; replace q226 := eq_true q226; have p227 : 0 ≤ ((ji8) : Int) := of_decide_eq_true (by first | (with_reducible assumption) | assumption); have q227 : (ji8) < (l0.length : Int) := of_decide_eq_true (by first | (with_reducible assumption) | assumption); obtain ⟨ad227, e227, hx227_0⟩ := Kd.at_int HR0.out (ji8) p227 q227; obtain rfl : ad224 = ad227 := (by injection e227); replace p227 := eq_true p227; replace q227 := eq_true q227)); try go_wp2_with (first | (go_at_call 56; (with_reducible refine (R_in.calls (rd l0 x5_1) 0 a1 true _ A5.out).mono ?_); rintro e w' ⟨rfl, ⟨nd, rfl⟩⟩; (try first | exact ⟨rfl, _, World.drewN_drewN _ _ _⟩ | exact ⟨rfl, _, Eq.trans (World.drewN_drewN _ _ _) (congrArg (World.drewN _) (Nat.add_assoc _ _ _))⟩); have p226 : 0 ≤ (x5_1 : Int) := of_decide_eq_true (by first | (with_reducible assumption) | assumption); have q226 : x5_1 < (l0.length : Int) := of_decide_eq_true (by first | (with_reducible assumption) | assumption); obtain ⟨ad226, e226, hx226_0⟩ := Kd.at_int HR0.out x5_1 p226 q226; obtain rfl : ad224 = ad226 := (by injection e226); replace p226 := eq_true p226; replace q226 := eq_true q226; have p227 : 0 ≤ ((ji8) : Int) := of_decide_eq_true (by first | (with_reducible assumption) | assumption); have q227 : (ji8) < (l0.length : Int) := of_decide_eq_true (by first | (with_reducible assumption) | assumption); obtain ⟨ad227, e227, hx227_0⟩ := Kd.at_int HR0.out (ji8) p227 q227; obtain rfl : ad224 = ad227 := (by injection e227); replace p227 := eq_true p227; replace q227 := eq_true q227)))
          go_roundg k1
          case measure => have := HK1.out; omega
          case rel => exact ⟨(wrap64 (x5_1 + 1)), (by first | rfl | (simp; done) | (simp [*]; done)), H', ⟨by have := HK1.out; omega⟩, by repeat (first | exact Drawn0.refl _ | apply Drawn0.step)⟩
        ·rw [if_neg c10] at H
         exact absurd H (by simp)
       ·rw [if_neg c9] at H
        exact absurd H (by simp)
      ·rw [if_neg c7] at H
       have c7b0 : decide (0 < x5_1) = false := decide_eq_false c7
       clear c7
       have H' := Aside0.mk H
       clear H
       have p224 : 0 ≤ (x5_1 : Int) := of_decide_eq_true (by first | (with_reducible assumption) | assumption)
       have q224 : x5_1 < (l0.length : Int) := of_decide_eq_true (by first | (with_reducible assumption) | assumption)
       obtain ⟨ad224, e224, hx224_0⟩ := Kd.at_int HR0.out x5_1 p224 q224
       cases e224
       replace p224 := eq_true p224
       replace q224 := eq_true q224
       go_wp2_with (first | (go_at_call 56; (with_reducible refine (R_in.calls (rd l0 x5_1) 0 a1 true _ A5.out).mono ?_); rintro e w' ⟨rfl, ⟨nd, rfl⟩⟩; (try first | exact ⟨rfl, _, World.drewN_drewN _ _ _⟩ | exact ⟨rfl, _, Eq.trans (World.drewN_drewN _ _ _) (congrArg (World.drewN _) (Nat.add_assoc _ _ _))⟩)))
       repeat (go_quiet (first | (go_at_call 56; (with_reducible refine (R_in.calls (rd l0 x5_1) 0 a1 true _ A5.out).mono ?_); rintro e w' ⟨rfl, ⟨nd, rfl⟩⟩; (try first | exact ⟨rfl, _, World.drewN_drewN _ _ _⟩ | exact ⟨rfl, _, Eq.trans (World.drewN_drewN _ _ _) (congrArg (World.drewN _) (Nat.add_assoc _ _ _))⟩))); try go_wp2_with (first | (go_at_call 56; (with_reducible refine (R_in.calls (rd l0 x5_1) 0 a1 true _ A5.out).mono ?_); rintro e w' ⟨rfl, ⟨nd, rfl⟩⟩; (try first | exact ⟨rfl, _, World.drewN_drewN _ _ _⟩ | exact ⟨rfl, _, Eq.trans (World.drewN_drewN _ _ _) (congrArg (World.drewN _) (Nat.add_assoc _ _ _))⟩))))
       go_roundg k1
       case measure => have := HK1.out; omega
       case rel => exact ⟨(wrap64 (x5_1 + 1)), (by first | rfl | (simp; done) | (simp [*]; done)), H', ⟨by have := HK1.out; omega⟩, by repeat (first | exact Drawn0.refl _ | apply Drawn0.step)⟩
     ·replace c6 := Bool.eq_false_iff.mpr c6
      subst c6
      have H1 : (some false) = some r := by rw [if_neg (show ¬ (false = true) by decide)] at H; exact H
      clear H
      have H := H1
      clear H1
      obtain rfl := Option.some.inj H
      have p224 : 0 ≤ (x5_1 : Int) := of_decide_eq_true (by first | (with_reducible assumption) | assumption)
      have q224 : x5_1 < (l0.length : Int) := of_decide_eq_true (by first | (with_reducible assumption) | assumption)
      obtain ⟨ad224, e224, hx224_0⟩ := Kd.at_int HR0.out x5_1 p224 q224
      cases e224
      replace p224 := eq_true p224
      replace q224 := eq_true q224
      go_wp2_with (first | (go_at_call 56; (with_reducible refine (R_in.calls (rd l0 x5_1) 0 a1 false _ A5.out).mono ?_); rintro e w' ⟨rfl, ⟨nd, rfl⟩⟩; (try first | exact ⟨rfl, _, World.drewN_drewN _ _ _⟩ | exact ⟨rfl, _, Eq.trans (World.drewN_drewN _ _ _) (congrArg (World.drewN _) (Nat.add_assoc _ _ _))⟩)))
      repeat (go_quiet (first | (go_at_call 56; (with_reducible refine (R_in.calls (rd l0 x5_1) 0 a1 false _ A5.out).mono ?_); rintro e w' ⟨rfl, ⟨nd, rfl⟩⟩; (try first | exact ⟨rfl, _, World.drewN_drewN _ _ _⟩ | exact ⟨rfl, _, Eq.trans (World.drewN_drewN _ _ _) (congrArg (World.drewN _) (Nat.add_assoc _ _ _))⟩))); try go_wp2_with (first | (go_at_call 56; (with_reducible refine (R_in.calls (rd l0 x5_1) 0 a1 false _ A5.out).mono ?_); rintro e w' ⟨rfl, ⟨nd, rfl⟩⟩; (try first | exact ⟨rfl, _, World.drewN_drewN _ _ _⟩ | exact ⟨rfl, _, Eq.trans (World.drewN_drewN _ _ _) (congrArg (World.drewN _) (Nat.add_assoc _ _ _))⟩))))
      go_ret
      exact ⟨by first | rfl | (simp; done) | (simp [*]; done), by repeat (first | exact Drawn0.refl _ | apply Drawn0.step)⟩
    ·rw [if_neg c4] at H
     exact absurd H (by simp)
   ·rw [if_neg c3] at H
    have c3b0 : decide (x5_1 < (l0.length : Int)) = false := decide_eq_false c3
    clear c3
    obtain rfl := Option.some.inj H
    go_wp2
    repeat (go_quiet (fail); try go_wp2)
    go_ret
    exact ⟨by first | rfl | (simp; done) | (simp [*]; done), by repeat (first | exact Drawn0.refl _ | apply Drawn0.step)⟩
end Go.Proofs.YtohlmoppcmjknaaGreatDoor.P
end
section
namespace Go.Proofs.YtohlmoppcmjknaaGreatDoor.P
open Go.RowKit Go.Proofs.YtohlmoppcmjknaaGreatDoorW.PrintWords Go.Proofs.YtohlmoppcmjknaaGreatDoorW.PrintLast Go.Proofs.YtohlmoppcmjknaaGreatDoorW.PrintMore
attribute [local go_sem] max2_int min2_int max_two min_two max_three min_three max_four min_four
set_option linter.unusedVariables false
set_option linter.unusedSimpArgs false
mutual
def R_Covers.l0 : Nat → List Int → List Int → Int → List Int → Int → Int → Int → Option (Bool)
 | 0, _, _, _, _, _, _, _ => none
 | k + 1, x1, x2, x7, x244000, x244001, x244002, x244003 => if x7 < (x2.length : Int) then (R_Covers.l1 k x1 x2 x7 false 0 x244000 x244001 x244002 x244003) else (some true)
def R_Covers.l1 : Nat → List Int → List Int → Int → Bool → Int → List Int → Int → Int → Int → Option (Bool)
 | 0, _, _, _, _, _, _, _, _, _ => none
 | k + 1, x1, x2, x7, x8, x9, x244000, x244001, x244002, x244003 => if x9 < (x1.length : Int) then (if x8 = true then (R_Covers.l1 k x1 x2 x7 true (wrap64 (x9 + 1)) x244000 x244001 x244002 x244003) else (if 0 ≤ x9 then (if 0 ≤ x7 then (if x7 < (x2.length : Int) then ((R_in.f (rd x1 x9) (rd x2 x7) (wrap64 ((rd x2 x7) + x244001))).bind fun t247 => (R_Covers.l1 k x1 x2 x7 t247 (wrap64 (x9 + 1)) x244000 x244001 x244002 x244003)) else (none)) else (none)) else (none))) else (if x8 = true then (R_Covers.l0 k x1 x2 (wrap64 (x7 + 1)) x244000 x244001 x244002 x244003) else (some false))
end
def R_Covers.f (k : Nat) (l0_0 : List Int) (a0_1 : Int) (a0_2 : Int) (a0_3 : Int) (l1 : List Int) (l2 : List Int) : Option (Bool) := R_Covers.l0 k l1 l2 0 l0_0 a0_1 a0_2 a0_3
set_option maxHeartbeats 8000000 in
set_option maxRecDepth 100000 in
theorem R_Covers.calls (k : Nat) (A0_0 : Option Addr) (c0_0 : Nat) (l0_0 : List Int) (a0_1 : Int) (a0_2 : Int) (a0_3 : Int) (A1 : Option Addr) (c1 : Nat) (l1 : List Int) (A2 : Option Addr) (c2 : Nat) (l2 : List Int) (r : Bool) (w : World) (hr0_0 : Kd.C (Kd.int .i64) w A0_0 l0_0.length l0_0) (hc0_0 : l0_0.length ≤ c0_0) (hr1 : Kd.C (Kd.int .i64) w A1 l1.length l1) (hc1 : l1.length ≤ c1) (hr2 : Kd.C (Kd.int .i64) w A2 l2.length l2) (hc2 : l2.length ≤ c2) (h : R_Covers.f k l0_0 a0_1 a0_2 a0_3 l1 l2 = some r) :
  Calls Tryz.prog 31 #[.agg #[.slice A0_0 l0_0.length c0_0, .int .i64 a0_1, .int .i64 a0_2, .int .i64 a0_3], .slice A1 l1.length c1, .slice A2 l2.length c2] w fun e w' => e = .returned (.bool r) ∧ Below w.heap.size w w' := by
 have hu26 := Tryz.underlying26
 have HR0_0 := Aside0.mk hr0_0
 have HC0_0 := Aside0.mk hc0_0
 clear hr0_0 hc0_0
 have HR1 := Aside0.mk hr1
 have HC1 := Aside0.mk hc1
 clear hr1 hc1
 have HR2 := Aside0.mk hr2
 have HC2 := Aside0.mk hc2
 clear hr2 hc2
 have HB := Aside0.mk (Below.refl w.heap.size w)
 have H : (R_Covers.l0 k l1 l2 0 l0_0 a0_1 a0_2 a0_3) = some r := h
 clear h
 have H' := Aside0.mk H
 clear H
 go_enter Tryz.func31, Tryz.ntmps31
 go_wp2_with (first | ((with_reducible refine gate_dst (N := 3) rfl ?_); refine box_event ?hg (N := 3) ?hd (cs := #[.slice A0_0 l0_0.length c0_0, .int .i64 a0_1, .int .i64 a0_2, .int .i64 a0_3]) (t := 26) ?hr ?_; (case hd => rfl); (case hg => rfl); (case hr => first | (go_simp; done) | (go_simp; rfl)); intro gb243 hg w4 hbox hb; have n0_ := Aside0.mk (below_step (wup HB.out) hb); have n1_ := Aside0.mk (hbox); have n2_ := Aside0.mk ((by rw [hg]; exact (below_size (wup HB.out)) : w.heap.size ≤ gb243)); have n3_ := Aside0.mk ((by rw [hg]; exact (below_size (wup HB.out)) : w.heap.size ≤ gb243)); clear HB; have HB := n0_; have BK243 := n1_; have GW243 := n2_; have GE243 := n3_; clear n0_ n1_ n2_ n3_; clear hb hbox hg))
 repeat (go_quiet (first | ((with_reducible refine gate_dst (N := 3) rfl ?_); refine box_event ?hg (N := 3) ?hd (cs := #[.slice A0_0 l0_0.length c0_0, .int .i64 a0_1, .int .i64 a0_2, .int .i64 a0_3]) (t := 26) ?hr ?_; (case hd => rfl); (case hg => rfl); (case hr => first | (go_simp; done) | (go_simp; rfl)); intro gb243 hg w4 hbox hb; have n0_ := Aside0.mk (below_step (wup HB.out) hb); have n1_ := Aside0.mk (hbox); have n2_ := Aside0.mk ((by rw [hg]; exact (below_size (wup HB.out)) : w.heap.size ≤ gb243)); have n3_ := Aside0.mk ((by rw [hg]; exact (below_size (wup HB.out)) : w.heap.size ≤ gb243)); clear HB; have HB := n0_; have BK243 := n1_; have GW243 := n2_; have GE243 := n3_; clear n0_ n1_ n2_ n3_; clear hb hbox hg)); try go_wp2_with (first | ((with_reducible refine gate_dst (N := 3) rfl ?_); refine box_event ?hg (N := 3) ?hd (cs := #[.slice A0_0 l0_0.length c0_0, .int .i64 a0_1, .int .i64 a0_2, .int .i64 a0_3]) (t := 26) ?hr ?_; (case hd => rfl); (case hg => rfl); (case hr => first | (go_simp; done) | (go_simp; rfl)); intro gb243 hg w4 hbox hb; have n0_ := Aside0.mk (below_step (wup HB.out) hb); have n1_ := Aside0.mk (hbox); have n2_ := Aside0.mk ((by rw [hg]; exact (below_size (wup HB.out)) : w.heap.size ≤ gb243)); have n3_ := Aside0.mk ((by rw [hg]; exact (below_size (wup HB.out)) : w.heap.size ≤ gb243)); clear HB; have HB := n0_; have BK243 := n1_; have GW243 := n2_; have GE243 := n3_; clear n0_ n1_ n2_ n3_; clear hb hbox hg)))
 go_loopg [7] k (fun kq v7 w' => ∃ (x7_1 : Int), v7 = .int .i64 x7_1 ∧ Aside0 (R_Covers.l0 kq l1 l2 x7_1 l0_0 a0_1 a0_2 a0_3 = some r) ∧ Aside0 (kq ≤ k) ∧ Aside0 (w'.heap[gb243]? = some (.cells #[(.slice A0_0 l0_0.length c0_0), .int .i64 a0_1, .int .i64 a0_2, .int .i64 a0_3] 26 (0, 0))) ∧ Aside0 (Below w.heap.size w w'))
 case atStart => exact ⟨(0), (by first | rfl | (simp; done) | (simp [*]; done)), H', ⟨Nat.le_refl _⟩, ⟨bup BK243.out⟩, ⟨by repeat (first | (with_reducible first | exact HB.out | apply below_alloc | apply pw_below_drewN | apply below_drew1 | refine below_set ?_ GE243.out) | exact HB.out)⟩⟩
 case round =>
  clear H'
  obtain ⟨x7_1, rfl, HA, HK1, BK243, HB⟩ := hrel
  cases gk with
  | zero => exact absurd HA.out (by simp [R_Covers.l0])
  | succ k1 =>
   have H := HA.out
   clear HA
   simp only [R_Covers.l0] at H
   by_cases c5 : x7_1 < (l2.length : Int)
   ·rw [if_pos c5] at H
    have c5b0 : decide (x7_1 < (l2.length : Int)) = true := decide_eq_true c5
    clear c5
    have H' := Aside0.mk H
    clear H
    go_wp2
    repeat (go_quiet (fail); try go_wp2)
    go_loopg [8, 9] k1 (fun kq v8 v9 w' => ∃ (x8_2 : Bool) (x9_2 : Int), v8 = .bool x8_2 ∧ v9 = .int .i64 x9_2 ∧ Aside0 (R_Covers.l1 kq l1 l2 x7_1 x8_2 x9_2 l0_0 a0_1 a0_2 a0_3 = some r) ∧ Aside0 (kq ≤ k1) ∧ Aside0 (w'.heap[gb243]? = some (.cells #[(.slice A0_0 l0_0.length c0_0), .int .i64 a0_1, .int .i64 a0_2, .int .i64 a0_3] 26 (0, 0))) ∧ Aside0 (Below w.heap.size w w'))
    case atStart => exact ⟨(false), (0), (by first | rfl | (simp; done) | (simp [*]; done)), (by first | rfl | (simp; done) | (simp [*]; done)), H', ⟨Nat.le_refl _⟩, ⟨bup BK243.out⟩, ⟨by repeat (first | (with_reducible first | exact HB.out | apply below_alloc | apply pw_below_drewN | apply below_drew1 | refine below_set ?_ GE243.out) | exact HB.out)⟩⟩
    case round =>
     clear H'
     obtain ⟨x8_2, x9_2, rfl, rfl, HA, HK2, BK243, HB⟩ := hrel
     cases gk with
     | zero => exact absurd HA.out (by simp [R_Covers.l1])
     | succ k2 =>
      have H := HA.out
      clear HA
      simp only [R_Covers.l1] at H
      by_cases c6 : x9_2 < (l1.length : Int)
      ·rw [if_pos c6] at H
       have c6b0 : decide (x9_2 < (l1.length : Int)) = true := decide_eq_true c6
       clear c6
       by_cases c7 : x8_2 = true
       ·subst c7
        have H1 : (R_Covers.l1 k2 l1 l2 x7_1 true (wrap64 (x9_2 + 1)) l0_0 a0_1 a0_2 a0_3) = some r := by rw [if_pos rfl] at H; exact H
        clear H
        have H := H1
        clear H1
        have H' := Aside0.mk H
        clear H
        go_wp2
        repeat (go_quiet (fail); try go_wp2)
        go_roundg k2
        case measure => have := HK1.out; have := HK2.out; omega
        case rel => exact ⟨(true), (wrap64 (x9_2 + 1)), (by first | rfl | (simp; done) | (simp [*]; done)), (by first | rfl | (simp; done) | (simp [*]; done)), H', ⟨by have := HK1.out; have := HK2.out; omega⟩, ⟨bup BK243.out⟩, ⟨by repeat (first | (with_reducible first | exact HB.out | apply below_alloc | apply pw_below_drewN | apply below_drew1 | refine below_set ?_ GE243.out) | exact HB.out)⟩⟩
       ·replace c7 := Bool.eq_false_iff.mpr c7
        subst c7
        have H1 : (if 0 ≤ x9_2 then (if 0 ≤ x7_1 then (if x7_1 < (l2.length : Int) then ((R_in.f (rd l1 x9_2) (rd l2 x7_1) (wrap64 ((rd l2 x7_1) + a0_1))).bind fun t247 => (R_Covers.l1 k2 l1 l2 x7_1 t247 (wrap64 (x9_2 + 1)) l0_0 a0_1 a0_2 a0_3)) else (none)) else (none)) else (none)) = some r := by rw [if_neg (show ¬ (false = true) by decide)] at H; exact H
        clear H
        have H := H1
        clear H1
        by_cases c8 : 0 ≤ x9_2
        ·rw [if_pos c8] at H
         have c8b0 : decide (0 ≤ x9_2) = true := decide_eq_true c8
         clear c8
         by_cases c9 : 0 ≤ x7_1
         ·rw [if_pos c9] at H
          have c9b0 : decide (0 ≤ x7_1) = true := decide_eq_true c9
          clear c9
          by_cases c10 : x7_1 < (l2.length : Int)
          ·rw [if_pos c10] at H
           have c10b0 : decide (x7_1 < (l2.length : Int)) = true := decide_eq_true c10
           clear c10
           replace H := Option.bind_eq_some_iff.mp H
           obtain ⟨t247, A110, H⟩ := H
           replace H : (R_Covers.l1 k2 l1 l2 x7_1 t247 (wrap64 (x9_2 + 1)) l0_0 a0_1 a0_2 a0_3) = some r := H
           have A11 := Aside0.mk A110
           clear A110
           have H' := Aside0.mk H
           clear H
           have p244 : 0 ≤ (x9_2 : Int) := of_decide_eq_true (by first | (with_reducible assumption) | assumption)
           have q244 : x9_2 < (l1.length : Int) := of_decide_eq_true (by first | (with_reducible assumption) | assumption)
           obtain ⟨ad244, e244, hx244_0⟩ := Kd.at_int HR1.out x9_2 p244 q244
           cases e244
           replace hx244_0 := (HB.out.cell (World.block_lt_of_cell? w _ hx244_0)).trans hx244_0
           replace p244 := eq_true p244
           replace q244 := eq_true q244
           have p245 : 0 ≤ (x7_1 : Int) := of_decide_eq_true (by first | (with_reducible assumption) | assumption)
           have q245 : x7_1 < (l2.length : Int) := of_decide_eq_true (by first | (with_reducible assumption) | assumption)
           obtain ⟨ad245, e245, hx245_0⟩ := Kd.at_int HR2.out x7_1 p245 q245
           cases e245
           replace hx245_0 := (HB.out.cell (World.block_lt_of_cell? w _ hx245_0)).trans hx245_0
           replace p245 := eq_true p245
           replace q245 := eq_true q245
           have p246 : 0 ≤ (x7_1 : Int) := of_decide_eq_true (by first | (with_reducible assumption) | assumption)
           have q246 : x7_1 < (l2.length : Int) := of_decide_eq_true (by first | (with_reducible assumption) | assumption)
           obtain ⟨ad246, e246, hx246_0⟩ := Kd.at_int HR2.out x7_1 p246 q246
           obtain rfl : ad245 = ad246 := (by injection e246)
           replace hx246_0 := (HB.out.cell (World.block_lt_of_cell? w _ hx246_0)).trans hx246_0
           replace p246 := eq_true p246
           replace q246 := eq_true q246
           have hcz12_0 : wr.cell? ⟨gb243, 0, none⟩ = some (.slice A0_0 l0_0.length c0_0) := (blk_cell BK243.out 0).trans rfl
           have hcz12_1 : wr.cell? ⟨gb243, 1, none⟩ = some (.int .i64 a0_1) := (blk_cell BK243.out 1).trans rfl
           have hcz12_2 : wr.cell? ⟨gb243, 2, none⟩ = some (.int .i64 a0_2) := (blk_cell BK243.out 2).trans rfl
           have hcz12_3 : wr.cell? ⟨gb243, 3, none⟩ = some (.int .i64 a0_3) := (blk_cell BK243.out 3).trans rfl
           have hfz12_0 := blk_frozen BK243.out 0
           have hfz12_1 := blk_frozen BK243.out 1
           have hfz12_2 := blk_frozen BK243.out 2
           have hfz12_3 := blk_frozen BK243.out 3
           go_wp2_with (first | (go_at_call 56; (with_reducible refine (R_in.calls (rd l1 x9_2) (rd l2 x7_1) (wrap64 ((rd l2 x7_1) + a0_1)) t247 _ A11.out).mono ?_); rintro e w' ⟨rfl, ⟨nd, rfl⟩⟩; (try first | exact ⟨rfl, _, World.drewN_drewN _ _ _⟩ | exact ⟨rfl, _, Eq.trans (World.drewN_drewN _ _ _) (congrArg (World.drewN _) (Nat.add_assoc _ _ _))⟩)))
           repeat (go_quiet (first | (go_at_call 56; (with_reducible refine (R_in.calls (rd l1 x9_2) (rd l2 x7_1) (wrap64 ((rd l2 x7_1) + a0_1)) t247 _ A11.out).mono ?_); rintro e w' ⟨rfl, ⟨nd, rfl⟩⟩; (try first | exact ⟨rfl, _, World.drewN_drewN _ _ _⟩ | exact ⟨rfl, _, Eq.trans (World.drewN_drewN _ _ _) (congrArg (World.drewN _) (Nat.add_assoc _ _ _))⟩))); try go_wp2_with (first | (go_at_call 56; (with_reducible refine (R_in.calls (rd l1 x9_2) (rd l2 x7_1) (wrap64 ((rd l2 x7_1) + a0_1)) t247 _ A11.out).mono ?_); rintro e w' ⟨rfl, ⟨nd, rfl⟩⟩; (try first | exact ⟨rfl, _, World.drewN_drewN _ _ _⟩ | exact ⟨rfl, _, Eq.trans (World.drewN_drewN _ _ _) (congrArg (World.drewN _) (Nat.add_assoc _ _ _))⟩))))
           go_roundg k2
           case measure => have := HK1.out; have := HK2.out; omega
           case rel => exact ⟨(t247), (wrap64 (x9_2 + 1)), (by first | rfl | (simp; done) | (simp [*]; done)), (by first | rfl | (simp; done) | (simp [*]; done)), H', ⟨by have := HK1.out; have := HK2.out; omega⟩, ⟨bup BK243.out⟩, ⟨by repeat (first | (with_reducible first | exact HB.out | apply below_alloc | apply pw_below_drewN | apply below_drew1 | refine below_set ?_ GE243.out) | exact HB.out)⟩⟩
          ·rw [if_neg c10] at H
           exact absurd H (by simp)
         ·rw [if_neg c9] at H
          exact absurd H (by simp)
        ·rw [if_neg c8] at H
         exact absurd H (by simp)
      ·rw [if_neg c6] at H
       have c6b0 : decide (x9_2 < (l1.length : Int)) = false := decide_eq_false c6
       clear c6
       by_cases c13 : x8_2 = true
       ·subst c13
        have H1 : (R_Covers.l0 k2 l1 l2 (wrap64 (x7_1 + 1)) l0_0 a0_1 a0_2 a0_3) = some r := by rw [if_pos rfl] at H; exact H
        clear H
        have H := H1
        clear H1
        have H' := Aside0.mk H
        clear H
        go_wp2
        repeat (go_quiet (fail); try go_wp2)
        go_roundg k2
        case measure => have := HK1.out; have := HK2.out; omega
        case rel => exact ⟨(wrap64 (x7_1 + 1)), (by first | rfl | (simp; done) | (simp [*]; done)), H', ⟨by have := HK1.out; have := HK2.out; omega⟩, ⟨bup BK243.out⟩, ⟨by repeat (first | (with_reducible first | exact HB.out | apply below_alloc | apply pw_below_drewN | apply below_drew1 | refine below_set ?_ GE243.out) | exact HB.out)⟩⟩
       ·replace c13 := Bool.eq_false_iff.mpr c13
        subst c13
        have H1 : (some false) = some r := by rw [if_neg (show ¬ (false = true) by decide)] at H; exact H
        clear H
        have H := H1
        clear H1
        obtain rfl := Option.some.inj H
        go_wp2
        repeat (go_quiet (fail); try go_wp2)
        go_ret
        exact ⟨by first | rfl | (simp [errW_none, errW_some] <;> rfl) | (simp [*, errW_none, errW_some] <;> rfl), by repeat (first | (with_reducible first | exact HB.out | apply below_alloc | apply pw_below_drewN | apply below_drew1 | refine below_set ?_ GE243.out) | exact HB.out)⟩
   ·rw [if_neg c5] at H
    have c5b0 : decide (x7_1 < (l2.length : Int)) = false := decide_eq_false c5
    clear c5
    obtain rfl := Option.some.inj H
    go_wp2
    repeat (go_quiet (fail); try go_wp2)
    go_ret
    exact ⟨by first | rfl | (simp [errW_none, errW_some] <;> rfl) | (simp [*, errW_none, errW_some] <;> rfl), by repeat (first | (with_reducible first | exact HB.out | apply below_alloc | apply pw_below_drewN | apply below_drew1 | refine below_set ?_ GE243.out) | exact HB.out)⟩
end Go.Proofs.YtohlmoppcmjknaaGreatDoor.P
end
section
namespace Go.Proofs.YtohlmoppcmjknaaGreatDoor.P
open Go.RowKit Go.Proofs.YtohlmoppcmjknaaGreatDoorW.PrintWords Go.Proofs.YtohlmoppcmjknaaGreatDoorW.PrintLast Go.Proofs.YtohlmoppcmjknaaGreatDoorW.PrintMore
attribute [local go_sem] max2_int min2_int max_two min_two max_three min_three max_four min_four
set_option linter.unusedVariables false
set_option linter.unusedSimpArgs false
def T_Listed.l0 : Nat → List Int → Int → Int → Option (Bool)
 | 0, _, _, _ => none
 | k + 1, x0, x1, x5 => if x5 < (x0.length : Int) then (if 0 ≤ x5 then (if (rd x0 x5) = x1 then (some true) else (T_Listed.l0 k x0 x1 (wrap64 (x5 + 1)))) else (none)) else (some false)
def T_Listed.f (k : Nat) (l0 : List Int) (a1 : Int) : Option (Bool) := T_Listed.l0 k l0 a1 0
set_option maxHeartbeats 8000000 in
set_option maxRecDepth 100000 in
theorem T_Listed.calls (k : Nat) (A0 : Option Addr) (c0 : Nat) (l0 : List Int) (a1 : Int) (r : Bool) (w : World) (hr0 : Kd.C (Kd.int .i64) w A0 l0.length l0) (hc0 : l0.length ≤ c0) (h : T_Listed.f k l0 a1 = some r) :
  Calls Tryz.prog 32 #[.slice A0 l0.length c0, .int .i64 a1] w fun e w' => e = .returned (.bool r) ∧ Drawn0 w w' := by
 have HR0 := Aside0.mk hr0
 have HC0 := Aside0.mk hc0
 clear hr0 hc0
 have H : (T_Listed.l0 k l0 a1 0) = some r := h
 clear h
 have H' := Aside0.mk H
 clear H
 go_enter Tryz.func32, Tryz.ntmps32
 go_wp2
 go_loopg [5] k (fun kq v5 w' => ∃ (x5_1 : Int), v5 = .int .i64 x5_1 ∧ Aside0 (T_Listed.l0 kq l0 a1 x5_1 = some r) ∧ Aside0 (kq ≤ k) ∧ Drawn0 w w')
 case atStart => exact ⟨(0), (by first | rfl | (simp; done) | (simp [*]; done)), H', ⟨Nat.le_refl _⟩, by repeat (first | exact Drawn0.refl _ | apply Drawn0.step)⟩
 case round =>
  clear H'
  obtain ⟨x5_1, rfl, HA, HK1, ⟨m1, rfl⟩⟩ := hrel
  cases gk with
  | zero => exact absurd HA.out (by simp [T_Listed.l0])
  | succ k1 =>
   have H := HA.out
   clear HA
   simp only [T_Listed.l0] at H
   by_cases c3 : x5_1 < (l0.length : Int)
   ·rw [if_pos c3] at H
    have c3b0 : decide (x5_1 < (l0.length : Int)) = true := decide_eq_true c3
    clear c3
    by_cases c4 : 0 ≤ x5_1
    ·rw [if_pos c4] at H
     have c4b0 : decide (0 ≤ x5_1) = true := decide_eq_true c4
     clear c4
     by_cases c5 : (rd l0 x5_1) = a1
     ·rw [if_pos c5] at H
      have c5b0 : ((rd l0 x5_1) == a1) = true := beq_iff_eq.mpr c5
      have c5b1 : ((rd l0 x5_1) != a1) = false := bne_eq_false_iff_eq.mpr c5
      clear c5
      obtain rfl := Option.some.inj H
      have p248 : 0 ≤ (x5_1 : Int) := of_decide_eq_true (by first | (with_reducible assumption) | assumption)
      have q248 : x5_1 < (l0.length : Int) := of_decide_eq_true (by first | (with_reducible assumption) | assumption)
      obtain ⟨ad248, e248, hx248_0⟩ := Kd.at_int HR0.out x5_1 p248 q248
      cases e248
      replace p248 := eq_true p248
      replace q248 := eq_true q248
      go_wp2
      go_ret
      exact ⟨by first | rfl | (simp; done) | (simp [*]; done), by repeat (first | exact Drawn0.refl _ | apply Drawn0.step)⟩
     ·rw [if_neg c5] at H
      have c5b0 : ((rd l0 x5_1) == a1) = false := beq_eq_false_iff_ne.mpr c5
      have c5b1 : ((rd l0 x5_1) != a1) = true := bne_iff_ne.mpr c5
      have H' := Aside0.mk H
      clear H
      have p248 : 0 ≤ (x5_1 : Int) := of_decide_eq_true (by first | (with_reducible assumption) | assumption)
      have q248 : x5_1 < (l0.length : Int) := of_decide_eq_true (by first | (with_reducible assumption) | assumption)
      obtain ⟨ad248, e248, hx248_0⟩ := Kd.at_int HR0.out x5_1 p248 q248
      cases e248
      replace p248 := eq_true p248
      replace q248 := eq_true q248
      go_wp2
      go_roundg k1
      case measure => have := HK1.out; omega
      case rel => exact ⟨(wrap64 (x5_1 + 1)), (by first | rfl | (simp; done) | (simp [*]; done)), H', ⟨by have := HK1.out; omega⟩, by repeat (first | exact Drawn0.refl _ | apply Drawn0.step)⟩
    ·rw [if_neg c4] at H
     exact absurd H (by simp)
   ·rw [if_neg c3] at H
    have c3b0 : decide (x5_1 < (l0.length : Int)) = false := decide_eq_false c3
    clear c3
    obtain rfl := Option.some.inj H
    go_wp2
    go_ret
    exact ⟨by first | rfl | (simp; done) | (simp [*]; done), by repeat (first | exact Drawn0.refl _ | apply Drawn0.step)⟩
end Go.Proofs.YtohlmoppcmjknaaGreatDoor.P
end
section
namespace Go.Proofs.YtohlmoppcmjknaaGreatDoor.P
open Go.RowKit Go.Proofs.YtohlmoppcmjknaaGreatDoorW.PrintWords Go.Proofs.YtohlmoppcmjknaaGreatDoorW.PrintLast Go.Proofs.YtohlmoppcmjknaaGreatDoorW.PrintMore
attribute [local go_sem] max2_int min2_int max_two min_two max_three min_three max_four min_four
set_option linter.unusedVariables false
set_option linter.unusedSimpArgs false
mutual
def T_Before.l0 : Nat → List Int → List Int → Int → Option (Bool)
 | 0, _, _, _ => none
 | k + 1, x0, x1, x5 => if x5 < (x0.length : Int) then (T_Before.j1 k x0 x1 x5 (decide (x5 < (x1.length : Int)))) else (T_Before.j1 k x0 x1 x5 false)
def T_Before.j1 : Nat → List Int → List Int → Int → Bool → Option (Bool)
 | 0, _, _, _, _ => none
 | k + 1, x0, x1, x5, x15 => if x15 = true then (if 0 ≤ x5 then (if x5 < (x0.length : Int) then (if x5 < (x1.length : Int) then (if (rd x0 x5) = (rd x1 x5) then (T_Before.l0 k x0 x1 (wrap64 (x5 + 1))) else (some (decide ((rd x0 x5) < (rd x1 x5))))) else (none)) else (none)) else (none)) else (some (decide ((x0.length : Int) < (x1.length : Int))))
end
def T_Before.f (k : Nat) (l0 : List Int) (l1 : List Int) : Option (Bool) := T_Before.l0 k l0 l1 0
set_option maxHeartbeats 8000000 in
set_option maxRecDepth 100000 in
theorem T_Before.calls (k : Nat) (A0 : Option Addr) (c0 : Nat) (l0 : List Int) (A1 : Option Addr) (c1 : Nat) (l1 : List Int) (r : Bool) (w : World) (hr0 : Kd.C (Kd.int .i64) w A0 l0.length l0) (hc0 : l0.length ≤ c0) (hr1 : Kd.C (Kd.int .i64) w A1 l1.length l1) (hc1 : l1.length ≤ c1) (h : T_Before.f k l0 l1 = some r) :
  Calls Tryz.prog 33 #[.slice A0 l0.length c0, .slice A1 l1.length c1] w fun e w' => e = .returned (.bool r) ∧ Drawn0 w w' := by
 have HR0 := Aside0.mk hr0
 have HC0 := Aside0.mk hc0
 clear hr0 hc0
 have HR1 := Aside0.mk hr1
 have HC1 := Aside0.mk hc1
 clear hr1 hc1
 have H : (T_Before.l0 k l0 l1 0) = some r := h
 clear h
 have H' := Aside0.mk H
 clear H
 go_enter Tryz.func33, Tryz.ntmps33
 go_wp2
 repeat (go_quiet (fail); try go_wp2)
 go_loopg [5] k (fun kq v5 w' => ∃ (x5_1 : Int), v5 = .int .i64 x5_1 ∧ Aside0 (T_Before.l0 kq l0 l1 x5_1 = some r) ∧ Aside0 (kq ≤ k) ∧ Drawn0 w w')
 case atStart => exact ⟨(0), (by first | rfl | (simp; done) | (simp [*]; done)), H', ⟨Nat.le_refl _⟩, by repeat (first | exact Drawn0.refl _ | apply Drawn0.step)⟩
 case round =>
  clear H'
  obtain ⟨x5_1, rfl, HA, HK1, ⟨m1, rfl⟩⟩ := hrel
  cases gk with
  | zero => exact absurd HA.out (by simp [T_Before.l0])
  | succ k1 =>
   have H := HA.out
   clear HA
   simp only [T_Before.l0] at H
   have HC3 := Aside0.mk H
   clear H
   go_upto_region 2 with (fail)
   repeat (go_quiet (fail); go_upto_region 2 with (fail))
   go_cut [15] (fun v15 wc => ∃ (kq : Nat) (x15_2 : Bool), v15 = .bool x15_2 ∧ Aside0 (T_Before.j1 kq l0 l1 x5_1 x15_2 = some r) ∧ Aside0 (kq ≤ k1) ∧ Drawn0 w wc)
   case first =>
    have H := HC3.out
    clear HC3
    by_cases c4 : x5_1 < (l0.length : Int)
    ·rw [if_pos c4] at H
     have c4b0 : decide (x5_1 < (l0.length : Int)) = true := decide_eq_true c4
     clear c4
     (first | rw [c4b0] | (simp only [i64_w, i32_w]; rw [c4b0]) | skip)
     have H' := Aside0.mk H
     clear H
     go_wp2
     repeat (go_quiet (fail); try go_wp2)
     go_meet
     case rel => exact ⟨_, (decide (x5_1 < (l1.length : Int))), (by first | rfl | (simp; done) | (simp [*]; done)), H', ⟨by have := HK1.out; first | omega | exact Nat.le_refl _⟩, by repeat (first | exact Drawn0.refl _ | apply Drawn0.step)⟩
    ·rw [if_neg c4] at H
     have c4b0 : decide (x5_1 < (l0.length : Int)) = false := decide_eq_false c4
     clear c4
     (first | rw [c4b0] | (simp only [i64_w, i32_w]; rw [c4b0]) | skip)
     have H' := Aside0.mk H
     clear H
     go_wp2
     repeat (go_quiet (fail); try go_wp2)
     go_meet
     case rel => exact ⟨_, (false), (by first | rfl | (simp; done) | (simp [*]; done)), H', ⟨by have := HK1.out; first | omega | exact Nat.le_refl _⟩, by repeat (first | exact Drawn0.refl _ | apply Drawn0.step)⟩
   case rest =>
    clear HC3
    obtain ⟨kq, x15_2, rfl, HA, HJ2, ⟨mc2, rfl⟩⟩ := hcut
    cases kq with
    | zero => exact absurd HA.out (by simp [T_Before.j1])
    | succ kj2 =>
     have H := HA.out
     clear HA
     simp only [T_Before.j1] at H
     by_cases c5 : x15_2 = true
     ·subst c5
      have H1 : (if 0 ≤ x5_1 then (if x5_1 < (l0.length : Int) then (if x5_1 < (l1.length : Int) then (if (rd l0 x5_1) = (rd l1 x5_1) then (T_Before.l0 kj2 l0 l1 (wrap64 (x5_1 + 1))) else (some (decide ((rd l0 x5_1) < (rd l1 x5_1))))) else (none)) else (none)) else (none)) = some r := by rw [if_pos rfl] at H; exact H
      clear H
      have H := H1
      clear H1
      by_cases c6 : 0 ≤ x5_1
      ·rw [if_pos c6] at H
       have c6b0 : decide (0 ≤ x5_1) = true := decide_eq_true c6
       clear c6
       by_cases c7 : x5_1 < (l0.length : Int)
       ·rw [if_pos c7] at H
        have c7b0 : decide (x5_1 < (l0.length : Int)) = true := decide_eq_true c7
        clear c7
        by_cases c8 : x5_1 < (l1.length : Int)
        ·rw [if_pos c8] at H
         have c8b0 : decide (x5_1 < (l1.length : Int)) = true := decide_eq_true c8
         clear c8
         by_cases c9 : (rd l0 x5_1) = (rd l1 x5_1)
         ·rw [if_pos c9] at H
          have c9b0 : ((rd l0 x5_1) == (rd l1 x5_1)) = true := beq_iff_eq.mpr c9
          have c9b1 : ((rd l0 x5_1) != (rd l1 x5_1)) = false := bne_eq_false_iff_eq.mpr c9
          clear c9
          have H' := Aside0.mk H
          clear H
          have p249 : 0 ≤ (x5_1 : Int) := of_decide_eq_true (by first | (with_reducible assumption) | assumption)
          have q249 : x5_1 < (l0.length : Int) := of_decide_eq_true (by first | (with_reducible assumption) | assumption)
          obtain ⟨ad249, e249, hx249_0⟩ := Kd.at_int HR0.out x5_1 p249 q249
          cases e249
          replace p249 := eq_true p249
          replace q249 := eq_true q249
          have p250 : 0 ≤ (x5_1 : Int) := of_decide_eq_true (by first | (with_reducible assumption) | assumption)
          have q250 : x5_1 < (l1.length : Int) := of_decide_eq_true (by first | (with_reducible assumption) | assumption)
          obtain ⟨ad250, e250, hx250_0⟩ := Kd.at_int HR1.out x5_1 p250 q250
          cases e250
          replace p250 := eq_true p250
          replace q250 := eq_true q250
          go_wp2
          repeat (go_quiet (fail); try go_wp2)
          go_roundg kj2
          case measure => have := HK1.out; have := HJ2.out; omega
          case rel => exact ⟨(wrap64 (x5_1 + 1)), (by first | rfl | (simp; done) | (simp [*]; done)), H', ⟨by have := HK1.out; have := HJ2.out; omega⟩, by repeat (first | exact Drawn0.refl _ | apply Drawn0.step)⟩
         ·rw [if_neg c9] at H
          have c9b0 : ((rd l0 x5_1) == (rd l1 x5_1)) = false := beq_eq_false_iff_ne.mpr c9
          have c9b1 : ((rd l0 x5_1) != (rd l1 x5_1)) = true := bne_iff_ne.mpr c9
          obtain rfl := Option.some.inj H
          have p249 : 0 ≤ (x5_1 : Int) := of_decide_eq_true (by first | (with_reducible assumption) | assumption)
          have q249 : x5_1 < (l0.length : Int) := of_decide_eq_true (by first | (with_reducible assumption) | assumption)
          obtain ⟨ad249, e249, hx249_0⟩ := Kd.at_int HR0.out x5_1 p249 q249
          cases e249
          replace p249 := eq_true p249
          replace q249 := eq_true q249
          have p250 : 0 ≤ (x5_1 : Int) := of_decide_eq_true (by first | (with_reducible assumption) | assumption)
          have q250 : x5_1 < (l1.length : Int) := of_decide_eq_true (by first | (with_reducible assumption) | assumption)
          obtain ⟨ad250, e250, hx250_0⟩ := Kd.at_int HR1.out x5_1 p250 q250
          cases e250
          replace p250 := eq_true p250
          replace q250 := eq_true q250
          have p251 : 0 ≤ (x5_1 : Int) := of_decide_eq_true (by first | (with_reducible assumption) | assumption)
          have q251 : x5_1 < (l0.length : Int) := of_decide_eq_true (by first | (with_reducible assumption) | assumption)
          obtain ⟨ad251, e251, hx251_0⟩ := Kd.at_int HR0.out x5_1 p251 q251
          obtain rfl : ad249 = ad251 := (by injection e251)
          replace p251 := eq_true p251
          replace q251 := eq_true q251
          have p252 : 0 ≤ (x5_1 : Int) := of_decide_eq_true (by first | (with_reducible assumption) | assumption)
          have q252 : x5_1 < (l1.length : Int) := of_decide_eq_true (by first | (with_reducible assumption) | assumption)
          obtain ⟨ad252, e252, hx252_0⟩ := Kd.at_int HR1.out x5_1 p252 q252
          obtain rfl : ad250 = ad252 := (by injection e252)
          replace p252 := eq_true p252
          replace q252 := eq_true q252
          go_wp2
          repeat (go_quiet (fail); try go_wp2)
          go_ret
          exact ⟨by first | rfl | (simp; done) | (simp [*]; done), by repeat (first | exact Drawn0.refl _ | apply Drawn0.step)⟩
        ·rw [if_neg c8] at H
         exact absurd H (by simp)
       ·rw [if_neg c7] at H
        exact absurd H (by simp)
      ·rw [if_neg c6] at H
       exact absurd H (by simp)
     ·replace c5 := Bool.eq_false_iff.mpr c5
      subst c5
      have H1 : (some (decide ((l0.length : Int) < (l1.length : Int)))) = some r := by rw [if_neg (show ¬ (false = true) by decide)] at H; exact H
      clear H
      have H := H1
      clear H1
      obtain rfl := Option.some.inj H
      go_wp2
      repeat (go_quiet (fail); try go_wp2)
      go_ret
      exact ⟨by first | rfl | (simp; done) | (simp [*]; done), by repeat (first | exact Drawn0.refl _ | apply Drawn0.step)⟩
end Go.Proofs.YtohlmoppcmjknaaGreatDoor.P
end
section
namespace Go.Proofs.YtohlmoppcmjknaaGreatDoor.P
open Go.RowKit Go.Proofs.YtohlmoppcmjknaaGreatDoorW.PrintWords Go.Proofs.YtohlmoppcmjknaaGreatDoorW.PrintLast Go.Proofs.YtohlmoppcmjknaaGreatDoorW.PrintMore
attribute [local go_sem] max2_int min2_int max_two min_two max_three min_three max_four min_four
set_option linter.unusedVariables false
set_option linter.unusedSimpArgs false
def R_Degree.f (l0_0 : List Int) (a0_1 : Int) (a0_2 : Int) (a0_3 : Int) (a1 : Int) : Option (Bool) := (R_in.f a1 0 (wrap64 ((l0_0.length : Int) - 1))).bind fun t116 => (some t116)
set_option maxHeartbeats 8000000 in
set_option maxRecDepth 100000 in
theorem R_Degree.calls (A0_0 : Option Addr) (c0_0 : Nat) (l0_0 : List Int) (a0_1 : Int) (a0_2 : Int) (a0_3 : Int) (a1 : Int) (r : Bool) (w : World) (hr0_0 : Kd.C (Kd.int .i64) w A0_0 l0_0.length l0_0) (hc0_0 : l0_0.length ≤ c0_0) (h : R_Degree.f l0_0 a0_1 a0_2 a0_3 a1 = some r) :
  Calls Tryz.prog 16 #[.agg #[.slice A0_0 l0_0.length c0_0, .int .i64 a0_1, .int .i64 a0_2, .int .i64 a0_3], .int .i64 a1] w fun e w' => e = .returned (.bool r) ∧ Below w.heap.size w w' := by
 have hu26 := Tryz.underlying26
 have HR0_0 := Aside0.mk hr0_0
 have HC0_0 := Aside0.mk hc0_0
 clear hr0_0 hc0_0
 have HB := Aside0.mk (Below.refl w.heap.size w)
 have H : ((R_in.f a1 0 (wrap64 ((l0_0.length : Int) - 1))).bind fun t116 => (some t116)) = some r := h
 clear h
 replace H := Option.bind_eq_some_iff.mp H
 obtain ⟨t116, A30, H⟩ := H
 replace H : (some t116) = some r := H
 have A3 := Aside0.mk A30
 clear A30
 obtain rfl := Option.some.inj H
 go_enter Tryz.func16, Tryz.ntmps16
 go_wp2_with (first | ((with_reducible refine gate_dst (N := 2) rfl ?_); refine box_event ?hg (N := 2) ?hd (cs := #[.slice A0_0 l0_0.length c0_0, .int .i64 a0_1, .int .i64 a0_2, .int .i64 a0_3]) (t := 26) ?hr ?_; (case hd => rfl); (case hg => rfl); (case hr => first | (go_simp; done) | (go_simp; rfl)); intro gb115 hg w4 hbox hb; have n0_ := Aside0.mk (below_step (wup HB.out) hb); have n1_ := Aside0.mk (hbox); have n2_ := Aside0.mk ((by rw [hg]; exact (below_size (wup HB.out)) : w.heap.size ≤ gb115)); have n3_ := Aside0.mk ((by rw [hg]; exact (below_size (wup HB.out)) : w.heap.size ≤ gb115)); clear HB; have HB := n0_; have BK115 := n1_; have GW115 := n2_; have GE115 := n3_; clear n0_ n1_ n2_ n3_; clear hb hbox hg; have hcz5_0 : w4.cell? ⟨gb115, 0, none⟩ = some (.slice A0_0 l0_0.length c0_0) := (blk_cell BK115.out 0).trans rfl; have hcz5_1 : w4.cell? ⟨gb115, 1, none⟩ = some (.int .i64 a0_1) := (blk_cell BK115.out 1).trans rfl; have hcz5_2 : w4.cell? ⟨gb115, 2, none⟩ = some (.int .i64 a0_2) := (blk_cell BK115.out 2).trans rfl; have hcz5_3 : w4.cell? ⟨gb115, 3, none⟩ = some (.int .i64 a0_3) := (blk_cell BK115.out 3).trans rfl; have hfz5_0 := blk_frozen BK115.out 0; have hfz5_1 := blk_frozen BK115.out 1; have hfz5_2 := blk_frozen BK115.out 2; have hfz5_3 := blk_frozen BK115.out 3) | ((with_reducible refine gate_callee (f := 56) rfl ?_); refine goesL_ (some 10) rfl rfl Tryz.func56 (by kernel_rfl) rfl #[.int .i64 a1, .int .i64 0, .int .i64 (wrap64 ((l0_0.length : Int) - 1))] rfl (by (try simp only [List.map_toArray, List.map_cons, List.map_nil]); first | done | rfl | (simp only [List.length_drop, List.length_take]; rfl)) ?_; (with_reducible refine (R_in.calls a1 0 (wrap64 ((l0_0.length : Int) - 1)) t116 _ A3.out).mono ?_); rintro e w' ⟨rfl, ⟨nd, rfl⟩⟩; refine ⟨_, rfl, ?_⟩))
 go_ret
 exact ⟨by first | rfl | (simp [errW_none, errW_some] <;> rfl) | (simp [*, errW_none, errW_some] <;> rfl), by repeat (first | (with_reducible first | exact HB.out | apply below_alloc | apply pw_below_drewN | apply below_drew1 | refine below_set ?_ GE115.out) | exact HB.out)⟩
end Go.Proofs.YtohlmoppcmjknaaGreatDoor.P
end
section
namespace Go.Proofs.YtohlmoppcmjknaaGreatDoor.U
open Go.RowKit Go.Proofs.YtohlmoppcmjknaaGreatDoorW.PrintWords Go.Proofs.YtohlmoppcmjknaaGreatDoorW.PrintLast
open Go.Proofs.YtohlmoppcmjknaaGreatDoor.Col (nth inr)
set_option linter.unusedVariables false
theorem w1 {i : Nat} {n : Nat} (h : i < n) (hn : n ≤ 1000000) : wrap64 ((i : Int) + 1) = ((i + 1 : Nat) : Int) := by unfold wrap64; omega
theorem w1' {i : Nat} (h : 0 < i) (hn : i ≤ 1000000) : wrap64 ((i : Int) - 1) = ((i - 1 : Nat) : Int) := by unfold wrap64; omega
theorem rd_nth (l : List Int) (i : Nat) : rd l (i : Int) = nth l i := by simp [rd, nth]
theorem loop_up {β : Type} {g : Nat → Int → Option β} {n : Nat} {r : Nat → β} (hend : Ev (fun k => g k (n : Int)) (r n))
  (hstep : ∀ i, i < n → Ev (fun k => g k ((i + 1 : Nat) : Int)) (r (i + 1)) → Ev (fun k => g k (i : Int)) (r i)) (i : Nat) (hi : i ≤ n) : Ev (fun k => g k (i : Int)) (r i) := by
 obtain ⟨d, rfl⟩ : ∃ d, n = i + d := ⟨n - i, by omega⟩
 induction d generalizing i with
 | zero => exact hend
 | succ d ih =>
  refine hstep i (by omega) ?_
  have := ih (i + 1) (by rw [show i + 1 + d = i + (d + 1) by omega]; exact hend) (fun j hj => hstep j (by omega)) (by omega)
  exact this
theorem Ev.succ {α : Type} {g : Nat → Option α} {r : α} (h : Ev g r) : Ev (fun k => g (k + 1)) r := by
 obtain ⟨K, hK⟩ := h
 exact ⟨K, fun k hk => hK _ (by omega)⟩
theorem Ev.pre {α : Type} {g : Nat → Option α} {r : α} (h : Ev (fun k => g (k + 1)) r) : Ev g r := by
 obtain ⟨K, hK⟩ := h
 refine ⟨K + 1, fun k hk => ?_⟩
 obtain ⟨m, rfl⟩ : ∃ m, k = m + 1 := ⟨k - 1, by omega⟩
 exact hK m (by omega)
theorem in_some (a lo hi : Int) : P.R_in.f a lo hi = some (inr a lo hi) := by
 unfold P.R_in.f inr
 by_cases h : a ≥ lo
 ·rw [if_pos h]; simp [show lo ≤ a from h]
 ·rw [if_neg h]; simp [show ¬ lo ≤ a from h]
theorem value_some (a : Int) : P.R_Value.f a = some (inr a (-9999) 9999) := by
 unfold P.R_Value.f; rw [in_some]; rfl
theorem smooth_some (lo hi : Int) : P.R_Smooth.f lo hi = some (inr lo (-99999) 99999 && inr hi lo 99999) := by
 unfold P.R_Smooth.f; rw [in_some]
 cases h : inr lo (-99999) 99999 with
 | true => simp only [Option.bind_some, if_true, in_some, Bool.true_and]
 | false => simp
theorem drop_cons {α : Type} (l : List α) (d : α) {i : Nat} (h : i < l.length) : l.drop i = l.getD i d :: l.drop (i + 1) := by
 rw [List.drop_eq_getElem_cons h]; simp [List.getD_eq_getElem?_getD, h]
theorem sheet_ev (l : List Int) (o lo hi : Int) (hl : l.length ≤ 1000000) : Ev (fun k => P.R_Sheet.f k l o lo hi) (Col.isSheet l o lo hi) := by
 have h := loop_up (g := fun k i => P.R_Sheet.l0 k i l o lo hi) (n := l.length) (r := fun i => inr l.length 1 14 && inr o 1 3 && inr lo (-99999) 99999 && inr hi lo 99999 && (l.drop i).all fun n => inr n (-9999) 9999) ?_ ?_ 0 (Nat.zero_le _)
 ·exact h
 ·refine Ev.step (f := fun _ => some _) (fun k => ?_) (Ev.now _)
  rw [P.R_Sheet.l0, if_neg (by omega), in_some, in_some, smooth_some]
  cases inr l.length 1 14 <;> cases inr o 1 3 <;> simp
 ·intro i hil ih
  have hd := drop_cons l 0 hil
  cases hv : inr (nth l i) (-9999) 9999 with
  | true =>
   refine Ev.step (f := fun k => P.R_Sheet.l0 k ((i + 1 : Nat) : Int) l o lo hi) (fun k => ?_) ?_
   ·rw [P.R_Sheet.l0, if_pos (by omega), if_pos (by omega), rd_nth, value_some, hv, w1 hil hl]; rfl
   ·rw [hd]; simp only [List.all_cons]; rw [show l.getD i 0 = nth l i from rfl, hv, Bool.true_and]; exact ih
  | false =>
   refine Ev.step (f := fun _ => some false) (fun k => ?_) ?_
   ·rw [P.R_Sheet.l0, if_pos (by omega), if_pos (by omega), rd_nth, value_some, hv]; rfl
   ·rw [hd]; simp only [List.all_cons]; rw [show l.getD i 0 = nth l i from rfl, hv, Bool.false_and, Bool.and_false]; exact Ev.now false
theorem isSheet_len {l : List Int} {o lo hi : Int} (h : Col.isSheet l o lo hi = true) : 1 ≤ l.length ∧ l.length ≤ 14 := by
 unfold Col.isSheet at h
 simp only [Bool.and_eq_true, inr, decide_eq_true_eq] at h
 omega
theorem right_ev (l : List Int) (o lo hi : Int) : Ev (fun k => P.L_right.f k l o lo hi) (Col.isSheet l o lo hi) := by
 by_cases h : l.length ≤ 17
 ·refine Ev.congr (f := fun k => (P.R_Sheet.f k l o lo hi).bind fun t => some t) (fun k => ?_) ?_
  ·unfold P.L_right.f P.L_short.f
   rw [show decide ((l.length : Int) ≤ 17) = true by simp; omega]
   simp
  ·exact Ev.bind (sheet_ev l o lo hi (by omega)) (Ev.now _)
 ·have hf : Col.isSheet l o lo hi = false := by
   cases e : Col.isSheet l o lo hi with
   | false => rfl
   | true => have := isSheet_len e; omega
  rw [hf]
  refine Ev.congr (f := fun _ => some false) (fun k => ?_) (Ev.now _)
  unfold P.L_right.f P.L_short.f
  rw [show decide ((l.length : Int) ≤ 17) = false by simp; omega]
  simp
theorem wrap_len {n : Nat} (h : n ≤ 1000000) : wrap64 ((n : Int) - 1) = (n : Int) - 1 := by unfold wrap64; omega
end Go.Proofs.YtohlmoppcmjknaaGreatDoor.U
end
section
namespace Go.Proofs.YtohlmoppcmjknaaGreatDoor.Col
def cov (J : List Int) (o : Int) (l : List Int) : Bool := J.all fun i => l.any fun r => inr r i (i + o)
def chosen : Nat → Nat → Nat → List Int → List (List Int)
 | 0, _, _, now => [now]
 | m + 1, n, f, now => (List.range (n - f)).flatMap fun j => chosen m n (f + j + 1) (now ++ [((f + j : Nat) : Int)])
theorem mem_chosen : ∀ (m n f : Nat) (now x : List Int), x ∈ chosen m n f now ↔ ∃ t, x = now ++ t ∧ t.length = m ∧ t.Pairwise (· < ·) ∧ ∀ y ∈ t, (f : Int) ≤ y ∧ y < (n : Int)
 | 0, n, f, now, x => by
  simp only [chosen, List.mem_singleton]
  constructor
  ·rintro rfl
   exact ⟨[], by simp, rfl, List.Pairwise.nil, by simp⟩
  ·rintro ⟨t, rfl, ht, _, _⟩
   rw [List.length_eq_zero_iff.1 ht, List.append_nil]
 | m + 1, n, f, now, x => by
  simp only [chosen, List.mem_flatMap, List.mem_range]
  constructor
  ·rintro ⟨j, hj, hx⟩
   obtain ⟨t, rfl, ht, hp, hb⟩ := (mem_chosen m n (f + j + 1) _ x).1 hx
   refine ⟨((f + j : Nat) : Int) :: t, by simp, by simp [ht], ?_, ?_⟩
   ·rw [List.pairwise_cons]
    exact ⟨fun y hy => by have := hb y hy; omega, hp⟩
   ·intro y hy
    rcases List.mem_cons.1 hy with rfl | hy
    ·omega
    ·have := hb y hy; omega
  ·rintro ⟨t, rfl, ht, hp, hb⟩
   cases t with
   | nil => simp at ht
   | cons a t =>
    have ha := hb a (by simp)
    rw [List.pairwise_cons] at hp
    refine ⟨(a - f).toNat, by omega, (mem_chosen m n _ _ _).2 ⟨t, ?_, by simpa using ht, hp.2, fun y hy => ?_⟩⟩
    ·rw [List.append_assoc]
     congr 1
     simp only [List.singleton_append, List.cons.injEq, and_true]
     omega
    ·have h1 := hp.1 y hy
     have h2 := hb y (List.mem_cons_of_mem _ hy)
     omega
theorem cov_iff {J : List Int} {o : Int} {l : List Int} : cov J o l = true ↔ ∀ i ∈ J, ∃ r ∈ l, i ≤ r ∧ r ≤ i + o := by
 unfold cov
 rw [List.all_eq_true]
 constructor
 ·intro h i hi
  obtain ⟨r, hr, hx⟩ := List.any_eq_true.1 (h i hi)
  exact ⟨r, hr, by simpa [inr] using hx⟩
 ·intro h i hi
  obtain ⟨r, hr, hx⟩ := h i hi
  exact List.any_eq_true.2 ⟨r, hr, by simpa [inr] using hx⟩
theorem opens_none_iff {J : List Int} {o : Int} {now : List Int} : opens J o now = none ↔ cov J o now = true := by
 unfold opens cov
 rw [List.find?_eq_none, List.all_eq_true]
 constructor
 ·intro h i hi; simpa using h i hi
 ·intro h i hi; simp [h i hi]
theorem opens_some {J : List Int} {o : Int} {now : List Int} (hJ : J.Pairwise (· < ·)) {i : Int} (h : opens J o now = some i) :
  i ∈ J ∧ (∀ r ∈ now, ¬ (i ≤ r ∧ r ≤ i + o)) ∧ ∀ j ∈ J, j < i → ∃ r ∈ now, j ≤ r ∧ r ≤ j + o := by
 unfold opens at h
 obtain ⟨hp, xs, bs, hab, hall⟩ := List.find?_eq_some_iff_append.1 h
 refine ⟨by rw [hab]; simp, ?_, ?_⟩
 ·intro r hr hc
  rw [Bool.not_eq_true', List.any_eq_false] at hp
  have := hp r hr
  simp [inr] at this
  omega
 ·intro j hj hji
  rw [hab] at hj hJ
  rw [List.pairwise_append] at hJ
  rcases List.mem_append.1 hj with h1 | h1
  ·have := hall j h1
   simp only [Bool.not_not] at this
   obtain ⟨r, hr, hx⟩ := List.any_eq_true.1 this
   exact ⟨r, hr, by simpa [inr] using hx⟩
  ·exfalso
   rcases List.mem_cons.1 h1 with rfl | h2
   ·omega
   ·have := (List.pairwise_cons.1 hJ.2.1).1 j h2
    omega
theorem cov_mono {J : List Int} {o : Int} {l m : List Int} (h : cov J o l = true) (hs : ∀ r ∈ l, (∃ i ∈ J, i ≤ r ∧ r ≤ i + o) → r ∈ m) : cov J o m = true := by
 rw [cov_iff] at h ⊢
 intro i hi
 obtain ⟨r, hr, hx⟩ := h i hi
 exact ⟨r, hs r hr ⟨i, hi, hx⟩, hx⟩
theorem filter_flatMap' {α β : Type} (p : β → Bool) (f : α → List β) (l : List α) : (l.flatMap f).filter p = l.flatMap fun a => (f a).filter p := by
 induction l with
 | nil => rfl
 | cons a l ih => simp [List.filter_append, ih]
theorem flatMap_nil_of {α β : Type} {f : α → List β} {l : List α} (h : ∀ a ∈ l, f a = []) : l.flatMap f = [] := by
 induction l with
 | nil => rfl
 | cons a l ih => rw [List.flatMap_cons, h a (by simp), ih (fun b hb => h b (List.mem_cons_of_mem _ hb))]; rfl
theorem flatMap_congr' {α β : Type} {f g : α → List β} {l : List α} (h : ∀ a ∈ l, f a = g a) : l.flatMap f = l.flatMap g := by
 induction l with
 | nil => rfl
 | cons a l ih => rw [List.flatMap_cons, List.flatMap_cons, h a (by simp), ih (fun b hb => h b (List.mem_cons_of_mem _ hb))]
theorem range_split (a b c : Nat) : List.range (a + b + c) = List.range a ++ (List.range b).map (a + ·) ++ (List.range c).map (a + b + ·) := by
 rw [List.range_add, List.range_add]
theorem lists_prefix : ∀ (k : Nat) (J : List Int) (o : Int) (now x : List Int), x ∈ lists k J o now → ∃ t, x = now ++ t
 | 0, _, _, _, x, h => by simp [lists] at h
 | k + 1, J, o, now, x, h => by
  rw [lists] at h
  split at h
  ·rw [List.mem_singleton] at h; exact ⟨[], by simp [h]⟩
  ·obtain ⟨j, _, hx⟩ := List.mem_flatMap.1 h
   obtain ⟨t, rfl⟩ := lists_prefix k J o _ x hx
   exact ⟨_, List.append_assoc _ _ _⟩
theorem lists_cov : ∀ (k : Nat) (J : List Int) (o : Int) (now x : List Int), x ∈ lists k J o now → cov J o x = true
 | 0, _, _, _, x, h => by simp [lists] at h
 | k + 1, J, o, now, x, h => by
  rw [lists] at h
  split at h
  ·rename_i hn
   rw [List.mem_singleton] at h; subst h
   exact opens_none_iff.1 hn
  ·obtain ⟨j, _, hx⟩ := List.mem_flatMap.1 h
   exact lists_cov k J o _ x hx
theorem chosen_lists {J : List Int} {o : Int} {n M : Nat} (hJ : J.Pairwise (· < ·)) (ho : 0 ≤ o) (hJn : ∀ i ∈ J, 0 ≤ i ∧ i + o < (n : Int))
  (hmin : ∀ l : List Int, l.Pairwise (· < ·) → cov J o l = true → M ≤ l.length) :
  ∀ (m f k : Nat) (now : List Int), now.length + m = M → m + 1 ≤ k → now.Pairwise (· < ·) → (∀ r ∈ now, r < (f : Int)) → (∀ i, opens J o now = some i → (f : Int) ≤ i) →
   (chosen m n f now).filter (cov J o) = (lists k J o now).filter fun x => decide (x.length = M) := by
 intro m
 induction m with
 | zero =>
  intro f k now hM hk hp hf hop
  obtain ⟨k, rfl⟩ : ∃ k', k = k' + 1 := ⟨k - 1, by omega⟩
  rw [chosen, lists]
  cases h : opens J o now with
  | none =>
   have hc := opens_none_iff.1 h
   simp [hc, show now.length = M by omega]
  | some i =>
   have hc : cov J o now = false := by
    cases hc : cov J o now with
    | true => rw [opens_none_iff.2 hc] at h; cases h
    | false => rfl
   simp only [List.filter_cons, hc, List.filter_nil]
   symm
   simp only [Bool.false_eq_true, if_false]
   rw [List.filter_eq_nil_iff]
   intro x hx
   obtain ⟨j, _, hx⟩ := List.mem_flatMap.1 hx
   obtain ⟨t, rfl⟩ := lists_prefix _ _ _ _ _ hx
   simp
   omega
 | succ m ih =>
  intro f k now hM hk hp hf hop
  obtain ⟨k, rfl⟩ : ∃ k', k = k' + 1 := ⟨k - 1, by omega⟩
  rw [chosen, lists]
  cases h : opens J o now with
  | none =>
   have hc := opens_none_iff.1 h
   have := hmin now hp hc
   omega
  | some i =>
   obtain ⟨hi, hno, hall⟩ := opens_some hJ h
   have hfi := hop i h
   have hin := hJn i hi
   simp only []
   rw [filter_flatMap', filter_flatMap']
   have hsp : n - f = (i.toNat - f) + (o.toNat + 1) + (n - (i.toNat + o.toNat + 1)) := by omega
   rw [hsp, range_split, List.flatMap_append, List.flatMap_append, List.flatMap_map, List.flatMap_map]
   have e1 : ((List.range (i.toNat - f)).flatMap fun a => (chosen m n (f + a + 1) (now ++ [((f + a : Nat) : Int)])).filter (cov J o)) = [] := by
    apply flatMap_nil_of
    intro a ha
    have ha := List.mem_range.1 ha
    rw [List.filter_eq_nil_iff]
    intro x hx hcx
    obtain ⟨t, rfl, ht, htp, htb⟩ := (mem_chosen _ _ _ _ _).1 hx
    have h1 := hmin (now ++ t) (by
     rw [List.pairwise_append]
     exact ⟨hp, htp, fun r hr y hy => by have := hf r hr; have := htb y hy; omega⟩) (cov_iff.2 fun j hj => by
      by_cases hji : j < i
      ·obtain ⟨r, hr, hx⟩ := hall j hj hji
       exact ⟨r, by simp [hr], hx⟩
      ·obtain ⟨r, hr, hx⟩ := cov_iff.1 hcx j hj
       simp only [List.mem_append, List.mem_singleton] at hr
       rcases hr with (hr | hr) | hr
       ·exact ⟨r, by simp [hr], hx⟩
       ·omega
       ·exact ⟨r, by simp [hr], hx⟩)
    rw [List.length_append] at h1
    omega
   have e3 : ((List.range (n - (i.toNat + o.toNat + 1))).flatMap fun a => (chosen m n (f + (i.toNat - f + (o.toNat + 1) + a) + 1) (now ++ [((f + (i.toNat - f + (o.toNat + 1) + a) : Nat) : Int)])).filter (cov J o)) = [] := by
    apply flatMap_nil_of
    intro a ha
    rw [List.filter_eq_nil_iff]
    intro x hx hcx
    obtain ⟨t, rfl, ht, htp, htb⟩ := (mem_chosen _ _ _ _ _).1 hx
    obtain ⟨r, hr, hx⟩ := cov_iff.1 hcx i hi
    simp only [List.mem_append, List.mem_singleton] at hr
    rcases hr with (hr | hr) | hr
    ·exact hno r hr hx
    ·omega
    ·have := htb r hr
     omega
   rw [e1, e3, List.nil_append, List.append_nil]
   apply flatMap_congr'
   intro a ha
   have ha := List.mem_range.1 ha
   have e2 : ((f + (i.toNat - f + a) : Nat) : Int) = i + (a : Int) := by omega
   rw [e2]
   refine ih _ _ _ (by simp; omega) (by omega) ?_ ?_ ?_
   ·rw [List.pairwise_append]
    exact ⟨hp, by simp, fun r hr y hy => by have := hf r hr; rw [List.mem_singleton] at hy; omega⟩
   ·intro r hr
    rcases List.mem_append.1 hr with hr | hr
    ·have := hf r hr; omega
    ·rw [List.mem_singleton] at hr; omega
   ·intro i' h'
    obtain ⟨hi', hno', _⟩ := opens_some hJ h'
    have hgt : i < i' := by
     by_cases hlt : i' < i
     ·obtain ⟨r, hr, hx⟩ := hall i' hi' hlt
      exact absurd hx (hno' r (by simp [hr]))
     ·by_cases he : i' = i
      ·subst he
       exact absurd (by omega) (hno' (i' + a) (by simp))
      ·omega
    have := hno' (i + a) (by simp)
    omega
theorem keep_len {M : Nat} : ∀ (ls out : List (List Int)) (c : Nat), out ≠ [] → (∀ x ∈ out, x.length = c) → (∀ x ∈ ls, M ≤ x.length) → M ≤ c → ((∃ x ∈ ls, x.length = M) ∨ c = M) →
  ls.foldl keep out = (if c = M then out else []) ++ ls.filter fun x => decide (x.length = M)
 | [], out, c, hne, hc, _, _, hex => by
  rcases hex with ⟨x, hx, _⟩ | rfl
  ·cases hx
  ·simp
 | l :: ls, out, c, hne, hc, hge, hMc, hex => by
  have hh : (out.headD []).length = c := by
   cases out with
   | nil => exact absurd rfl hne
   | cons a out => exact hc a (by simp)
  have hpos : 0 < out.length := List.length_pos_iff.2 hne
  have hl := hge l (by simp)
  rw [List.foldl_cons]
  by_cases h1 : l.length < c
  ·have hk : keep out l = [l] := by
    unfold keep
    have : (decide (0 < out.length) && decide (l.length < (out.headD []).length)) = true := by rw [hh]; simp [hpos, h1]
    rw [this]; simp
   rw [hk, keep_len ls [l] l.length (by simp) (by simp) (fun x hx => hge x (List.mem_cons_of_mem _ hx)) hl (by
    rcases hex with ⟨x, hx, hxm⟩ | h
    ·rcases List.mem_cons.1 hx with rfl | hx
     ·exact .inr hxm
     ·exact .inl ⟨x, hx, hxm⟩
    ·omega)]
   rw [if_neg (show ¬ c = M by omega), List.filter_cons]
   by_cases e : l.length = M
   ·rw [if_pos e]; simp [e]
   ·rw [if_neg e]; simp [e]
  ·have hd : (decide (0 < out.length) && decide (l.length < (out.headD []).length)) = false := by rw [hh]; simp; omega
   by_cases h2 : l.length = c
   ·have hk : keep out l = out ++ [l] := by
     unfold keep
     rw [hd]; simp only [Bool.false_eq_true, if_false]; rw [if_pos (.inr (by rw [hh]; exact h2))]
    rw [hk, keep_len ls (out ++ [l]) c (by simp) (by
     intro x hx
     rcases List.mem_append.1 hx with hx | hx
     ·exact hc x hx
     ·rw [List.mem_singleton] at hx; rw [hx]; exact h2) (fun x hx => hge x (List.mem_cons_of_mem _ hx)) hMc (by
     rcases hex with ⟨x, hx, hxm⟩ | h
     ·rcases List.mem_cons.1 hx with rfl | hx
      ·exact .inr (by omega)
      ·exact .inl ⟨x, hx, hxm⟩
     ·exact .inr h)]
    rw [List.filter_cons]
    by_cases e : c = M
    ·rw [if_pos e, if_pos e]; simp [h2, e]
    ·rw [if_neg e, if_neg e]; simp [h2, e]
   ·have hk : keep out l = out := by
     unfold keep
     rw [hd]; simp only [Bool.false_eq_true, if_false]; rw [if_neg (by rw [hh]; omega)]
    rw [hk, keep_len ls out c hne hc (fun x hx => hge x (List.mem_cons_of_mem _ hx)) hMc (by
     rcases hex with ⟨x, hx, hxm⟩ | h
     ·rcases List.mem_cons.1 hx with rfl | hx
      ·omega
      ·exact .inl ⟨x, hx, hxm⟩
     ·exact .inr h)]
    rw [List.filter_cons]
    have : ¬ l.length = M := by omega
    simp [this]
theorem keep_all {M : Nat} {ls : List (List Int)} (hge : ∀ x ∈ ls, M ≤ x.length) (hex : ∃ x ∈ ls, x.length = M) : ls.foldl keep [] = ls.filter fun x => decide (x.length = M) := by
 cases ls with
 | nil => obtain ⟨x, hx, _⟩ := hex; cases hx
 | cons l ls =>
  rw [List.foldl_cons]
  have hk : keep [] l = [l] := by simp [keep]
  have hl := hge l (by simp)
  rw [hk, keep_len ls [l] l.length (by simp) (by simp) (fun x hx => hge x (List.mem_cons_of_mem _ hx)) hl (by
   obtain ⟨x, hx, hxm⟩ := hex
   rcases List.mem_cons.1 hx with rfl | hx
   ·exact .inr hxm
   ·exact .inl ⟨x, hx, hxm⟩), List.filter_cons]
  by_cases e : l.length = M
  ·rw [if_pos e]; simp [e]
  ·rw [if_neg e]; simp [e]
def Least (J : List Int) (o : Int) (M : Nat) : Prop := (∃ l : List Int, l.Pairwise (· < ·) ∧ cov J o l = true ∧ l.length = M) ∧ ∀ l : List Int, l.Pairwise (· < ·) → cov J o l = true → M ≤ l.length
theorem least_ex {J : List Int} {o : Int} (hJ : J.Pairwise (· < ·)) (ho : 0 ≤ o) : ∃ M, Least J o M ∧ M ≤ J.length := by
 have hc : cov J o J = true := cov_iff.2 fun i hi => ⟨i, hi, by omega⟩
 have key : ∀ N, (∃ l : List Int, l.Pairwise (· < ·) ∧ cov J o l = true ∧ l.length ≤ N) → ∃ M, Least J o M ∧ M ≤ N := by
  intro N
  induction N with
  | zero =>
   rintro ⟨l, h1, h2, h3⟩
   exact ⟨0, ⟨⟨l, h1, h2, by omega⟩, fun _ _ _ => Nat.zero_le _⟩, Nat.le_refl _⟩
  | succ N ih =>
   intro h
   by_cases h' : ∃ l : List Int, l.Pairwise (· < ·) ∧ cov J o l = true ∧ l.length ≤ N
   ·obtain ⟨M, hM, hle⟩ := ih h'
    exact ⟨M, hM, by omega⟩
   ·obtain ⟨l, h1, h2, h3⟩ := h
    have h4 : l.length = N + 1 := by
     by_cases e : l.length ≤ N
     ·exact absurd ⟨l, h1, h2, e⟩ h'
     ·omega
    exact ⟨N + 1, ⟨⟨l, h1, h2, h4⟩, fun l' p c => by
     by_cases e : l'.length ≤ N
     ·exact absurd ⟨l', p, c, e⟩ h'
     ·omega⟩, Nat.le_refl _⟩
 exact key J.length ⟨J, hJ, hc, Nat.le_refl _⟩
theorem least_chosen {J : List Int} {o : Int} {n M : Nat} (hJn : ∀ i ∈ J, 0 ≤ i ∧ i + o < (n : Int)) (h : Least J o M) : ∃ x, x ∈ (chosen M n 0 []).filter (cov J o) := by
 obtain ⟨⟨l, hp, hc, hl⟩, hmin⟩ := h
 have hc' : cov J o (l.filter fun r => decide (0 ≤ r) && decide (r < (n : Int))) = true := cov_mono hc fun r hr ⟨i, hi, hx⟩ => by
  have := hJn i hi
  rw [List.mem_filter]
  exact ⟨hr, by simp; omega⟩
 have hp' := hp.filter fun r => decide (0 ≤ r) && decide (r < (n : Int))
 have h1 := hmin _ hp' hc'
 have h2 := List.length_filter_le (fun r => decide (0 ≤ r) && decide (r < (n : Int))) l
 refine ⟨_, List.mem_filter.2 ⟨(mem_chosen _ _ _ _ _).2 ⟨_, (List.nil_append _).symm, by omega, hp', fun y hy => ?_⟩, hc'⟩⟩
 have := (List.mem_filter.1 hy).2
 simp at this
 omega
theorem lists_up {J : List Int} {o : Int} (hJ : J.Pairwise (· < ·)) (ho : 0 ≤ o) : ∀ (k : Nat) (now x : List Int), now.Pairwise (· < ·) → (∀ i, opens J o now = some i → ∀ r ∈ now, r < i) → x ∈ lists k J o now → x.Pairwise (· < ·)
 | 0, _, _, _, _, h => by simp [lists] at h
 | k + 1, now, x, hp, hop, h => by
  rw [lists] at h
  split at h
  ·rw [List.mem_singleton] at h; rw [h]; exact hp
  ·rename_i i hi
   obtain ⟨j, hj, hx⟩ := List.mem_flatMap.1 h
   have hj := List.mem_range.1 hj
   obtain ⟨hiJ, hno, hall⟩ := opens_some hJ hi
   have hlt := hop i hi
   refine lists_up hJ ho k _ x ?_ ?_ hx
   ·rw [List.pairwise_append]
    exact ⟨hp, by simp, fun r hr y hy => by have := hlt r hr; rw [List.mem_singleton] at hy; omega⟩
   ·intro i' h' r hr
    obtain ⟨hi', hno', _⟩ := opens_some hJ h'
    have hgt : i < i' := by
     by_cases hlt' : i' < i
     ·obtain ⟨r, hr, hx⟩ := hall i' hi' hlt'
      exact absurd hx (hno' r (by simp [hr]))
     ·by_cases he : i' = i
      ·subst he
       exact absurd (by omega) (hno' (i' + j) (by simp))
      ·omega
    have := hno' (i + j) (by simp)
    rcases List.mem_append.1 hr with hr | hr
    ·have := hlt r hr; omega
    ·rw [List.mem_singleton] at hr; omega
theorem kept_chosen {J : List Int} {o : Int} {n M : Nat} (hJ : J.Pairwise (· < ·)) (ho : 0 ≤ o) (hJn : ∀ i ∈ J, 0 ≤ i ∧ i + o < (n : Int)) (h : Least J o M) (hM : M ≤ J.length) :
  (lists (J.length + 1) J o []).foldl keep [] = (chosen M n 0 []).filter (cov J o) := by
 have e := chosen_lists (n := n) hJ ho hJn h.2 M 0 (J.length + 1) [] (by simp) (by omega) List.Pairwise.nil (by simp) (fun i hi => (hJn i (opens_some hJ hi).1).1)
 have hge : ∀ x ∈ lists (J.length + 1) J o [], M ≤ x.length := by
  intro x hx
  exact h.2 x (lists_up hJ ho _ [] x List.Pairwise.nil (fun i _ r hr => by cases hr) hx) (lists_cov _ _ _ _ _ hx)
 rw [e]
 refine keep_all hge ?_
 obtain ⟨x, hx⟩ := least_chosen (n := n) hJn h
 rw [e] at hx
 obtain ⟨h1, h2⟩ := List.mem_filter.1 hx
 exact ⟨x, h1, by simpa using h2⟩
end Go.Proofs.YtohlmoppcmjknaaGreatDoor.Col
end
section
namespace Go.Proofs.YtohlmoppcmjknaaGreatDoor.Col
def before : List Int → List Int → Bool
 | [], [] => false
 | [], _ :: _ => true
 | _ :: _, [] => false
 | a :: l, b :: m => if a = b then before l m else decide (a < b)
theorem before_self : ∀ l, before l l = false
 | [] => rfl
 | a :: l => by rw [before, if_pos rfl]; exact before_self l
theorem before_anti : ∀ l m, before l m = true → before m l = false
 | [], [], h => by simp [before] at h
 | [], _ :: _, _ => rfl
 | _ :: _, [], h => by simp [before] at h
 | a :: l, b :: m, h => by
  rw [before] at h ⊢
  by_cases e : a = b
  ·rw [if_pos e] at h; rw [if_pos e.symm]; exact before_anti l m h
  ·rw [if_neg e] at h; rw [if_neg (fun h => e h.symm)]; simp at h ⊢; omega
theorem before_append : ∀ (p l m : List Int), before (p ++ l) (p ++ m) = before l m
 | [], _, _ => rfl
 | a :: p, l, m => by show before (a :: (p ++ l)) (a :: (p ++ m)) = _; rw [before, if_pos rfl]; exact before_append p l m
theorem chosen_sorted : ∀ (m n f : Nat) (now : List Int), (chosen m n f now).Pairwise fun a b => before a b = true
 | 0, _, _, _ => by simp [chosen]
 | m + 1, n, f, now => by
  rw [chosen, List.pairwise_flatMap]
  refine ⟨fun j _ => chosen_sorted m n _ _, ?_⟩
  refine List.Pairwise.imp ?_ List.pairwise_lt_range
  intro a b hab x hx y hy
  obtain ⟨t, rfl, _⟩ := (mem_chosen _ _ _ _ _).1 hx
  obtain ⟨u, rfl, _⟩ := (mem_chosen _ _ _ _ _).1 hy
  rw [List.append_assoc, List.append_assoc, before_append]
  show before (((f + a : Nat) : Int) :: t) (((f + b : Nat) : Int) :: u) = true
  rw [before, if_neg (by omega)]
  simp; omega
end Go.Proofs.YtohlmoppcmjknaaGreatDoor.Col
end
section
namespace Go.Proofs.YtohlmoppcmjknaaGreatDoor.Col
theorem mem_jumping {ws : List Int} {lo hi i : Int} : i ∈ jumping ws lo hi ↔ ∃ k : Nat, i = k ∧ k < ws.length ∧ jumpsAt ws lo hi k = true := by
 unfold jumping
 simp only [List.mem_map, List.mem_filter, List.mem_range]
 constructor
 ·rintro ⟨k, ⟨h1, h2⟩, rfl⟩; exact ⟨k, rfl, h1, h2⟩
 ·rintro ⟨k, rfl, h1, h2⟩; exact ⟨k, ⟨h1, h2⟩, rfl⟩
theorem js_pw (l : List Int) (o lo hi : Int) : (js l o lo hi).Pairwise (· < ·) := by
 unfold js jumping
 rw [List.pairwise_map]
 exact List.Pairwise.imp (fun h => by exact_mod_cast h) (List.pairwise_lt_range.filter _)
theorem wins_len {l : List Int} {o : Int} (ho : 0 ≤ o) : (wins l o).length = l.length - o.toNat := by
 unfold wins
 split
 ·exact diffs_length _ _
 ·rw [List.length_nil]; omega
theorem js_bd {l : List Int} {o lo hi : Int} (ho : 0 ≤ o) : ∀ i ∈ js l o lo hi, 0 ≤ i ∧ i + o < (l.length : Int) := by
 intro i hi'
 obtain ⟨k, rfl, h1, _⟩ := mem_jumping.1 hi'
 rw [wins_len ho] at h1
 omega
theorem js_len (l : List Int) {o : Int} (ho : 0 ≤ o) (lo hi : Int) : (js l o lo hi).length ≤ l.length := by
 have h := List.length_filter_le (jumpsAt (wins l o) lo hi) (List.range (wins l o).length)
 unfold js jumping
 rw [List.length_map]
 rw [List.length_range, wins_len ho] at h
 rw [wins_len ho]
 omega
theorem wrongs_ex (l : List Int) {o : Int} (ho : 0 ≤ o) (lo hi : Int) :
  ∃ M, Least (js l o lo hi) o M ∧ wrongs l o lo hi = (chosen M l.length 0 []).filter (cov (js l o lo hi) o) ∧ wrongs l o lo hi ≠ [] := by
 obtain ⟨M, h1, h2⟩ := least_ex (js_pw l o lo hi) ho
 have e : wrongs l o lo hi = (chosen M l.length 0 []).filter (cov (js l o lo hi) o) := kept_chosen (js_pw l o lo hi) ho (js_bd ho) h1 h2
 refine ⟨M, h1, e, ?_⟩
 obtain ⟨x, hx⟩ := least_chosen (n := l.length) (js_bd ho) h1
 rw [e]
 exact List.ne_nil_of_mem hx
theorem chosen_len {m n f : Nat} {x : List Int} (h : x ∈ chosen m n f []) : x.length = m ∧ x.Pairwise (· < ·) ∧ ∀ y ∈ x, 0 ≤ y ∧ y < (n : Int) := by
 obtain ⟨t, rfl, h1, h2, h3⟩ := (mem_chosen _ _ _ _ _).1 h
 exact ⟨by simpa using h1, by simpa using h2, fun y hy => by have := h3 y (by simpa using hy); omega⟩
theorem wrong_first (l : List Int) {o : Int} (ho : 0 ≤ o) (lo hi : Int) {M : Nat} (h : Least (js l o lo hi) o M) :
  ∃ x rest, wrongs l o lo hi = x :: rest ∧ x.length = M ∧ x.Pairwise (· < ·) ∧ (∀ y ∈ x, 0 ≤ y ∧ y < (l.length : Int)) ∧ cov (js l o lo hi) o x = true := by
 obtain ⟨M', h', e, hne⟩ := wrongs_ex l ho lo hi
 have hM : M' = M := by
  obtain ⟨⟨a, a1, a2, a3⟩, a4⟩ := h
  obtain ⟨⟨b, b1, b2, b3⟩, b4⟩ := h'
  have := a4 b b1 b2
  have := b4 a a1 a2
  omega
 subst hM
 cases hw : wrongs l o lo hi with
 | nil => exact absurd hw hne
 | cons x rest =>
  have hx : x ∈ (chosen M' l.length 0 []).filter (cov (js l o lo hi) o) := by rw [← e, hw]; simp
  obtain ⟨hx1, hx2⟩ := List.mem_filter.1 hx
  obtain ⟨h1, h2, h3⟩ := chosen_len hx1
  exact ⟨x, rest, rfl, h1, h2, h3, hx2⟩
end Go.Proofs.YtohlmoppcmjknaaGreatDoor.Col
end
section
namespace Go.Proofs.YtohlmoppcmjknaaGreatDoor.P
open Go.RowKit Go.Proofs.YtohlmoppcmjknaaGreatDoorW.PrintWords Go.Proofs.YtohlmoppcmjknaaGreatDoorW.PrintLast Go.Proofs.YtohlmoppcmjknaaGreatDoorW.PrintMore
attribute [local go_sem] max2_int min2_int max_two min_two max_three min_three max_four min_four
set_option linter.unusedVariables false
set_option linter.unusedSimpArgs false
def R_Apart.l0 : Nat → List Int → Int → List Int → Int → Int → Int → Option (Bool)
 | 0, _, _, _, _, _, _ => none
 | k + 1, x1, x5, x434000, x434001, x434002, x434003 => if x5 < (x1.length : Int) then (if 0 ≤ x5 then (if 0 ≤ (wrap64 (x5 - 1)) then (if (wrap64 (x5 - 1)) < (x1.length : Int) then (if (wrap64 ((rd x1 x5) - (rd x1 (wrap64 (x5 - 1))))) ≤ x434001 then (some false) else (R_Apart.l0 k x1 (wrap64 (x5 + 1)) x434000 x434001 x434002 x434003)) else (none)) else (none)) else (none)) else (some true)
def R_Apart.f (k : Nat) (l0_0 : List Int) (a0_1 : Int) (a0_2 : Int) (a0_3 : Int) (l1 : List Int) : Option (Bool) := R_Apart.l0 k l1 1 l0_0 a0_1 a0_2 a0_3
set_option maxHeartbeats 8000000 in
set_option maxRecDepth 100000 in
theorem R_Apart.calls (k : Nat) (A0_0 : Option Addr) (c0_0 : Nat) (l0_0 : List Int) (a0_1 : Int) (a0_2 : Int) (a0_3 : Int) (A1 : Option Addr) (c1 : Nat) (l1 : List Int) (r : Bool) (w : World) (hr0_0 : Kd.C (Kd.int .i64) w A0_0 l0_0.length l0_0) (hc0_0 : l0_0.length ≤ c0_0) (hr1 : Kd.C (Kd.int .i64) w A1 l1.length l1) (hc1 : l1.length ≤ c1) (h : R_Apart.f k l0_0 a0_1 a0_2 a0_3 l1 = some r) :
  Calls Tryz.prog 44 #[.agg #[.slice A0_0 l0_0.length c0_0, .int .i64 a0_1, .int .i64 a0_2, .int .i64 a0_3], .slice A1 l1.length c1] w fun e w' => e = .returned (.bool r) ∧ Below w.heap.size w w' := by
 have hu26 := Tryz.underlying26
 have HR0_0 := Aside0.mk hr0_0
 have HC0_0 := Aside0.mk hc0_0
 clear hr0_0 hc0_0
 have HR1 := Aside0.mk hr1
 have HC1 := Aside0.mk hc1
 clear hr1 hc1
 have HB := Aside0.mk (Below.refl w.heap.size w)
 have H : (R_Apart.l0 k l1 1 l0_0 a0_1 a0_2 a0_3) = some r := h
 clear h
 have H' := Aside0.mk H
 clear H
 go_enter Tryz.func44, Tryz.ntmps44
 go_wp2_with (first | ((with_reducible refine gate_dst (N := 2) rfl ?_); refine box_event ?hg (N := 2) ?hd (cs := #[.slice A0_0 l0_0.length c0_0, .int .i64 a0_1, .int .i64 a0_2, .int .i64 a0_3]) (t := 26) ?hr ?_; (case hd => rfl); (case hg => rfl); (case hr => first | (go_simp; done) | (go_simp; rfl)); intro gb433 hg w3 hbox hb; have n0_ := Aside0.mk (below_step (wup HB.out) hb); have n1_ := Aside0.mk (hbox); have n2_ := Aside0.mk ((by rw [hg]; exact (below_size (wup HB.out)) : w.heap.size ≤ gb433)); have n3_ := Aside0.mk ((by rw [hg]; exact (below_size (wup HB.out)) : w.heap.size ≤ gb433)); clear HB; have HB := n0_; have BK433 := n1_; have GW433 := n2_; have GE433 := n3_; clear n0_ n1_ n2_ n3_; clear hb hbox hg))
 repeat (go_quiet (first | ((with_reducible refine gate_dst (N := 2) rfl ?_); refine box_event ?hg (N := 2) ?hd (cs := #[.slice A0_0 l0_0.length c0_0, .int .i64 a0_1, .int .i64 a0_2, .int .i64 a0_3]) (t := 26) ?hr ?_; (case hd => rfl); (case hg => rfl); (case hr => first | (go_simp; done) | (go_simp; rfl)); intro gb433 hg w3 hbox hb; have n0_ := Aside0.mk (below_step (wup HB.out) hb); have n1_ := Aside0.mk (hbox); have n2_ := Aside0.mk ((by rw [hg]; exact (below_size (wup HB.out)) : w.heap.size ≤ gb433)); have n3_ := Aside0.mk ((by rw [hg]; exact (below_size (wup HB.out)) : w.heap.size ≤ gb433)); clear HB; have HB := n0_; have BK433 := n1_; have GW433 := n2_; have GE433 := n3_; clear n0_ n1_ n2_ n3_; clear hb hbox hg)); try go_wp2_with (first | ((with_reducible refine gate_dst (N := 2) rfl ?_); refine box_event ?hg (N := 2) ?hd (cs := #[.slice A0_0 l0_0.length c0_0, .int .i64 a0_1, .int .i64 a0_2, .int .i64 a0_3]) (t := 26) ?hr ?_; (case hd => rfl); (case hg => rfl); (case hr => first | (go_simp; done) | (go_simp; rfl)); intro gb433 hg w3 hbox hb; have n0_ := Aside0.mk (below_step (wup HB.out) hb); have n1_ := Aside0.mk (hbox); have n2_ := Aside0.mk ((by rw [hg]; exact (below_size (wup HB.out)) : w.heap.size ≤ gb433)); have n3_ := Aside0.mk ((by rw [hg]; exact (below_size (wup HB.out)) : w.heap.size ≤ gb433)); clear HB; have HB := n0_; have BK433 := n1_; have GW433 := n2_; have GE433 := n3_; clear n0_ n1_ n2_ n3_; clear hb hbox hg)))
 go_loopg [5] k (fun kq v5 w' => ∃ (x5_1 : Int), v5 = .int .i64 x5_1 ∧ Aside0 (R_Apart.l0 kq l1 x5_1 l0_0 a0_1 a0_2 a0_3 = some r) ∧ Aside0 (kq ≤ k) ∧ Aside0 (w'.heap[gb433]? = some (.cells #[(.slice A0_0 l0_0.length c0_0), .int .i64 a0_1, .int .i64 a0_2, .int .i64 a0_3] 26 (0, 0))) ∧ Aside0 (Below w.heap.size w w'))
 case atStart => exact ⟨(1), (by first | rfl | (simp; done) | (simp [*]; done)), H', ⟨Nat.le_refl _⟩, ⟨bup BK433.out⟩, ⟨by repeat (first | (with_reducible first | exact HB.out | apply below_alloc | apply pw_below_drewN | apply below_drew1 | refine below_set ?_ GE433.out) | exact HB.out)⟩⟩
 case round =>
  clear H'
  obtain ⟨x5_1, rfl, HA, HK1, BK433, HB⟩ := hrel
  cases gk with
  | zero => exact absurd HA.out (by simp [R_Apart.l0])
  | succ k1 =>
   have H := HA.out
   clear HA
   simp only [R_Apart.l0] at H
   by_cases c4 : x5_1 < (l1.length : Int)
   ·rw [if_pos c4] at H
    have c4b0 : decide (x5_1 < (l1.length : Int)) = true := decide_eq_true c4
    clear c4
    by_cases c5 : 0 ≤ x5_1
    ·rw [if_pos c5] at H
     have c5b0 : decide (0 ≤ x5_1) = true := decide_eq_true c5
     clear c5
     obtain ⟨ji6, hji6⟩ : ∃ j_ : Int, (wrap64 (x5_1 - 1)) = j_ := ⟨_, rfl⟩
     replace H : (if 0 ≤ (ji6) then (if (ji6) < (l1.length : Int) then (if (wrap64 ((rd l1 x5_1) - (rd l1 (ji6)))) ≤ a0_1 then (some false) else (R_Apart.l0 k1 l1 (wrap64 (x5_1 + 1)) l0_0 a0_1 a0_2 a0_3)) else (none)) else (none)) = some r := by first | (rw [hji6] at H; exact H) | (simp only [hji6] at H ⊢; exact H)
     have hji6w : (IntKind.i64.wrap (x5_1 - 1)) = ji6 := (i64_w _).trans hji6
     by_cases c7 : 0 ≤ (ji6)
     ·rw [if_pos c7] at H
      have c7b0 : decide (0 ≤ (ji6)) = true := decide_eq_true c7
      clear c7
      by_cases c8 : (ji6) < (l1.length : Int)
      ·rw [if_pos c8] at H
       have c8b0 : decide ((ji6) < (l1.length : Int)) = true := decide_eq_true c8
       clear c8
       by_cases c9 : (wrap64 ((rd l1 x5_1) - (rd l1 (ji6)))) ≤ a0_1
       ·rw [if_pos c9] at H
        have c9b0 : decide ((wrap64 ((rd l1 x5_1) - (rd l1 (ji6)))) ≤ a0_1) = true := decide_eq_true c9
        clear c9
        obtain rfl := Option.some.inj H
        have p434 : 0 ≤ (x5_1 : Int) := of_decide_eq_true (by first | (with_reducible assumption) | assumption)
        have q434 : x5_1 < (l1.length : Int) := of_decide_eq_true (by first | (with_reducible assumption) | assumption)
        obtain ⟨ad434, e434, hx434_0⟩ := Kd.at_int HR1.out x5_1 p434 q434
        cases e434
        replace hx434_0 := (HB.out.cell (World.block_lt_of_cell? w _ hx434_0)).trans hx434_0
        replace p434 := eq_true p434
        replace q434 := eq_true q434
        have p435 : 0 ≤ ((ji6) : Int) := of_decide_eq_true (by first | (with_reducible assumption) | assumption)
        have q435 : (ji6) < (l1.length : Int) := of_decide_eq_true (by first | (with_reducible assumption) | assumption)
        obtain ⟨ad435, e435, hx435_0⟩ := Kd.at_int HR1.out (ji6) p435 q435
        obtain rfl : ad434 = ad435 := (by injection e435)
        replace hx435_0 := (HB.out.cell (World.block_lt_of_cell? w _ hx435_0)).trans hx435_0
        replace p435 := eq_true p435
        replace q435 := eq_true q435
        have hcz10_0 : wr.cell? ⟨gb433, 0, none⟩ = some (.slice A0_0 l0_0.length c0_0) := (blk_cell BK433.out 0).trans rfl
        have hcz10_1 : wr.cell? ⟨gb433, 1, none⟩ = some (.int .i64 a0_1) := (blk_cell BK433.out 1).trans rfl
        have hcz10_2 : wr.cell? ⟨gb433, 2, none⟩ = some (.int .i64 a0_2) := (blk_cell BK433.out 2).trans rfl
        have hcz10_3 : wr.cell? ⟨gb433, 3, none⟩ = some (.int .i64 a0_3) := (blk_cell BK433.out 3).trans rfl
        have hfz10_0 := blk_frozen BK433.out 0
        have hfz10_1 := blk_frozen BK433.out 1
        have hfz10_2 := blk_frozen BK433.out 2
        have hfz10_3 := blk_frozen BK433.out 3
        go_wp2
        repeat (go_quiet (fail); try go_wp2)
        go_ret
        exact ⟨by first | rfl | (simp [errW_none, errW_some] <;> rfl) | (simp only [← hji6]; first | rfl | (simp [errW_none, errW_some] <;> rfl)) | (simp [*, errW_none, errW_some] <;> rfl), by repeat (first | (with_reducible first | exact HB.out | apply below_alloc | apply pw_below_drewN | apply below_drew1 | refine below_set ?_ GE433.out) | exact HB.out)⟩
       ·rw [if_neg c9] at H
        have c9b0 : decide ((wrap64 ((rd l1 x5_1) - (rd l1 (ji6)))) ≤ a0_1) = false := decide_eq_false c9
        clear c9
        have H' := Aside0.mk H
        clear H
        have p434 : 0 ≤ (x5_1 : Int) := of_decide_eq_true (by first | (with_reducible assumption) | assumption)
        have q434 : x5_1 < (l1.length : Int) := of_decide_eq_true (by first | (with_reducible assumption) | assumption)
        obtain ⟨ad434, e434, hx434_0⟩ := Kd.at_int HR1.out x5_1 p434 q434
        cases e434
        replace hx434_0 := (HB.out.cell (World.block_lt_of_cell? w _ hx434_0)).trans hx434_0
        replace p434 := eq_true p434
        replace q434 := eq_true q434
        have p435 : 0 ≤ ((ji6) : Int) := of_decide_eq_true (by first | (with_reducible assumption) | assumption)
        have q435 : (ji6) < (l1.length : Int) := of_decide_eq_true (by first | (with_reducible assumption) | assumption)
        obtain ⟨ad435, e435, hx435_0⟩ := Kd.at_int HR1.out (ji6) p435 q435
        obtain rfl : ad434 = ad435 := (by injection e435)
        replace hx435_0 := (HB.out.cell (World.block_lt_of_cell? w _ hx435_0)).trans hx435_0
        replace p435 := eq_true p435
        replace q435 := eq_true q435
        have hcz11_0 : wr.cell? ⟨gb433, 0, none⟩ = some (.slice A0_0 l0_0.length c0_0) := (blk_cell BK433.out 0).trans rfl
        have hcz11_1 : wr.cell? ⟨gb433, 1, none⟩ = some (.int .i64 a0_1) := (blk_cell BK433.out 1).trans rfl
        have hcz11_2 : wr.cell? ⟨gb433, 2, none⟩ = some (.int .i64 a0_2) := (blk_cell BK433.out 2).trans rfl
        have hcz11_3 : wr.cell? ⟨gb433, 3, none⟩ = some (.int .i64 a0_3) := (blk_cell BK433.out 3).trans rfl
        have hfz11_0 := blk_frozen BK433.out 0
        have hfz11_1 := blk_frozen BK433.out 1
        have hfz11_2 := blk_frozen BK433.out 2
        have hfz11_3 := blk_frozen BK433.out 3
        go_wp2
        repeat (go_quiet (fail); try go_wp2)
        go_roundg k1
        case measure => have := HK1.out; omega
        case rel => exact ⟨(wrap64 (x5_1 + 1)), (by first | rfl | (simp; done) | (simp [*]; done)), H', ⟨by have := HK1.out; omega⟩, ⟨bup BK433.out⟩, ⟨by repeat (first | (with_reducible first | exact HB.out | apply below_alloc | apply pw_below_drewN | apply below_drew1 | refine below_set ?_ GE433.out) | exact HB.out)⟩⟩
      ·rw [if_neg c8] at H
       exact absurd H (by simp)
     ·rw [if_neg c7] at H
      exact absurd H (by simp)
    ·rw [if_neg c5] at H
     exact absurd H (by simp)
   ·rw [if_neg c4] at H
    have c4b0 : decide (x5_1 < (l1.length : Int)) = false := decide_eq_false c4
    clear c4
    obtain rfl := Option.some.inj H
    go_wp2
    repeat (go_quiet (fail); try go_wp2)
    go_ret
    exact ⟨by first | rfl | (simp [errW_none, errW_some] <;> rfl) | (simp [*, errW_none, errW_some] <;> rfl), by repeat (first | (with_reducible first | exact HB.out | apply below_alloc | apply pw_below_drewN | apply below_drew1 | refine below_set ?_ GE433.out) | exact HB.out)⟩
end Go.Proofs.YtohlmoppcmjknaaGreatDoor.P
end
section
namespace Go.Proofs.YtohlmoppcmjknaaGreatDoor.U
open Go.RowKit Go.Proofs.YtohlmoppcmjknaaGreatDoorW.PrintWords Go.Proofs.YtohlmoppcmjknaaGreatDoorW.PrintLast
open Go.Proofs.YtohlmoppcmjknaaGreatDoor.Col (nth inr)
set_option linter.unusedVariables false
theorem listed_ev (l : List Int) (a : Int) (hl : l.length ≤ 1000000) : Ev (fun k => P.T_Listed.f k l a) (decide (a ∈ l)) := by
 have h := loop_up (g := fun k i => P.T_Listed.l0 k l a i) (n := l.length) (r := fun i => decide (a ∈ l.drop i)) ?_ ?_ 0 (Nat.zero_le _)
 ·exact h
 ·refine Ev.step (f := fun _ => some _) (fun k => ?_) (Ev.now _)
  rw [P.T_Listed.l0, if_neg (by omega)]; simp
 ·intro i hil ih
  have hd := drop_cons l 0 hil
  by_cases e : nth l i = a
  ·refine Ev.step (f := fun _ => some true) (fun k => by rw [P.T_Listed.l0, if_pos (by omega), if_pos (by omega), rd_nth, if_pos e]) ?_
   rw [show decide (a ∈ l.drop i) = true by rw [decide_eq_true_eq, hd, ← e]; simp [nth]]
   exact Ev.now _
  ·refine Ev.step (f := fun k => P.T_Listed.l0 k l a ((i + 1 : Nat) : Int)) (fun k => by rw [P.T_Listed.l0, if_pos (by omega), if_pos (by omega), rd_nth, if_neg e, w1 hil hl]) ?_
   rw [show decide (a ∈ l.drop i) = decide (a ∈ l.drop (i + 1)) by
    rw [hd, decide_eq_decide, List.mem_cons]
    exact ⟨fun h => h.resolve_left fun c => e c.symm, .inr⟩]
   exact ih
def up1 (m : Int) : Int → List Int → Bool
 | _, [] => true
 | p, a :: l => inr a 0 m && decide (p < a) && up1 m a l
theorem up1_iff {m : Int} : ∀ {p : Int} {l : List Int}, up1 m p l = true ↔ (∀ x ∈ l, 0 ≤ x ∧ x ≤ m ∧ p < x) ∧ l.Pairwise (· < ·)
 | p, [] => by simp [up1]
 | p, a :: l => by
  rw [up1, Bool.and_eq_true, up1_iff (p := a), Bool.and_eq_true]
  simp only [inr, Bool.and_eq_true, decide_eq_true_eq, List.mem_cons, List.pairwise_cons]
  constructor
  ·rintro ⟨⟨⟨h1, h2⟩, h3⟩, h4, h5⟩
   refine ⟨?_, fun x hx => (h4 x hx).2.2, h5⟩
   rintro x (rfl | hx)
   ·exact ⟨h1, h2, h3⟩
   ·have := h4 x hx; exact ⟨this.1, this.2.1, by omega⟩
  ·rintro ⟨h1, h2, h3⟩
   have := h1 a (.inl rfl)
   exact ⟨⟨⟨this.1, this.2.1⟩, this.2.2⟩, fun x hx => ⟨(h1 x (.inr hx)).1, (h1 x (.inr hx)).2.1, h2 x hx⟩, h3⟩
def prev (l : List Int) (i : Nat) : Int := if i = 0 then -1 else nth l (i - 1)
theorem rising_ev (l : List Int) (m : Int) (hl : l.length ≤ 1000000) : Ev (fun k => P.R_Rising.f k l m) (up1 m (-1) l) := by
 have h := loop_up (g := fun k i => P.R_Rising.l0 k l m i) (n := l.length) (r := fun i => up1 m (prev l i) (l.drop i)) ?_ ?_ 0 (Nat.zero_le _)
 ·exact h
 ·refine Ev.step (f := fun _ => some _) (fun k => ?_) (Ev.now _)
  rw [P.R_Rising.l0, if_neg (by omega)]; simp [up1]
 ·intro i hil ih
  have hd := drop_cons l 0 hil
  have hp : prev l (i + 1) = nth l i := by simp [prev]
  rw [hp] at ih
  have hr : up1 m (prev l i) (l.drop i) = (inr (nth l i) 0 m && decide (prev l i < nth l i) && up1 m (nth l i) (l.drop (i + 1))) := by rw [hd]; rfl
  rw [hr]
  cases hv : inr (nth l i) 0 m with
  | false =>
   refine Ev.step (f := fun _ => some false) (fun k => ?_) (Ev.now _)
   rw [P.R_Rising.l0, if_pos (by omega), if_pos (by omega), rd_nth, in_some, hv]; rfl
  | true =>
   have hge : 0 ≤ nth l i := by simp [inr] at hv; exact hv.1
   by_cases h0 : i = 0
   ·subst h0
    have hlt : decide (prev l 0 < nth l 0) = true := by rw [decide_eq_true_eq, prev, if_pos rfl]; omega
    rw [hlt]
    refine Ev.step (f := fun k => P.R_Rising.l0 k l m ((0 + 1 : Nat) : Int)) (fun k => ?_) (by simpa using ih)
    rw [P.R_Rising.l0, if_pos (by omega), if_pos (by omega), rd_nth, in_some, hv]
    simp only [Option.bind_some, if_true]
    rw [if_neg (by omega), w1 hil hl]
   ·have hw := w1' (i := i) (by omega) (by omega)
    by_cases hlt : prev l i < nth l i
    ·rw [decide_eq_true hlt]
     refine Ev.step (f := fun k => P.R_Rising.l0 k l m ((i + 1 : Nat) : Int)) (fun k => ?_) (by simpa using ih)
     rw [prev, if_neg h0] at hlt
     rw [P.R_Rising.l0, if_pos (by omega), if_pos (by omega), rd_nth, in_some, hv]
     simp only [Option.bind_some, if_true]
     rw [if_pos (by omega), hw, if_pos (by omega), if_pos (by omega), rd_nth, if_neg (by omega), w1 hil hl]
    ·rw [decide_eq_false hlt]
     refine Ev.step (f := fun _ => some false) (fun k => ?_) (Ev.now _)
     rw [prev, if_neg h0] at hlt
     rw [P.R_Rising.l0, if_pos (by omega), if_pos (by omega), rd_nth, in_some, hv]
     simp only [Option.bind_some, if_true]
     rw [if_pos (by omega), hw, if_pos (by omega), if_pos (by omega), rd_nth, if_pos (by omega)]
theorem before_ev (l m : List Int) (hl : l.length ≤ 1000000) : Ev (fun k => P.T_Before.f k l m) (Col.before l m) := by
 have h := loop_up (g := fun k i => P.T_Before.l0 k l m i) (n := l.length) (r := fun i => if i ≤ m.length then Col.before (l.drop i) (m.drop i) else false) ?_ ?_ 0 (Nat.zero_le _)
 ·rw [if_pos (Nat.zero_le _)] at h
  exact h
 ·refine Ev.step (f := fun k => P.T_Before.j1 k l m (l.length : Int) false) (fun k => by rw [P.T_Before.l0, if_neg (by omega)]) ?_
  refine Ev.step (f := fun _ => some _) (fun k => by rw [P.T_Before.j1, if_neg (by decide)]) ?_
  have e : decide ((l.length : Int) < (m.length : Int)) = (if l.length ≤ m.length then Col.before (l.drop l.length) (m.drop l.length) else false) := by
   rw [List.drop_length]
   by_cases h1 : l.length < m.length
   ·rw [if_pos (by omega), drop_cons m 0 h1, Col.before]; simp; omega
   ·rw [show decide ((l.length : Int) < (m.length : Int)) = false by simp; omega]
    split
    ·rw [List.drop_of_length_le (by omega)]; rfl
    ·rfl
  rw [e]; exact Ev.now _
 ·intro i hil ih
  have e1 := drop_cons l 0 hil
  by_cases him : i < m.length
  ·have e2 := drop_cons m 0 him
   rw [if_pos (by omega)]
   rw [if_pos (by omega)] at ih
   refine Ev.step (f := fun k => P.T_Before.j1 k l m (i : Int) true) (fun k => by rw [P.T_Before.l0, if_pos (by omega), show decide ((i : Int) < (m.length : Int)) = true by simp; omega]) ?_
   by_cases e : nth l i = nth m i
   ·refine Ev.step (f := fun k => P.T_Before.l0 k l m ((i + 1 : Nat) : Int)) (fun k => by rw [P.T_Before.j1, if_pos rfl, if_pos (by omega), if_pos (by omega), if_pos (by omega), rd_nth, rd_nth, if_pos e, w1 hil hl]) ?_
    rw [e1, e2, Col.before, if_pos (show l.getD i 0 = m.getD i 0 from e)]
    exact ih
   ·refine Ev.step (f := fun _ => some (decide (nth l i < nth m i))) (fun k => by rw [P.T_Before.j1, if_pos rfl, if_pos (by omega), if_pos (by omega), if_pos (by omega), rd_nth, rd_nth, if_neg e]) ?_
    rw [e1, e2, Col.before, if_neg (show ¬ l.getD i 0 = m.getD i 0 from e)]
    exact Ev.now _
  ·refine Ev.step (f := fun k => P.T_Before.j1 k l m (i : Int) false) (fun k => by rw [P.T_Before.l0, if_pos (by omega), show decide ((i : Int) < (m.length : Int)) = false by simp; omega]) ?_
   refine Ev.step (f := fun _ => some false) (fun k => by rw [P.T_Before.j1, if_neg (by decide), show decide ((l.length : Int) < (m.length : Int)) = false by simp; omega]) ?_
   have : (if i ≤ m.length then Col.before (l.drop i) (m.drop i) else false) = false := by
    split
    ·rw [List.drop_of_length_le (show m.length ≤ i by omega), e1]; rfl
    ·rfl
   rw [this]; exact Ev.now _
end Go.Proofs.YtohlmoppcmjknaaGreatDoor.U
end
section
namespace Go.Proofs.YtohlmoppcmjknaaGreatDoor.U
open Go.RowKit Go.Proofs.YtohlmoppcmjknaaGreatDoorW.PrintWords Go.Proofs.YtohlmoppcmjknaaGreatDoorW.PrintLast
open Go.Proofs.YtohlmoppcmjknaaGreatDoor.Col (nth inr)
set_option linter.unusedVariables false
theorem same_ev (l m : List Int) (hl : l.length ≤ 1000000) : Ev (fun k => P.T_Same.f k l m) (decide (l = m)) := by
 by_cases e : l.length = m.length
 ·refine Ev.congr (f := fun k => P.T_Same.l0 k l m 0) (fun k => by unfold P.T_Same.f; rw [if_pos (by omega)]) ?_
  have h := loop_up (g := fun k i => P.T_Same.l0 k l m i) (n := l.length) (r := fun i => decide (l.drop i = m.drop i)) ?_ ?_ 0 (Nat.zero_le _)
  ·exact h
  ·refine Ev.step (f := fun _ => some _) (fun k => ?_) (Ev.now _)
   rw [P.T_Same.l0, if_neg (by omega)]
   simp [e]
  ·intro i hil ih
   have hd := drop_cons l 0 hil
   have hd' := drop_cons m 0 (i := i) (by omega)
   have hs : P.T_Same.l0 = P.T_Same.l0 := rfl
   by_cases ev : nth l i = nth m i
   ·refine Ev.step (f := fun k => P.T_Same.l0 k l m ((i + 1 : Nat) : Int)) (fun k => ?_) ?_
    ·rw [P.T_Same.l0, if_pos (by omega), if_pos (by omega), if_pos (by omega), rd_nth, rd_nth, if_pos ev, w1 hil hl]
    ·rw [hd, hd', show l.getD i 0 = m.getD i 0 from ev]
     have : decide (m.getD i 0 :: l.drop (i + 1) = m.getD i 0 :: m.drop (i + 1)) = decide (l.drop (i + 1) = m.drop (i + 1)) := by simp
     rw [this]; exact ih
   ·refine Ev.step (f := fun _ => some false) (fun k => ?_) ?_
    ·rw [P.T_Same.l0, if_pos (by omega), if_pos (by omega), if_pos (by omega), rd_nth, rd_nth, if_neg ev]
    ·have : decide (l.drop i = m.drop i) = false := by
      rw [decide_eq_false_iff_not, hd, hd']
      intro c
      exact ev (List.cons.inj c).1
     rw [this]; exact Ev.now _
 ·refine Ev.congr (f := fun _ => some false) (fun k => by unfold P.T_Same.f; rw [if_neg (by omega)]) ?_
  have : decide (l = m) = false := by
   rw [decide_eq_false_iff_not]
   intro c; exact e (by rw [c])
  rw [this]; exact Ev.now _
end Go.Proofs.YtohlmoppcmjknaaGreatDoor.U
end
