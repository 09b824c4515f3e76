/- Contracts of the program's functions, and the words that their proofs take (joined out of several texts). -/
import Derived.Test.YtohlmoppcmjknaaGreatDoorM2
import Derived.Test.YtohlmoppcmjknaaGreatDoorM3
import Derived.Test.YtohlmoppcmjknaaGreatDoorM4
import Derived.Test.YtohlmoppcmjknaaGreatDoorM5
import Derived.Test.YtohlmoppcmjknaaGreatDoorM6
import Derived.Test.YtohlmoppcmjknaaGreatDoorM7
import Derived.Test.YtohlmoppcmjknaaGreatDoorM12
import Derived.Test.YtohlmoppcmjknaaGreatDoorM14
import Derived.Test.YtohlmoppcmjknaaGreatDoorM17
import Derived.Test.YtohlmoppcmjknaaGreatDoorM19
section
namespace Go.Proofs.YtohlmoppcmjknaaGreatDoor.P
open Go.RowKit Go.Proofs.YtohlmoppcmjknaaGreatDoorW.PrintWords Go.Proofs.YtohlmoppcmjknaaGreatDoorW.PrintLast Go.Proofs.YtohlmoppcmjknaaGreatDoorW.PrintMore
attribute [local go_sem] max2_int min2_int max_two min_two max_three min_three max_four min_four
set_option linter.unusedVariables false
set_option linter.unusedSimpArgs false
attribute [local go_sem high] eqA24
mutual
def K_known.j0 : Nat → List Int → List Int → Int → List Int → Int → List Int → List Int → List (S70) → Int → Int → List Int → List (S70) → Bool → Int → Int → Int → Int → List Int → Int → Int → Int → Option (Bool)
 | 0, _, _, _, _, _, _, _, _, _, _, _, _, _, _, _, _, _, _, _, _, _ => none
 | k + 1, x1, x3, x7, x9, x11, x13, x15, x19, x21, x22, x24, x26, x155, x354000, x354001, x410000, x410001, x457000, x457001, x457002, x457003 => if x155 = true then (some false) else ((T_Same.f k x1 (([2, 2, 2, 3, 0, 3] : List Int))).bind fun t460 => (if t460 = true then ((T_Same.f k x3 (([3, 4, 5] : List Int))).bind fun t464 => (if t464 = true then ((L_span.f 0 3).bind fun bt465 => (if (!(x354000 == bt465.1) || (!(x354001 == bt465.2))) = true then (K_known.j1 k x19 x21 x22 x24 x26 true x457000 x457001 x457002 x457003) else (if x7 = 2 then ((T_Same.f k x9 (([0, 3] : List Int))).bind fun t470 => (if t470 = true then (if x11 = 6 then ((R_SameWords.f k x13 (([1, 1, 2, 2, 1, 1] : List Int))).bind fun t474 => (if t474 = true then ((T_Same.f k x15 (([0, 3] : List Int))).bind fun t478 => (if t478 = true then ((L_span.f 25 25).bind fun bt479 => (K_known.j1 k x19 x21 x22 x24 x26 (!(x410000 == bt479.1) || (!(x410001 == bt479.2))) x457000 x457001 x457002 x457003)) else (K_known.j1 k x19 x21 x22 x24 x26 true x457000 x457001 x457002 x457003))) else (K_known.j1 k x19 x21 x22 x24 x26 true x457000 x457001 x457002 x457003))) else (K_known.j1 k x19 x21 x22 x24 x26 true x457000 x457001 x457002 x457003)) else (K_known.j1 k x19 x21 x22 x24 x26 true x457000 x457001 x457002 x457003))) else (K_known.j1 k x19 x21 x22 x24 x26 true x457000 x457001 x457002 x457003)))) else (K_known.j1 k x19 x21 x22 x24 x26 true x457000 x457001 x457002 x457003))) else (K_known.j1 k x19 x21 x22 x24 x26 true x457000 x457001 x457002 x457003)))
def K_known.j1 : Nat → List (S70) → Int → Int → List Int → List (S70) → Bool → List Int → Int → Int → Int → Option (Bool)
 | 0, _, _, _, _, _, _, _, _, _, _ => none
 | k + 1, x19, x21, x22, x24, x26, x207, x457000, x457001, x457002, x457003 => if x207 = true then (some false) else ((L_span.f 25 25).bind fun bt481 => ((R_SameFixes.f k x19 (([(⟨5, (⟨bt481.1, bt481.2⟩ : S24)⟩ : S70)] : List (S70)))).bind fun t486 => (if t486 = true then (if x21 = 5 then (if x22 = 25 then ((T_Same.f k x24 (([2] : List Int))).bind fun t490 => (if t490 = true then ((L_span.f 9 9).bind fun bt491 => ((R_SameFixes.f k x26 (([(⟨3, (⟨bt491.1, bt491.2⟩ : S24)⟩ : S70)] : List (S70)))).bind fun t496 => (if t496 = true then ((R_Print.f k x457000 x457001 x457002 x457003).bind fun t497 => (some (t497.toList == ([99, 111, 108, 117, 109, 110, 32, 49, 32, 48, 32, 50, 10, 114, 111, 119, 32, 55, 10, 101, 110, 100, 32, 48, 56, 57, 10] : List UInt8)))) else (some false)))) else (some false))) else (some false)) else (some false)) else (some false))))
end
def K_known.T18 : Bool × List (List Nat × List Nat) := (true, [([], []), ([], []), ([0, 1], [0, 1]), ([2], [2]), ([3, 2], [3]), ([4], [4]), ([4], [4]), ([5, 6, 4, 4], [4, 5, 6]), ([7, 4], [4, 7]), ([4, 8], [4, 8]), ([9, 7], [9]), ([10], [10]), ([10, 10], [10]), ([11, 12, 10], [10, 11, 12]), ([10, 13], [10, 13]), ([14, 12], [14]), ([15], [15]), ([16, 15], [15, 16]), ([15, 17], [15, 17]), ([18, 15], [18]), ([19], [19]), ([19], [19]), ([20, 21, 19, 19], [19, 20, 21]), ([22, 19], [19, 22]), ([19, 23], [19, 23]), ([24, 22], [24]), ([25], [25]), ([26, 25], [25, 26]), ([25, 27], [25, 27]), ([28, 25], [28]), ([29], [29]), ([29], [29]), ([29], [29]), ([29], [29]), ([29], [29]), ([29], [29]), ([29], [29]), ([31, 32, 33, 34, 35, 36, 29], [29, 31, 32, 33, 34, 35, 36]), ([30, 37, 29, 29], [29, 30, 37]), ([38, 29], [29, 38]), ([29, 39], [29, 39]), ([40, 38], [40]), ([41], [41]), ([41], [41]), ([42, 43, 41, 41], [41, 42, 43]), ([44, 41], [41, 44]), ([41, 45], [41, 45]), ([46, 44], [46]), ([47], [47]), ([47, 47], [47]), ([48, 49, 47], [47, 48, 49]), ([47, 50], [47, 50])])
def K_known.B18 : List Nat := [0, 0, 3, 7, 15, 31, 31, 127, 255, 511, 1023, 2047, 2047, 8191, 16383, 32767, 65535, 131071, 262143, 524287, 1048575, 1048575, 4194303, 8388607, 16777215, 33554431, 67108863, 134217727, 268435455, 536870911, 1073741823, 1073741823, 1073741823, 1073741823, 1073741823, 1073741823, 1073741823, 136365211647, 274877906943, 549755813887, 1099511627775, 2199023255551, 4398046511103, 4398046511103, 17592186044415, 35184372088831, 70368744177663, 140737488355327, 281474976710655, 281474976710655, 1125899906842623, 2251799813685247]
theorem K_known.tab18 : rtab .any (opsOf Tryz.f17 18) = K_known.T18 := by kernel_rfl
theorem K_known.bits18 : waitsOk K_known.T18.2 K_known.B18 = true := by kernel_rfl
theorem K_known.absurd_f {r : Bool} (H : some false = some r) (hr : r = true) : False := by
  have := (Option.some.inj H).trans hr
  cases this
theorem K_known.absurd_j1 {r : Bool} {k : Nat} {a : List (S70)} {b c : Int} {d : List Int} {e : List (S70)} {f : List Int} {g h i : Int} (H : K_known.j1 k a b c d e true f g h i = some r) (hr : r = true) : False := by
  cases k with
  | zero => simp [K_known.j1] at H
  | succ k =>
    rw [K_known.j1, if_pos rfl] at H
    exact K_known.absurd_f H hr
set_option maxHeartbeats 8000000 in
set_option maxRecDepth 100000 in
theorem K_known.walk (k : Nat) (r : Bool) (hr : r = true) (w : World) (t324 : List Int) (t327 : Int) (t328 : Int) (t329 : Int) (t330 : List Int) (t333 : Int) (t334 : List Int) (t337 : Int) (t338 : Int) (t339 : Int) (t340 : List Int) (t343 : Int) (t344 : List Int) (t347 : Int) (t348 : Int) (t349 : Int) (t350 : Int) (t351 : Int) (t352 : Int) (t354 : List Int) (t357 : Int) (t358 : Int) (t359 : Int) (t360 : Int) (t361 : Int) (t362 : List Int) (t365 : Int) (t366 : Int) (t367 : Int) (t368 : List Int) (t371 : Int) (t372 : List Int) (t375 : Int) (t376 : Int) (t377 : Int) (t378 : Int) (t379 : Int) (t380 : List Int) (t383 : Int) (t384 : Int) (t385 : Int) (t386 : List Int) (t389 : Int) (t390 : List Int) (t393 : Int) (t394 : Int) (t395 : Int) (t396 : List Int) (t399 : Int) (t400 : List Int) (t403 : Int) (t404 : Int) (t405 : Int) (t406 : Int) (t407 : Int) (t408 : Int) (t410 : List Int) (t413 : Int) (t414 : Int) (t415 : Int) (t416 : List (S70)) (t419 : Int) (t420 : List Int) (t423 : Int) (t424 : Int) (t425 : Int) (t426 : Int) (t427 : Int) (t428 : Int) (t429 : List Int) (t432 : Int) (t433 : Int) (t434 : Int) (t435 : List Int) (t438 : Int) (t439 : List Int) (t442 : Int) (t443 : Int) (t444 : Int) (t445 : List (S70)) (t448 : Int) (t449 : List Int) (t452 : Int) (t453 : Int) (t454 : Int) (t455 : Int) (A1 : Aside0 (L_A.f  = some (t324, t327, t328, t329))) (A2 : Aside0 (column_Differences.f t324 t327 t328 t329 2 = some (t330, t333))) (A3 : Aside0 (L_A.f  = some (t334, t337, t338, t339))) (A4 : Aside0 (column_Jumps.f t334 t337 t338 t339 = some (t340, t343))) (A5 : Aside0 (L_A.f  = some (t344, t347, t348, t349))) (A6 : Aside0 (column_Wide.f t344 t347 t348 t349 = some (t350, t351, t352))) (A7 : Aside0 (L_D.f  = some (t354, t357, t358, t359))) (A8 : Aside0 (column_Order.f t354 t357 t358 t359 = some (t360, t361))) (A9 : Aside0 (L_C.f  = some (t362, t365, t366, t367))) (A10 : Aside0 (column_Wrong.f t362 t365 t366 t367 = some (t368, t371))) (A11 : Aside0 (L_C.f  = some (t372, t375, t376, t377))) (A12 : Aside0 (column_Count.f t372 t375 t376 t377 = some (t378, t379))) (A13 : Aside0 (L_B.f  = some (t380, t383, t384, t385))) (A14 : Aside0 (column_Suspect.f t380 t383 t384 t385 = some (t386, t389))) (A15 : Aside0 (L_C.f  = some (t390, t393, t394, t395))) (A16 : Aside0 (column_Proof.f t390 t393 t394 t395 = some (t396, t399))) (A17 : Aside0 (L_A.f  = some (t400, t403, t404, t405))) (A18 : Aside0 (column_Between.f k t400 t403 t404 t405 5 = some (t406, t407, t408))) (A19 : Aside0 (L_A.f  = some (t410, t413, t414, t415))) (A20 : Aside0 (column_Single.f k t410 t413 t414 t415 = some (t416, t419))) (A21 : Aside0 (L_A.f  = some (t420, t423, t424, t425))) (A22 : Aside0 (column_Least.f t420 t423 t424 t425 = some (t426, t427, t428))) (A23 : Aside0 (L_C.f  = some (t429, t432, t433, t434))) (A24 : Aside0 (column_Swaps.f t429 t432 t433 t434 = some (t435, t438))) (A25 : Aside0 (L_B.f  = some (t439, t442, t443, t444))) (A26 : Aside0 (column_Insert.f t439 t442 t443 t444 = some (t445, t448))) (A27 : Aside0 (column_Read.f (⟨#[99, 111, 108, 117, 109, 110, 32, 49, 32, 48, 32, 50, 10, 114, 111, 119, 32, 55, 10, 101, 110, 100, 32, 48, 56, 57, 10]⟩ : ByteArray) = some (t449, t452, t453, t454, t455))) (Zc79 : Aside0 (t333 = 0)) (Zc80 : Aside0 (t343 = 0)) (Zc81 : Aside0 (t352 = 0)) (Zc82 : Aside0 (t361 = 0)) (Zc83 : Aside0 (t371 = 0)) (Zc84 : Aside0 (t379 = 0)) (Zc85 : Aside0 (t389 = 0)) (Zc86 : Aside0 (t399 = 0)) (Zc87 : Aside0 (t408 = 0)) (Zc88 : Aside0 (t419 = 0)) (Zc89 : Aside0 (t428 = 0)) (Zc90 : Aside0 (t438 = 0)) (Zc91 : Aside0 (t448 = 0)) (HC28 : Aside0 (K_known.j0 k t330 t340 t360 t368 t378 t386 t396 t416 t426 t427 t435 t445 (t455 != 0) t350 t351 t406 t407 t449 t452 t453 t454 = some r)) (hT : Tryz.Glob w) :
  Calls Tryz.prog 17 #[] w fun e w' => e = .returned (.bool r) ∧ Below w.heap.size w w' := by
 have hu24 := Tryz.underlying24
 have hu26 := Tryz.underlying26
 have hu70 := Tryz.underlying70
 have HR := Lib.hid hr
 clear hr
 have HB := Aside0.mk (Below.refl w.heap.size w)
 have HT := Aside0.mk hT
 clear hT
 go_enter Tryz.func17, Tryz.ntmps17
 go_upto_region 15 with (first | ((with_reducible refine gate_callee (f := 57) rfl ?_); refine goesL_ (some 33) rfl rfl Tryz.func57 (by kernel_rfl) rfl #[] rfl (by (try simp only [List.map_toArray, List.map_cons, List.map_nil]); first | done | rfl | (simp only [List.length_drop, List.length_take]; rfl)) ?_; (with_reducible refine (L_A.calls  t324 t327 t328 t329 _ A1.out).mono ?_); rintro e w29 ⟨v325, rfl, ho0, hb⟩; refine ⟨_, rfl, ?_⟩; have HO326 := Aside0.mk (Kd.R_lower ho0 (below_size (wup HB.out))); have Sw29 : Aside0 (Below w.heap.size w w29) := ⟨below_step (wup (Below.refl _ _)) hb⟩; have n1_ := Aside0.mk (below_step (wup HB.out) hb); clear HB; have HB := n1_; clear n1_ hb; (try clear ho0); obtain ⟨Ao30, co30, eo30⟩ := Kd.R_slice HO326.out; subst eo30) | ((with_reducible refine gate_callee (f := 18) rfl ?_); refine goesL_ (some 34) rfl rfl Tryz.func18 (by kernel_rfl) rfl #[.agg #[.slice Ao30 t324.length co30, .int .i64 t327, .int .i64 t328, .int .i64 t329], .int .i64 2] rfl (by (try simp only [List.map_toArray, List.map_cons, List.map_nil]); first | done | rfl | (simp only [List.length_drop, List.length_take]; rfl)) ?_; (with_reducible refine (column_Differences.calls _ _ t324 t327 t328 t329 2 t330 t333 _ ?side1 ?side2 A2.out).mono ?_); (case side1 => repeat (first | exact (Kd.R_reads' HO326.out).2.2 | (with_reducible refine Kd.C_alloc ?_ _) | (with_reducible refine Kd.C_drewN ?_ _) | (with_reducible refine Kd.C_drew ?_))); (case side2 => exact (Kd.R_reads' HO326.out).2.1); rintro e w31 ⟨v331, rfl, ho0, hb⟩; refine ⟨_, rfl, ?_⟩; have HO332 := Aside0.mk (Kd.R_lower ho0 (below_size (wup HB.out))); have Sw31 : Aside0 (Below w29.heap.size w29 w31) := ⟨below_step (wup (Below.refl _ _)) hb⟩; have n1_ := Aside0.mk (below_step (wup HB.out) hb); clear HB; have HB := n1_; clear n1_ hb; (try clear ho0)) | ((with_reducible refine gate_callee (f := 57) rfl ?_); refine goesL_ (some 38) rfl rfl Tryz.func57 (by kernel_rfl) rfl #[] rfl (by (try simp only [List.map_toArray, List.map_cons, List.map_nil]); first | done | rfl | (simp only [List.length_drop, List.length_take]; rfl)) ?_; (with_reducible refine (L_A.calls  t334 t337 t338 t339 _ A3.out).mono ?_); rintro e w32 ⟨v335, rfl, ho0, hb⟩; refine ⟨_, rfl, ?_⟩; have HO336 := Aside0.mk (Kd.R_lower ho0 (below_size (wup HB.out))); have Sw32 : Aside0 (Below w31.heap.size w31 w32) := ⟨below_step (wup (Below.refl _ _)) hb⟩; have n1_ := Aside0.mk (below_step (wup HB.out) hb); clear HB; have HB := n1_; clear n1_ hb; (try clear ho0); obtain ⟨Ao33, co33, eo33⟩ := Kd.R_slice HO336.out; subst eo33) | ((with_reducible refine gate_callee (f := 22) rfl ?_); refine goesL_ (some 39) rfl rfl Tryz.func22 (by kernel_rfl) rfl #[.agg #[.slice Ao33 t334.length co33, .int .i64 t337, .int .i64 t338, .int .i64 t339]] rfl (by (try simp only [List.map_toArray, List.map_cons, List.map_nil]); first | done | rfl | (simp only [List.length_drop, List.length_take]; rfl)) ?_; (with_reducible refine (column_Jumps.calls _ _ t334 t337 t338 t339 t340 t343 _ ?side1 ?side2 A4.out).mono ?_); (case side1 => repeat (first | exact (Kd.R_reads' HO336.out).2.2 | (with_reducible refine Kd.C_alloc ?_ _) | (with_reducible refine Kd.C_drewN ?_ _) | (with_reducible refine Kd.C_drew ?_))); (case side2 => exact (Kd.R_reads' HO336.out).2.1); rintro e w34 ⟨v341, rfl, ho0, hb⟩; refine ⟨_, rfl, ?_⟩; have HO342 := Aside0.mk (Kd.R_lower ho0 (below_size (wup HB.out))); have Sw34 : Aside0 (Below w32.heap.size w32 w34) := ⟨below_step (wup (Below.refl _ _)) hb⟩; have n1_ := Aside0.mk (below_step (wup HB.out) hb); clear HB; have HB := n1_; clear n1_ hb; (try clear ho0)) | ((with_reducible refine gate_callee (f := 57) rfl ?_); refine goesL_ (some 43) rfl rfl Tryz.func57 (by kernel_rfl) rfl #[] rfl (by (try simp only [List.map_toArray, List.map_cons, List.map_nil]); first | done | rfl | (simp only [List.length_drop, List.length_take]; rfl)) ?_; (with_reducible refine (L_A.calls  t344 t347 t348 t349 _ A5.out).mono ?_); rintro e w35 ⟨v345, rfl, ho0, hb⟩; refine ⟨_, rfl, ?_⟩; have HO346 := Aside0.mk (Kd.R_lower ho0 (below_size (wup HB.out))); have Sw35 : Aside0 (Below w34.heap.size w34 w35) := ⟨below_step (wup (Below.refl _ _)) hb⟩; have n1_ := Aside0.mk (below_step (wup HB.out) hb); clear HB; have HB := n1_; clear n1_ hb; (try clear ho0); obtain ⟨Ao36, co36, eo36⟩ := Kd.R_slice HO346.out; subst eo36) | ((with_reducible refine gate_callee (f := 21) rfl ?_); refine goesL_ (some 44) rfl rfl Tryz.func21 (by kernel_rfl) rfl #[.agg #[.slice Ao36 t344.length co36, .int .i64 t347, .int .i64 t348, .int .i64 t349]] rfl (by (try simp only [List.map_toArray, List.map_cons, List.map_nil]); first | done | rfl | (simp only [List.length_drop, List.length_take]; rfl)) ?_; (with_reducible refine (column_Wide.calls _ _ t344 t347 t348 t349 t350 t351 t352 _ ?side1 ?side2 A6.out).mono ?_); (case side1 => repeat (first | exact (Kd.R_reads' HO346.out).2.2 | (with_reducible refine Kd.C_alloc ?_ _) | (with_reducible refine Kd.C_drewN ?_ _) | (with_reducible refine Kd.C_drew ?_))); (case side2 => exact (Kd.R_reads' HO346.out).2.1); rintro e w37 ⟨rfl, hb⟩; refine ⟨_, rfl, ?_⟩; have Sw37 : Aside0 (Below w35.heap.size w35 w37) := ⟨below_step (wup (Below.refl _ _)) hb⟩; have n1_ := Aside0.mk (below_step (wup HB.out) hb); clear HB; have HB := n1_; clear n1_ hb; (try clear ho0)) | ((with_reducible refine gate_dst (N := 5) rfl ?_); (try (refine gate_guard (by rfl) ?_; dsimp only)); refine box_event ?hg (N := 5) ?hd (cs := #[.int .i64 0, .int .i64 0]) (t := 24) ?hr ?_; (case hd => rfl); (case hg => rfl); (case hr => first | (go_simp; done) | (go_simp; rfl)); intro gb353 hg w38 hbox hb; have GE353 : Aside0 (w.heap.size ≤ gb353) := ⟨by rw [hg]; exact (below_size (wup HB.out))⟩; have GL353 : Aside0 (w37.heap.size ≤ gb353) := ⟨by rw [hg]; exact (below_size (wup (Below.refl _ _)))⟩; have SX353 : Aside0 (Below w37.heap.size w37 w38) := ⟨below_step (wup (Below.refl _ _)) hb⟩; have n1_ := Aside0.mk (below_step (wup HB.out) hb); clear HB; have HB := n1_; clear n1_; have BK353 := Aside0.mk hbox; clear hb hbox hg; have hcz39_0 : w38.cell? ⟨gb353, 0, none⟩ = some (.int .i64 0) := (blk_cell BK353.out 0).trans rfl; have hcz39_1 : w38.cell? ⟨gb353, 1, none⟩ = some (.int .i64 0) := (blk_cell BK353.out 1).trans rfl; have hfz39_0 := blk_frozen BK353.out 0; have hfz39_1 := blk_frozen BK353.out 1) | ((with_reducible refine gate_callee (f := 58) rfl ?_); refine goesL_ (some 48) rfl rfl Tryz.func58 (by kernel_rfl) rfl #[] rfl (by (try simp only [List.map_toArray, List.map_cons, List.map_nil]); first | done | rfl | (simp only [List.length_drop, List.length_take]; rfl)) ?_; (with_reducible refine (L_D.calls  t354 t357 t358 t359 _ A7.out).mono ?_); rintro e w40 ⟨v355, rfl, ho0, hb⟩; refine ⟨_, rfl, ?_⟩; have HO356 := Aside0.mk (Kd.R_lower ho0 (below_size (by repeat (first | (with_reducible first | exact HB.out | apply below_alloc | apply pw_below_drewN | apply below_drew1 | refine below_set ?_ GE353.out) | exact HB.out)))); have Sw40 : Aside0 (Below w37.heap.size w37 w40) := ⟨below_step (by repeat (first | (with_reducible first | exact SX353.out | apply below_alloc | apply pw_below_drewN | apply below_drew1 | refine below_set ?_ GL353.out) | exact SX353.out)) hb⟩; have BL353 := Aside0.mk (blk_below (g := gb353) (o := .cells #[.int .i64 t350, .int .i64 t351] 24 (0, 0)) (by (with_reducible repeat (first | refine blk_drewN ?_ _ | refine blk_drew ?_ | refine blk_alloc ?_ _)); refine blk_put (cs := #[.int .i64 t350, .int .i64 0]) ?_ 1 _ rfl; (with_reducible repeat (first | refine blk_drewN ?_ _ | refine blk_drew ?_ | refine blk_alloc ?_ _)); refine blk_put (cs := #[.int .i64 0, .int .i64 0]) ?_ 0 _ rfl; (with_reducible repeat (first | refine blk_drewN ?_ _ | refine blk_drew ?_ | refine blk_alloc ?_ _)); exact BK353.out) hb); clear BK353; have n1_ := Aside0.mk (below_step (by repeat (first | (with_reducible first | exact HB.out | apply below_alloc | apply pw_below_drewN | apply below_drew1 | refine below_set ?_ GE353.out) | exact HB.out)) hb); clear HB; have HB := n1_; clear n1_ hb; (try clear ho0); obtain ⟨Ao41, co41, eo41⟩ := Kd.R_slice HO356.out; subst eo41) | ((with_reducible refine gate_callee (f := 23) rfl ?_); refine goesL_ (some 49) rfl rfl Tryz.func23 (by kernel_rfl) rfl #[.agg #[.slice Ao41 t354.length co41, .int .i64 t357, .int .i64 t358, .int .i64 t359]] rfl (by (try simp only [List.map_toArray, List.map_cons, List.map_nil]); first | done | rfl | (simp only [List.length_drop, List.length_take]; rfl)) ?_; (with_reducible refine (column_Order.calls _ _ t354 t357 t358 t359 t360 t361 _ ?side1 ?side2 A8.out).mono ?_); (case side1 => repeat (first | exact (Kd.R_reads' HO356.out).2.2 | (with_reducible refine Kd.C_alloc ?_ _) | (with_reducible refine Kd.C_drewN ?_ _) | (with_reducible refine Kd.C_drew ?_))); (case side2 => exact (Kd.R_reads' HO356.out).2.1); rintro e w42 ⟨rfl, hb⟩; refine ⟨_, rfl, ?_⟩; have Sw42 : Aside0 (Below w40.heap.size w40 w42) := ⟨below_step (wup (Below.refl _ _)) hb⟩; have n1_ := Aside0.mk (below_step (by repeat (first | (with_reducible first | exact HB.out | apply below_alloc | apply pw_below_drewN | apply below_drew1 | refine below_set ?_ GE353.out) | exact HB.out)) hb); clear HB; have HB := n1_; clear n1_ hb; (try clear ho0)) | ((with_reducible refine gate_callee (f := 59) rfl ?_); refine goesL_ (some 53) rfl rfl Tryz.func59 (by kernel_rfl) rfl #[] rfl (by (try simp only [List.map_toArray, List.map_cons, List.map_nil]); first | done | rfl | (simp only [List.length_drop, List.length_take]; rfl)) ?_; (with_reducible refine (L_C.calls  t362 t365 t366 t367 _ A9.out).mono ?_); rintro e w43 ⟨v363, rfl, ho0, hb⟩; refine ⟨_, rfl, ?_⟩; have HO364 := Aside0.mk (Kd.R_lower ho0 (below_size (by repeat (first | (with_reducible first | exact HB.out | apply below_alloc | apply pw_below_drewN | apply below_drew1 | refine below_set ?_ GE353.out) | exact HB.out)))); have Sw43 : Aside0 (Below w42.heap.size w42 w43) := ⟨below_step (wup (Below.refl _ _)) hb⟩; have n1_ := Aside0.mk (below_step (by repeat (first | (with_reducible first | exact HB.out | apply below_alloc | apply pw_below_drewN | apply below_drew1 | refine below_set ?_ GE353.out) | exact HB.out)) hb); clear HB; have HB := n1_; clear n1_ hb; (try clear ho0); obtain ⟨Ao44, co44, eo44⟩ := Kd.R_slice HO364.out; subst eo44) | ((with_reducible refine gate_callee (f := 28) rfl ?_); refine goesL_ (some 54) rfl rfl Tryz.func28 (by kernel_rfl) rfl #[.agg #[.slice Ao44 t362.length co44, .int .i64 t365, .int .i64 t366, .int .i64 t367]] rfl (by (try simp only [List.map_toArray, List.map_cons, List.map_nil]); first | done | rfl | (simp only [List.length_drop, List.length_take]; rfl)) ?_; (with_reducible refine (column_Wrong.calls _ _ t362 t365 t366 t367 t368 t371 _ ?side1 ?side2 A10.out).mono ?_); (case side1 => repeat (first | exact (Kd.R_reads' HO364.out).2.2 | (with_reducible refine Kd.C_alloc ?_ _) | (with_reducible refine Kd.C_drewN ?_ _) | (with_reducible refine Kd.C_drew ?_))); (case side2 => exact (Kd.R_reads' HO364.out).2.1); rintro e w45 ⟨v369, rfl, ho0, hb⟩; refine ⟨_, rfl, ?_⟩; have HO370 := Aside0.mk (Kd.R_lower ho0 (below_size (by repeat (first | (with_reducible first | exact HB.out | apply below_alloc | apply pw_below_drewN | apply below_drew1 | refine below_set ?_ GE353.out) | exact HB.out)))); have Sw45 : Aside0 (Below w43.heap.size w43 w45) := ⟨below_step (wup (Below.refl _ _)) hb⟩; have n1_ := Aside0.mk (below_step (by repeat (first | (with_reducible first | exact HB.out | apply below_alloc | apply pw_below_drewN | apply below_drew1 | refine below_set ?_ GE353.out) | exact HB.out)) hb); clear HB; have HB := n1_; clear n1_ hb; (try clear ho0)) | ((with_reducible refine gate_callee (f := 59) rfl ?_); refine goesL_ (some 58) rfl rfl Tryz.func59 (by kernel_rfl) rfl #[] rfl (by (try simp only [List.map_toArray, List.map_cons, List.map_nil]); first | done | rfl | (simp only [List.length_drop, List.length_take]; rfl)) ?_; (with_reducible refine (L_C.calls  t372 t375 t376 t377 _ A11.out).mono ?_); rintro e w46 ⟨v373, rfl, ho0, hb⟩; refine ⟨_, rfl, ?_⟩; have HO374 := Aside0.mk (Kd.R_lower ho0 (below_size (by repeat (first | (with_reducible first | exact HB.out | apply below_alloc | apply pw_below_drewN | apply below_drew1 | refine below_set ?_ GE353.out) | exact HB.out)))); have Sw46 : Aside0 (Below w45.heap.size w45 w46) := ⟨below_step (wup (Below.refl _ _)) hb⟩; have n1_ := Aside0.mk (below_step (by repeat (first | (with_reducible first | exact HB.out | apply below_alloc | apply pw_below_drewN | apply below_drew1 | refine below_set ?_ GE353.out) | exact HB.out)) hb); clear HB; have HB := n1_; clear n1_ hb; (try clear ho0); obtain ⟨Ao47, co47, eo47⟩ := Kd.R_slice HO374.out; subst eo47) | ((with_reducible refine gate_callee (f := 29) rfl ?_); refine goesL_ (some 59) rfl rfl Tryz.func29 (by kernel_rfl) rfl #[.agg #[.slice Ao47 t372.length co47, .int .i64 t375, .int .i64 t376, .int .i64 t377]] rfl (by (try simp only [List.map_toArray, List.map_cons, List.map_nil]); first | done | rfl | (simp only [List.length_drop, List.length_take]; rfl)) ?_; (with_reducible refine (column_Count.calls _ _ t372 t375 t376 t377 t378 t379 _ ?side1 ?side2 A12.out).mono ?_); (case side1 => repeat (first | exact (Kd.R_reads' HO374.out).2.2 | (with_reducible refine Kd.C_alloc ?_ _) | (with_reducible refine Kd.C_drewN ?_ _) | (with_reducible refine Kd.C_drew ?_))); (case side2 => exact (Kd.R_reads' HO374.out).2.1); rintro e w48 ⟨rfl, hb⟩; refine ⟨_, rfl, ?_⟩; have Sw48 : Aside0 (Below w46.heap.size w46 w48) := ⟨below_step (wup (Below.refl _ _)) hb⟩; have n1_ := Aside0.mk (below_step (by repeat (first | (with_reducible first | exact HB.out | apply below_alloc | apply pw_below_drewN | apply below_drew1 | refine below_set ?_ GE353.out) | exact HB.out)) hb); clear HB; have HB := n1_; clear n1_ hb; (try clear ho0)) | ((with_reducible refine gate_callee (f := 60) rfl ?_); refine goesL_ (some 63) rfl rfl Tryz.func60 (by kernel_rfl) rfl #[] rfl (by (try simp only [List.map_toArray, List.map_cons, List.map_nil]); first | done | rfl | (simp only [List.length_drop, List.length_take]; rfl)) ?_; (with_reducible refine (L_B.calls  t380 t383 t384 t385 _ A13.out).mono ?_); rintro e w49 ⟨v381, rfl, ho0, hb⟩; refine ⟨_, rfl, ?_⟩; have HO382 := Aside0.mk (Kd.R_lower ho0 (below_size (by repeat (first | (with_reducible first | exact HB.out | apply below_alloc | apply pw_below_drewN | apply below_drew1 | refine below_set ?_ GE353.out) | exact HB.out)))); have Sw49 : Aside0 (Below w48.heap.size w48 w49) := ⟨below_step (wup (Below.refl _ _)) hb⟩; have n1_ := Aside0.mk (below_step (by repeat (first | (with_reducible first | exact HB.out | apply below_alloc | apply pw_below_drewN | apply below_drew1 | refine below_set ?_ GE353.out) | exact HB.out)) hb); clear HB; have HB := n1_; clear n1_ hb; (try clear ho0); obtain ⟨Ao50, co50, eo50⟩ := Kd.R_slice HO382.out; subst eo50) | ((with_reducible refine gate_callee (f := 30) rfl ?_); refine goesL_ (some 64) rfl rfl Tryz.func30 (by kernel_rfl) rfl #[.agg #[.slice Ao50 t380.length co50, .int .i64 t383, .int .i64 t384, .int .i64 t385]] rfl (by (try simp only [List.map_toArray, List.map_cons, List.map_nil]); first | done | rfl | (simp only [List.length_drop, List.length_take]; rfl)) ?_; (with_reducible refine (column_Suspect.calls _ _ t380 t383 t384 t385 t386 t389 _ ?side1 ?side2 A14.out).mono ?_); (case side1 => repeat (first | exact (Kd.R_reads' HO382.out).2.2 | (with_reducible refine Kd.C_alloc ?_ _) | (with_reducible refine Kd.C_drewN ?_ _) | (with_reducible refine Kd.C_drew ?_))); (case side2 => exact (Kd.R_reads' HO382.out).2.1); rintro e w51 ⟨v387, rfl, ho0, hb⟩; refine ⟨_, rfl, ?_⟩; have HO388 := Aside0.mk (Kd.R_lower ho0 (below_size (by repeat (first | (with_reducible first | exact HB.out | apply below_alloc | apply pw_below_drewN | apply below_drew1 | refine below_set ?_ GE353.out) | exact HB.out)))); have Sw51 : Aside0 (Below w49.heap.size w49 w51) := ⟨below_step (wup (Below.refl _ _)) hb⟩; have n1_ := Aside0.mk (below_step (by repeat (first | (with_reducible first | exact HB.out | apply below_alloc | apply pw_below_drewN | apply below_drew1 | refine below_set ?_ GE353.out) | exact HB.out)) hb); clear HB; have HB := n1_; clear n1_ hb; (try clear ho0)) | ((with_reducible refine gate_callee (f := 59) rfl ?_); refine goesL_ (some 68) rfl rfl Tryz.func59 (by kernel_rfl) rfl #[] rfl (by (try simp only [List.map_toArray, List.map_cons, List.map_nil]); first | done | rfl | (simp only [List.length_drop, List.length_take]; rfl)) ?_; (with_reducible refine (L_C.calls  t390 t393 t394 t395 _ A15.out).mono ?_); rintro e w52 ⟨v391, rfl, ho0, hb⟩; refine ⟨_, rfl, ?_⟩; have HO392 := Aside0.mk (Kd.R_lower ho0 (below_size (by repeat (first | (with_reducible first | exact HB.out | apply below_alloc | apply pw_below_drewN | apply below_drew1 | refine below_set ?_ GE353.out) | exact HB.out)))); have Sw52 : Aside0 (Below w51.heap.size w51 w52) := ⟨below_step (wup (Below.refl _ _)) hb⟩; have n1_ := Aside0.mk (below_step (by repeat (first | (with_reducible first | exact HB.out | apply below_alloc | apply pw_below_drewN | apply below_drew1 | refine below_set ?_ GE353.out) | exact HB.out)) hb); clear HB; have HB := n1_; clear n1_ hb; (try clear ho0); obtain ⟨Ao53, co53, eo53⟩ := Kd.R_slice HO392.out; subst eo53) | ((with_reducible refine gate_callee (f := 43) rfl ?_); refine goesL_ (some 69) rfl rfl Tryz.func43 (by kernel_rfl) rfl #[.agg #[.slice Ao53 t390.length co53, .int .i64 t393, .int .i64 t394, .int .i64 t395]] rfl (by (try simp only [List.map_toArray, List.map_cons, List.map_nil]); first | done | rfl | (simp only [List.length_drop, List.length_take]; rfl)) ?_; (with_reducible refine (column_Proof.calls _ _ t390 t393 t394 t395 t396 t399 _ ?side1 ?side2 A16.out).mono ?_); (case side1 => repeat (first | exact (Kd.R_reads' HO392.out).2.2 | (with_reducible refine Kd.C_alloc ?_ _) | (with_reducible refine Kd.C_drewN ?_ _) | (with_reducible refine Kd.C_drew ?_))); (case side2 => exact (Kd.R_reads' HO392.out).2.1); rintro e w54 ⟨v397, rfl, ho0, hb⟩; refine ⟨_, rfl, ?_⟩; have HO398 := Aside0.mk (Kd.R_lower ho0 (below_size (by repeat (first | (with_reducible first | exact HB.out | apply below_alloc | apply pw_below_drewN | apply below_drew1 | refine below_set ?_ GE353.out) | exact HB.out)))); have Sw54 : Aside0 (Below w52.heap.size w52 w54) := ⟨below_step (wup (Below.refl _ _)) hb⟩; have n1_ := Aside0.mk (below_step (by repeat (first | (with_reducible first | exact HB.out | apply below_alloc | apply pw_below_drewN | apply below_drew1 | refine below_set ?_ GE353.out) | exact HB.out)) hb); clear HB; have HB := n1_; clear n1_ hb; (try clear ho0)) | ((with_reducible refine gate_callee (f := 57) rfl ?_); refine goesL_ (some 73) rfl rfl Tryz.func57 (by kernel_rfl) rfl #[] rfl (by (try simp only [List.map_toArray, List.map_cons, List.map_nil]); first | done | rfl | (simp only [List.length_drop, List.length_take]; rfl)) ?_; (with_reducible refine (L_A.calls  t400 t403 t404 t405 _ A17.out).mono ?_); rintro e w55 ⟨v401, rfl, ho0, hb⟩; refine ⟨_, rfl, ?_⟩; have HO402 := Aside0.mk (Kd.R_lower ho0 (below_size (by repeat (first | (with_reducible first | exact HB.out | apply below_alloc | apply pw_below_drewN | apply below_drew1 | refine below_set ?_ GE353.out) | exact HB.out)))); have Sw55 : Aside0 (Below w54.heap.size w54 w55) := ⟨below_step (wup (Below.refl _ _)) hb⟩; have n1_ := Aside0.mk (below_step (by repeat (first | (with_reducible first | exact HB.out | apply below_alloc | apply pw_below_drewN | apply below_drew1 | refine below_set ?_ GE353.out) | exact HB.out)) hb); clear HB; have HB := n1_; clear n1_ hb; (try clear ho0); obtain ⟨Ao56, co56, eo56⟩ := Kd.R_slice HO402.out; subst eo56) | ((with_reducible refine gate_callee (f := 47) rfl ?_); refine goesL_ (some 74) rfl rfl Tryz.func47 (by kernel_rfl) rfl #[.agg #[.slice Ao56 t400.length co56, .int .i64 t403, .int .i64 t404, .int .i64 t405], .int .i64 5] rfl (by (try simp only [List.map_toArray, List.map_cons, List.map_nil]); first | done | rfl | (simp only [List.length_drop, List.length_take]; rfl)) ?_; (with_reducible refine (column_Between.calls k _ _ t400 t403 t404 t405 5 t406 t407 t408 _ ?side1 ?side2 A18.out).mono ?_); (case side1 => repeat (first | exact (Kd.R_reads' HO402.out).2.2 | (with_reducible refine Kd.C_alloc ?_ _) | (with_reducible refine Kd.C_drewN ?_ _) | (with_reducible refine Kd.C_drew ?_))); (case side2 => exact (Kd.R_reads' HO402.out).2.1); rintro e w57 ⟨rfl, hb⟩; refine ⟨_, rfl, ?_⟩; have Sw57 : Aside0 (Below w55.heap.size w55 w57) := ⟨below_step (wup (Below.refl _ _)) hb⟩; have n1_ := Aside0.mk (below_step (by repeat (first | (with_reducible first | exact HB.out | apply below_alloc | apply pw_below_drewN | apply below_drew1 | refine below_set ?_ GE353.out) | exact HB.out)) hb); clear HB; have HB := n1_; clear n1_ hb; (try clear ho0)) | ((with_reducible refine gate_dst (N := 17) rfl ?_); (try (refine gate_guard (by rfl) ?_; dsimp only)); refine box_event ?hg (N := 17) ?hd (cs := #[.int .i64 0, .int .i64 0]) (t := 24) ?hr ?_; (case hd => rfl); (case hg => rfl); (case hr => first | (go_simp; done) | (go_simp; rfl)); intro gb409 hg w58 hbox hb; have GE409 : Aside0 (w.heap.size ≤ gb409) := ⟨by rw [hg]; exact (below_size (by repeat (first | (with_reducible first | exact HB.out | apply below_alloc | apply pw_below_drewN | apply below_drew1 | refine below_set ?_ GE353.out) | exact HB.out)))⟩; have GL409 : Aside0 (w57.heap.size ≤ gb409) := ⟨by rw [hg]; exact (below_size (wup (Below.refl _ _)))⟩; have SX409 : Aside0 (Below w57.heap.size w57 w58) := ⟨below_step (wup (Below.refl _ _)) hb⟩; have n1_ := Aside0.mk (below_step (by repeat (first | (with_reducible first | exact HB.out | apply below_alloc | apply pw_below_drewN | apply below_drew1 | refine below_set ?_ GE353.out) | exact HB.out)) hb); clear HB; have HB := n1_; clear n1_; have BK409 := Aside0.mk hbox; clear hb hbox hg; have hcz60_0 : w58.cell? ⟨gb409, 0, none⟩ = some (.int .i64 0) := (blk_cell BK409.out 0).trans rfl; have hcz60_1 : w58.cell? ⟨gb409, 1, none⟩ = some (.int .i64 0) := (blk_cell BK409.out 1).trans rfl; have hfz60_0 := blk_frozen BK409.out 0; have hfz60_1 := blk_frozen BK409.out 1) | ((with_reducible refine gate_callee (f := 57) rfl ?_); refine goesL_ (some 78) rfl rfl Tryz.func57 (by kernel_rfl) rfl #[] rfl (by (try simp only [List.map_toArray, List.map_cons, List.map_nil]); first | done | rfl | (simp only [List.length_drop, List.length_take]; rfl)) ?_; (with_reducible refine (L_A.calls  t410 t413 t414 t415 _ A19.out).mono ?_); rintro e w61 ⟨v411, rfl, ho0, hb⟩; refine ⟨_, rfl, ?_⟩; have HO412 := Aside0.mk (Kd.R_lower ho0 (below_size (by repeat (first | (with_reducible first | exact HB.out | apply below_alloc | apply pw_below_drewN | apply below_drew1 | refine below_set ?_ GE353.out | refine below_set ?_ GE409.out) | exact HB.out)))); have Sw61 : Aside0 (Below w57.heap.size w57 w61) := ⟨below_step (by repeat (first | (with_reducible first | exact SX409.out | apply below_alloc | apply pw_below_drewN | apply below_drew1 | refine below_set ?_ GL409.out) | exact SX409.out)) hb⟩; have BL409 := Aside0.mk (blk_below (g := gb409) (o := .cells #[.int .i64 t406, .int .i64 t407] 24 (0, 0)) (by (with_reducible repeat (first | refine blk_drewN ?_ _ | refine blk_drew ?_ | refine blk_alloc ?_ _)); refine blk_put (cs := #[.int .i64 t406, .int .i64 0]) ?_ 1 _ rfl; (with_reducible repeat (first | refine blk_drewN ?_ _ | refine blk_drew ?_ | refine blk_alloc ?_ _)); refine blk_put (cs := #[.int .i64 0, .int .i64 0]) ?_ 0 _ rfl; (with_reducible repeat (first | refine blk_drewN ?_ _ | refine blk_drew ?_ | refine blk_alloc ?_ _)); exact BK409.out) hb); clear BK409; have n1_ := Aside0.mk (below_step (by repeat (first | (with_reducible first | exact HB.out | apply below_alloc | apply pw_below_drewN | apply below_drew1 | refine below_set ?_ GE353.out | refine below_set ?_ GE409.out) | exact HB.out)) hb); clear HB; have HB := n1_; clear n1_ hb; (try clear ho0); obtain ⟨Ao62, co62, eo62⟩ := Kd.R_slice HO412.out; subst eo62) | ((with_reducible refine gate_callee (f := 42) rfl ?_); refine goesL_ (some 79) rfl rfl Tryz.func42 (by kernel_rfl) rfl #[.agg #[.slice Ao62 t410.length co62, .int .i64 t413, .int .i64 t414, .int .i64 t415]] rfl (by (try simp only [List.map_toArray, List.map_cons, List.map_nil]); first | done | rfl | (simp only [List.length_drop, List.length_take]; rfl)) ?_; (with_reducible refine (column_Single.calls k _ _ t410 t413 t414 t415 t416 t419 _ ?side1 ?side2 A20.out).mono ?_); (case side1 => repeat (first | exact (Kd.R_reads' HO412.out).2.2 | (with_reducible refine Kd.C_alloc ?_ _) | (with_reducible refine Kd.C_drewN ?_ _) | (with_reducible refine Kd.C_drew ?_))); (case side2 => exact (Kd.R_reads' HO412.out).2.1); rintro e w63 ⟨v417, rfl, ho0, hb⟩; refine ⟨_, rfl, ?_⟩; have HO418 := Aside0.mk (Kd.R_lower ho0 (below_size (by repeat (first | (with_reducible first | exact HB.out | apply below_alloc | apply pw_below_drewN | apply below_drew1 | refine below_set ?_ GE353.out | refine below_set ?_ GE409.out) | exact HB.out)))); have Sw63 : Aside0 (Below w61.heap.size w61 w63) := ⟨below_step (wup (Below.refl _ _)) hb⟩; have n1_ := Aside0.mk (below_step (by repeat (first | (with_reducible first | exact HB.out | apply below_alloc | apply pw_below_drewN | apply below_drew1 | refine below_set ?_ GE353.out | refine below_set ?_ GE409.out) | exact HB.out)) hb); clear HB; have HB := n1_; clear n1_ hb; (try clear ho0)) | ((with_reducible refine gate_callee (f := 57) rfl ?_); refine goesL_ (some 83) rfl rfl Tryz.func57 (by kernel_rfl) rfl #[] rfl (by (try simp only [List.map_toArray, List.map_cons, List.map_nil]); first | done | rfl | (simp only [List.length_drop, List.length_take]; rfl)) ?_; (with_reducible refine (L_A.calls  t420 t423 t424 t425 _ A21.out).mono ?_); rintro e w64 ⟨v421, rfl, ho0, hb⟩; refine ⟨_, rfl, ?_⟩; have HO422 := Aside0.mk (Kd.R_lower ho0 (below_size (by repeat (first | (with_reducible first | exact HB.out | apply below_alloc | apply pw_below_drewN | apply below_drew1 | refine below_set ?_ GE353.out | refine below_set ?_ GE409.out) | exact HB.out)))); have Sw64 : Aside0 (Below w63.heap.size w63 w64) := ⟨below_step (wup (Below.refl _ _)) hb⟩; have n1_ := Aside0.mk (below_step (by repeat (first | (with_reducible first | exact HB.out | apply below_alloc | apply pw_below_drewN | apply below_drew1 | refine below_set ?_ GE353.out | refine below_set ?_ GE409.out) | exact HB.out)) hb); clear HB; have HB := n1_; clear n1_ hb; (try clear ho0); obtain ⟨Ao65, co65, eo65⟩ := Kd.R_slice HO422.out; subst eo65) | ((with_reducible refine gate_callee (f := 48) rfl ?_); refine goesL_ (some 84) rfl rfl Tryz.func48 (by kernel_rfl) rfl #[.agg #[.slice Ao65 t420.length co65, .int .i64 t423, .int .i64 t424, .int .i64 t425]] rfl (by (try simp only [List.map_toArray, List.map_cons, List.map_nil]); first | done | rfl | (simp only [List.length_drop, List.length_take]; rfl)) ?_; (with_reducible refine (column_Least.calls _ _ t420 t423 t424 t425 t426 t427 t428 _ ?side1 ?side2 A22.out).mono ?_); (case side1 => repeat (first | exact (Kd.R_reads' HO422.out).2.2 | (with_reducible refine Kd.C_alloc ?_ _) | (with_reducible refine Kd.C_drewN ?_ _) | (with_reducible refine Kd.C_drew ?_))); (case side2 => exact (Kd.R_reads' HO422.out).2.1); rintro e w66 ⟨rfl, hb⟩; refine ⟨_, rfl, ?_⟩; have Sw66 : Aside0 (Below w64.heap.size w64 w66) := ⟨below_step (wup (Below.refl _ _)) hb⟩; have n1_ := Aside0.mk (below_step (by repeat (first | (with_reducible first | exact HB.out | apply below_alloc | apply pw_below_drewN | apply below_drew1 | refine below_set ?_ GE353.out | refine below_set ?_ GE409.out) | exact HB.out)) hb); clear HB; have HB := n1_; clear n1_ hb; (try clear ho0)) | ((with_reducible refine gate_callee (f := 59) rfl ?_); refine goesL_ (some 89) rfl rfl Tryz.func59 (by kernel_rfl) rfl #[] rfl (by (try simp only [List.map_toArray, List.map_cons, List.map_nil]); first | done | rfl | (simp only [List.length_drop, List.length_take]; rfl)) ?_; (with_reducible refine (L_C.calls  t429 t432 t433 t434 _ A23.out).mono ?_); rintro e w67 ⟨v430, rfl, ho0, hb⟩; refine ⟨_, rfl, ?_⟩; have HO431 := Aside0.mk (Kd.R_lower ho0 (below_size (by repeat (first | (with_reducible first | exact HB.out | apply below_alloc | apply pw_below_drewN | apply below_drew1 | refine below_set ?_ GE353.out | refine below_set ?_ GE409.out) | exact HB.out)))); have Sw67 : Aside0 (Below w66.heap.size w66 w67) := ⟨below_step (wup (Below.refl _ _)) hb⟩; have n1_ := Aside0.mk (below_step (by repeat (first | (with_reducible first | exact HB.out | apply below_alloc | apply pw_below_drewN | apply below_drew1 | refine below_set ?_ GE353.out | refine below_set ?_ GE409.out) | exact HB.out)) hb); clear HB; have HB := n1_; clear n1_ hb; (try clear ho0); obtain ⟨Ao68, co68, eo68⟩ := Kd.R_slice HO431.out; subst eo68) | ((with_reducible refine gate_callee (f := 50) rfl ?_); refine goesL_ (some 90) rfl rfl Tryz.func50 (by kernel_rfl) rfl #[.agg #[.slice Ao68 t429.length co68, .int .i64 t432, .int .i64 t433, .int .i64 t434]] rfl (by (try simp only [List.map_toArray, List.map_cons, List.map_nil]); first | done | rfl | (simp only [List.length_drop, List.length_take]; rfl)) ?_; (with_reducible refine (column_Swaps.calls _ _ t429 t432 t433 t434 t435 t438 _ ?side1 ?side2 A24.out).mono ?_); (case side1 => repeat (first | exact (Kd.R_reads' HO431.out).2.2 | (with_reducible refine Kd.C_alloc ?_ _) | (with_reducible refine Kd.C_drewN ?_ _) | (with_reducible refine Kd.C_drew ?_))); (case side2 => exact (Kd.R_reads' HO431.out).2.1); rintro e w69 ⟨v436, rfl, ho0, hb⟩; refine ⟨_, rfl, ?_⟩; have HO437 := Aside0.mk (Kd.R_lower ho0 (below_size (by repeat (first | (with_reducible first | exact HB.out | apply below_alloc | apply pw_below_drewN | apply below_drew1 | refine below_set ?_ GE353.out | refine below_set ?_ GE409.out) | exact HB.out)))); have Sw69 : Aside0 (Below w67.heap.size w67 w69) := ⟨below_step (wup (Below.refl _ _)) hb⟩; have n1_ := Aside0.mk (below_step (by repeat (first | (with_reducible first | exact HB.out | apply below_alloc | apply pw_below_drewN | apply below_drew1 | refine below_set ?_ GE353.out | refine below_set ?_ GE409.out) | exact HB.out)) hb); clear HB; have HB := n1_; clear n1_ hb; (try clear ho0)) | ((with_reducible refine gate_callee (f := 60) rfl ?_); refine goesL_ (some 94) rfl rfl Tryz.func60 (by kernel_rfl) rfl #[] rfl (by (try simp only [List.map_toArray, List.map_cons, List.map_nil]); first | done | rfl | (simp only [List.length_drop, List.length_take]; rfl)) ?_; (with_reducible refine (L_B.calls  t439 t442 t443 t444 _ A25.out).mono ?_); rintro e w70 ⟨v440, rfl, ho0, hb⟩; refine ⟨_, rfl, ?_⟩; have HO441 := Aside0.mk (Kd.R_lower ho0 (below_size (by repeat (first | (with_reducible first | exact HB.out | apply below_alloc | apply pw_below_drewN | apply below_drew1 | refine below_set ?_ GE353.out | refine below_set ?_ GE409.out) | exact HB.out)))); have Sw70 : Aside0 (Below w69.heap.size w69 w70) := ⟨below_step (wup (Below.refl _ _)) hb⟩; have n1_ := Aside0.mk (below_step (by repeat (first | (with_reducible first | exact HB.out | apply below_alloc | apply pw_below_drewN | apply below_drew1 | refine below_set ?_ GE353.out | refine below_set ?_ GE409.out) | exact HB.out)) hb); clear HB; have HB := n1_; clear n1_ hb; (try clear ho0); obtain ⟨Ao71, co71, eo71⟩ := Kd.R_slice HO441.out; subst eo71) | ((with_reducible refine gate_callee (f := 52) rfl ?_); refine goesL_ (some 95) rfl rfl Tryz.func52 (by kernel_rfl) rfl #[.agg #[.slice Ao71 t439.length co71, .int .i64 t442, .int .i64 t443, .int .i64 t444]] rfl (by (try simp only [List.map_toArray, List.map_cons, List.map_nil]); first | done | rfl | (simp only [List.length_drop, List.length_take]; rfl)) ?_; (with_reducible refine (column_Insert.calls _ _ t439 t442 t443 t444 t445 t448 _ ?side1 ?side2 A26.out).mono ?_); (case side1 => repeat (first | exact (Kd.R_reads' HO441.out).2.2 | (with_reducible refine Kd.C_alloc ?_ _) | (with_reducible refine Kd.C_drewN ?_ _) | (with_reducible refine Kd.C_drew ?_))); (case side2 => exact (Kd.R_reads' HO441.out).2.1); rintro e w72 ⟨v446, rfl, ho0, hb⟩; refine ⟨_, rfl, ?_⟩; have HO447 := Aside0.mk (Kd.R_lower ho0 (below_size (by repeat (first | (with_reducible first | exact HB.out | apply below_alloc | apply pw_below_drewN | apply below_drew1 | refine below_set ?_ GE353.out | refine below_set ?_ GE409.out) | exact HB.out)))); have Sw72 : Aside0 (Below w70.heap.size w70 w72) := ⟨below_step (wup (Below.refl _ _)) hb⟩; have n1_ := Aside0.mk (below_step (by repeat (first | (with_reducible first | exact HB.out | apply below_alloc | apply pw_below_drewN | apply below_drew1 | refine below_set ?_ GE353.out | refine below_set ?_ GE409.out) | exact HB.out)) hb); clear HB; have HB := n1_; clear n1_ hb; (try clear ho0)) | ((with_reducible refine gate_callee (f := 25) rfl ?_); refine goesL_ (some 99) rfl rfl Tryz.func25 (by kernel_rfl) rfl #[.string (⟨#[99, 111, 108, 117, 109, 110, 32, 49, 32, 48, 32, 50, 10, 114, 111, 119, 32, 55, 10, 101, 110, 100, 32, 48, 56, 57, 10]⟩ : ByteArray)] rfl (by (try simp only [List.map_toArray, List.map_cons, List.map_nil]); first | done | rfl | (simp only [List.length_drop, List.length_take]; rfl)) ?_; (with_reducible refine (column_Read.calls (⟨#[99, 111, 108, 117, 109, 110, 32, 49, 32, 48, 32, 50, 10, 114, 111, 119, 32, 55, 10, 101, 110, 100, 32, 48, 56, 57, 10]⟩ : ByteArray) t449 t452 t453 t454 t455 _ A27.out ?sideT).mono ?_); (case sideT => exact HT.out.below (by repeat (first | (with_reducible first | exact HB.out | apply below_alloc | apply pw_below_drewN | apply below_drew1 | refine below_set ?_ GE353.out | refine below_set ?_ GE409.out) | exact HB.out))); rintro e w73 ⟨v450, rfl, ho0, hb⟩; refine ⟨_, rfl, ?_⟩; have HO451 := Aside0.mk (Kd.R_lower ho0 (below_size (by repeat (first | (with_reducible first | exact HB.out | apply below_alloc | apply pw_below_drewN | apply below_drew1 | refine below_set ?_ GE353.out | refine below_set ?_ GE409.out) | exact HB.out)))); have Sw73 : Aside0 (Below w72.heap.size w72 w73) := ⟨below_step (wup (Below.refl _ _)) hb⟩; have n1_ := Aside0.mk (below_step (by repeat (first | (with_reducible first | exact HB.out | apply below_alloc | apply pw_below_drewN | apply below_drew1 | refine below_set ?_ GE353.out | refine below_set ?_ GE409.out) | exact HB.out)) hb); clear HB; have HB := n1_; clear n1_ hb; (try clear ho0)) | ((with_reducible refine gate_dst (N := 28) rfl ?_); (try (refine gate_guard (by rfl) ?_; dsimp only)); refine box_event ?hg (N := 28) ?hd (cs := #[.slice none 0 0, .int .i64 0, .int .i64 0, .int .i64 0]) (t := 26) ?hr ?_; (case hd => rfl); (case hg => rfl); (case hr => first | (go_simp; done) | (go_simp; rfl)); intro gb456 hg w74 hbox hb; have GE456 : Aside0 (w.heap.size ≤ gb456) := ⟨by rw [hg]; exact (below_size (by repeat (first | (with_reducible first | exact HB.out | apply below_alloc | apply pw_below_drewN | apply below_drew1 | refine below_set ?_ GE353.out | refine below_set ?_ GE409.out) | exact HB.out)))⟩; have GL456 : Aside0 (w73.heap.size ≤ gb456) := ⟨by rw [hg]; exact (below_size (wup (Below.refl _ _)))⟩; have SX456 : Aside0 (Below w73.heap.size w73 w74) := ⟨below_step (wup (Below.refl _ _)) hb⟩; have n1_ := Aside0.mk (below_step (by repeat (first | (with_reducible first | exact HB.out | apply below_alloc | apply pw_below_drewN | apply below_drew1 | refine below_set ?_ GE353.out | refine below_set ?_ GE409.out) | exact HB.out)) hb); clear HB; have HB := n1_; clear n1_; have BK456 := Aside0.mk hbox; clear hb hbox hg; obtain ⟨Ao75, co75, eo75⟩ := Kd.R_slice HO451.out; subst eo75; have hcz78_0 : w74.cell? ⟨gb456, 0, none⟩ = some (.slice none 0 0) := (blk_cell BK456.out 0).trans rfl; have hcz78_1 : w74.cell? ⟨gb456, 1, none⟩ = some (.int .i64 0) := (blk_cell BK456.out 1).trans rfl; have hcz78_2 : w74.cell? ⟨gb456, 2, none⟩ = some (.int .i64 0) := (blk_cell BK456.out 2).trans rfl; have hcz78_3 : w74.cell? ⟨gb456, 3, none⟩ = some (.int .i64 0) := (blk_cell BK456.out 3).trans rfl; have hfz78_0 := blk_frozen BK456.out 0; have hfz78_1 := blk_frozen BK456.out 1; have hfz78_2 := blk_frozen BK456.out 2; have hfz78_3 := blk_frozen BK456.out 3))
 (try simp only [Act.put, List.setIfInBounds_toArray, List.set_cons_zero, List.set_cons_succ])
 have CHw73 : Aside0 (Below w73.heap.size w73 w73) := ⟨Below.refl _ _⟩
 have CHw72 : Aside0 (Below w72.heap.size w72 w73) := ⟨below_step Sw73.out CHw73.out⟩
 have CHw70 : Aside0 (Below w70.heap.size w70 w73) := ⟨below_step Sw72.out CHw72.out⟩
 have CHw69 : Aside0 (Below w69.heap.size w69 w73) := ⟨below_step Sw70.out CHw70.out⟩
 have CHw67 : Aside0 (Below w67.heap.size w67 w73) := ⟨below_step Sw69.out CHw69.out⟩
 have CHw66 : Aside0 (Below w66.heap.size w66 w73) := ⟨below_step Sw67.out CHw67.out⟩
 have CHw64 : Aside0 (Below w64.heap.size w64 w73) := ⟨below_step Sw66.out CHw66.out⟩
 have CHw63 : Aside0 (Below w63.heap.size w63 w73) := ⟨below_step Sw64.out CHw64.out⟩
 have CHw61 : Aside0 (Below w61.heap.size w61 w73) := ⟨below_step Sw63.out CHw63.out⟩
 have CHw57 : Aside0 (Below w57.heap.size w57 w73) := ⟨below_step Sw61.out CHw61.out⟩
 have CHw55 : Aside0 (Below w55.heap.size w55 w73) := ⟨below_step Sw57.out CHw57.out⟩
 have CHw54 : Aside0 (Below w54.heap.size w54 w73) := ⟨below_step Sw55.out CHw55.out⟩
 have CHw52 : Aside0 (Below w52.heap.size w52 w73) := ⟨below_step Sw54.out CHw54.out⟩
 have CHw51 : Aside0 (Below w51.heap.size w51 w73) := ⟨below_step Sw52.out CHw52.out⟩
 have CHw49 : Aside0 (Below w49.heap.size w49 w73) := ⟨below_step Sw51.out CHw51.out⟩
 have CHw48 : Aside0 (Below w48.heap.size w48 w73) := ⟨below_step Sw49.out CHw49.out⟩
 have CHw46 : Aside0 (Below w46.heap.size w46 w73) := ⟨below_step Sw48.out CHw48.out⟩
 have CHw45 : Aside0 (Below w45.heap.size w45 w73) := ⟨below_step Sw46.out CHw46.out⟩
 have CHw43 : Aside0 (Below w43.heap.size w43 w73) := ⟨below_step Sw45.out CHw45.out⟩
 have CHw42 : Aside0 (Below w42.heap.size w42 w73) := ⟨below_step Sw43.out CHw43.out⟩
 have CHw40 : Aside0 (Below w40.heap.size w40 w73) := ⟨below_step Sw42.out CHw42.out⟩
 have CHw37 : Aside0 (Below w37.heap.size w37 w73) := ⟨below_step Sw40.out CHw40.out⟩
 have CHw35 : Aside0 (Below w35.heap.size w35 w73) := ⟨below_step Sw37.out CHw37.out⟩
 have CHw34 : Aside0 (Below w34.heap.size w34 w73) := ⟨below_step Sw35.out CHw35.out⟩
 have CHw32 : Aside0 (Below w32.heap.size w32 w73) := ⟨below_step Sw34.out CHw34.out⟩
 have CHw31 : Aside0 (Below w31.heap.size w31 w73) := ⟨below_step Sw32.out CHw32.out⟩
 have CHw29 : Aside0 (Below w29.heap.size w29 w73) := ⟨below_step Sw31.out CHw31.out⟩
 have D353_409 : Aside0 (Below w40.heap.size w40 w57) := ⟨(below_step (below_step (below_step (below_step (below_step (below_step (below_step (below_step (below_step (below_step Sw42.out Sw43.out) Sw45.out) Sw46.out) Sw48.out) Sw49.out) Sw51.out) Sw52.out) Sw54.out) Sw55.out) Sw57.out)⟩
 have L353_409 : Aside0 (gb353 < gb409) := ⟨Nat.lt_of_lt_of_le (blk_lt BL353.out) (Nat.le_trans D353_409.out.size GL409.out)⟩
 have NB353_409 : Aside0 (gb353 ≠ gb409) := ⟨Nat.ne_of_lt L353_409.out⟩
 have NB409_353 : Aside0 (gb409 ≠ gb353) := ⟨Nat.ne_of_gt L353_409.out⟩
 have D353_456 : Aside0 (Below w40.heap.size w40 w73) := ⟨(below_step (below_step (below_step (below_step (below_step (below_step (below_step (below_step (below_step (below_step (below_step (below_step (below_step (below_step (below_step (below_step (below_step (below_step (below_step Sw42.out Sw43.out) Sw45.out) Sw46.out) Sw48.out) Sw49.out) Sw51.out) Sw52.out) Sw54.out) Sw55.out) Sw57.out) Sw61.out) Sw63.out) Sw64.out) Sw66.out) Sw67.out) Sw69.out) Sw70.out) Sw72.out) Sw73.out)⟩
 have L353_456 : Aside0 (gb353 < gb456) := ⟨Nat.lt_of_lt_of_le (blk_lt BL353.out) (Nat.le_trans D353_456.out.size GL456.out)⟩
 have NB353_456 : Aside0 (gb353 ≠ gb456) := ⟨Nat.ne_of_lt L353_456.out⟩
 have NB456_353 : Aside0 (gb456 ≠ gb353) := ⟨Nat.ne_of_gt L353_456.out⟩
 have D409_456 : Aside0 (Below w61.heap.size w61 w73) := ⟨(below_step (below_step (below_step (below_step (below_step (below_step (below_step Sw63.out Sw64.out) Sw66.out) Sw67.out) Sw69.out) Sw70.out) Sw72.out) Sw73.out)⟩
 have L409_456 : Aside0 (gb409 < gb456) := ⟨Nat.lt_of_lt_of_le (blk_lt BL409.out) (Nat.le_trans D409_456.out.size GL456.out)⟩
 have NB409_456 : Aside0 (gb409 ≠ gb456) := ⟨Nat.ne_of_lt L409_456.out⟩
 have NB456_409 : Aside0 (gb456 ≠ gb409) := ⟨Nat.ne_of_gt L409_456.out⟩
 go_cut [155] (fun v155 wc => ∃ (kq : Nat) (x155_27 : Bool), v155 = .bool x155_27 ∧ Aside0 (K_known.j0 kq t330 t340 t360 t368 t378 t386 t396 t416 t426 t427 t435 t445 x155_27 t350 t351 t406 t407 t449 t452 t453 t454 = some r) ∧ Aside0 (kq ≤ k) ∧ Aside0 (Kd.R (Kd.int .i64) 3 wc w.heap.size (fun _ => True) v331 t330) ∧ Aside0 (Kd.R (Kd.int .i64) 3 wc w.heap.size (fun _ => True) v341 t340) ∧ Aside0 (Kd.R (Kd.int .i64) 3 wc w.heap.size (fun _ => True) v369 t368) ∧ Aside0 (Kd.R (Kd.int .i64) 53 wc w.heap.size (fun _ => True) v387 t386) ∧ Aside0 (Kd.R (Kd.int .i64) 3 wc w.heap.size (fun _ => True) v397 t396) ∧ Aside0 (Kd.R k70 70 wc w.heap.size (fun _ => True) v417 t416) ∧ Aside0 (Kd.R (Kd.int .i64) 3 wc w.heap.size (fun _ => True) v436 t435) ∧ Aside0 (Kd.R k70 70 wc w.heap.size (fun _ => True) v446 t445) ∧ Aside0 (Kd.R (Kd.int .i64) 3 wc w.heap.size (fun _ => True) (.slice Ao75 t449.length co75) t449) ∧ Aside0 (wc.heap[gb353]? = some (.cells #[.int .i64 t350, .int .i64 t351] 24 (0, 0))) ∧ Aside0 (wc.heap[gb409]? = some (.cells #[.int .i64 t406, .int .i64 t407] 24 (0, 0))) ∧ Aside0 (wc.heap[gb456]? = some (.cells #[(.slice Ao75 t449.length co75), .int .i64 t452, .int .i64 t453, .int .i64 t454] 26 (0, 0))) ∧ Aside0 (Below w.heap.size w wc))
 case first =>
  have H := HC28.out
  clear HC28
  have c79 : t333 = 0 := Zc79.out
  have c79b0 : (t333 == 0) = true := beq_iff_eq.mpr c79
  have c79b1 : (t333 != 0) = false := bne_eq_false_iff_eq.mpr c79
  clear c79
  have c80 : t343 = 0 := Zc80.out
  have c80b0 : (t343 == 0) = true := beq_iff_eq.mpr c80
  have c80b1 : (t343 != 0) = false := bne_eq_false_iff_eq.mpr c80
  clear c80
  have c81 : t352 = 0 := Zc81.out
  have c81b0 : (t352 == 0) = true := beq_iff_eq.mpr c81
  have c81b1 : (t352 != 0) = false := bne_eq_false_iff_eq.mpr c81
  clear c81
  have c82 : t361 = 0 := Zc82.out
  have c82b0 : (t361 == 0) = true := beq_iff_eq.mpr c82
  have c82b1 : (t361 != 0) = false := bne_eq_false_iff_eq.mpr c82
  clear c82
  have c83 : t371 = 0 := Zc83.out
  have c83b0 : (t371 == 0) = true := beq_iff_eq.mpr c83
  have c83b1 : (t371 != 0) = false := bne_eq_false_iff_eq.mpr c83
  clear c83
  have c84 : t379 = 0 := Zc84.out
  have c84b0 : (t379 == 0) = true := beq_iff_eq.mpr c84
  have c84b1 : (t379 != 0) = false := bne_eq_false_iff_eq.mpr c84
  clear c84
  have c85 : t389 = 0 := Zc85.out
  have c85b0 : (t389 == 0) = true := beq_iff_eq.mpr c85
  have c85b1 : (t389 != 0) = false := bne_eq_false_iff_eq.mpr c85
  clear c85
  have c86 : t399 = 0 := Zc86.out
  have c86b0 : (t399 == 0) = true := beq_iff_eq.mpr c86
  have c86b1 : (t399 != 0) = false := bne_eq_false_iff_eq.mpr c86
  clear c86
  have c87 : t408 = 0 := Zc87.out
  have c87b0 : (t408 == 0) = true := beq_iff_eq.mpr c87
  have c87b1 : (t408 != 0) = false := bne_eq_false_iff_eq.mpr c87
  clear c87
  have c88 : t419 = 0 := Zc88.out
  have c88b0 : (t419 == 0) = true := beq_iff_eq.mpr c88
  have c88b1 : (t419 != 0) = false := bne_eq_false_iff_eq.mpr c88
  clear c88
  have c89 : t428 = 0 := Zc89.out
  have c89b0 : (t428 == 0) = true := beq_iff_eq.mpr c89
  have c89b1 : (t428 != 0) = false := bne_eq_false_iff_eq.mpr c89
  clear c89
  have c90 : t438 = 0 := Zc90.out
  have c90b0 : (t438 == 0) = true := beq_iff_eq.mpr c90
  have c90b1 : (t438 != 0) = false := bne_eq_false_iff_eq.mpr c90
  clear c90
  have c91 : t448 = 0 := Zc91.out
  have c91b0 : (t448 == 0) = true := beq_iff_eq.mpr c91
  have c91b1 : (t448 != 0) = false := bne_eq_false_iff_eq.mpr c91
  clear c91
  have H' := Aside0.mk H
  clear H
  go_wp2
  go_meet
  case rel => exact ⟨_, ((t455 != 0)), (by first | rfl | (simp; done) | (simp [*]; done)), H', ⟨by first | omega | exact Nat.le_refl _⟩, ⟨Kd.R_below HO332.out (below_step CHw31.out (by repeat (first | (with_reducible first | exact SX456.out | apply below_alloc | apply pw_below_drewN | apply below_drew1 | refine below_set ?_ GL456.out) | exact SX456.out)))⟩, ⟨Kd.R_below HO342.out (below_step CHw34.out (by repeat (first | (with_reducible first | exact SX456.out | apply below_alloc | apply pw_below_drewN | apply below_drew1 | refine below_set ?_ GL456.out) | exact SX456.out)))⟩, ⟨Kd.R_below HO370.out (below_step CHw45.out (by repeat (first | (with_reducible first | exact SX456.out | apply below_alloc | apply pw_below_drewN | apply below_drew1 | refine below_set ?_ GL456.out) | exact SX456.out)))⟩, ⟨Kd.R_below HO388.out (below_step CHw51.out (by repeat (first | (with_reducible first | exact SX456.out | apply below_alloc | apply pw_below_drewN | apply below_drew1 | refine below_set ?_ GL456.out) | exact SX456.out)))⟩, ⟨Kd.R_below HO398.out (below_step CHw54.out (by repeat (first | (with_reducible first | exact SX456.out | apply below_alloc | apply pw_below_drewN | apply below_drew1 | refine below_set ?_ GL456.out) | exact SX456.out)))⟩, ⟨Kd.R_below HO418.out (below_step CHw63.out (by repeat (first | (with_reducible first | exact SX456.out | apply below_alloc | apply pw_below_drewN | apply below_drew1 | refine below_set ?_ GL456.out) | exact SX456.out)))⟩, ⟨Kd.R_below HO437.out (below_step CHw69.out (by repeat (first | (with_reducible first | exact SX456.out | apply below_alloc | apply pw_below_drewN | apply below_drew1 | refine below_set ?_ GL456.out) | exact SX456.out)))⟩, ⟨Kd.R_below HO447.out (below_step CHw72.out (by repeat (first | (with_reducible first | exact SX456.out | apply below_alloc | apply pw_below_drewN | apply below_drew1 | refine below_set ?_ GL456.out) | exact SX456.out)))⟩, ⟨Kd.R_below HO451.out (below_step CHw73.out (by repeat (first | (with_reducible first | exact SX456.out | apply below_alloc | apply pw_below_drewN | apply below_drew1 | refine below_set ?_ GL456.out) | exact SX456.out)))⟩, ⟨blk_below BL353.out (below_step CHw40.out (by repeat (first | (with_reducible first | exact SX456.out | apply below_alloc | apply pw_below_drewN | apply below_drew1 | refine below_set ?_ GL456.out) | exact SX456.out)))⟩, ⟨blk_below BL409.out (below_step CHw61.out (by repeat (first | (with_reducible first | exact SX456.out | apply below_alloc | apply pw_below_drewN | apply below_drew1 | refine below_set ?_ GL456.out) | exact SX456.out)))⟩, ⟨by (with_reducible repeat (first | refine blk_drewN ?_ _ | refine blk_drew ?_ | refine blk_alloc ?_ _)); refine blk_put (cs := #[.slice Ao75 t449.length co75, .int .i64 t452, .int .i64 t453, .int .i64 0]) ?_ 3 _ rfl; (with_reducible repeat (first | refine blk_drewN ?_ _ | refine blk_drew ?_ | refine blk_alloc ?_ _)); refine blk_put (cs := #[.slice Ao75 t449.length co75, .int .i64 t452, .int .i64 0, .int .i64 0]) ?_ 2 _ rfl; (with_reducible repeat (first | refine blk_drewN ?_ _ | refine blk_drew ?_ | refine blk_alloc ?_ _)); refine blk_put (cs := #[.slice Ao75 t449.length co75, .int .i64 0, .int .i64 0, .int .i64 0]) ?_ 1 _ rfl; (with_reducible repeat (first | refine blk_drewN ?_ _ | refine blk_drew ?_ | refine blk_alloc ?_ _)); refine blk_put (cs := #[.slice none 0 0, .int .i64 0, .int .i64 0, .int .i64 0]) ?_ 0 _ rfl; (with_reducible repeat (first | refine blk_drewN ?_ _ | refine blk_drew ?_ | refine blk_alloc ?_ _)); exact BK456.out⟩, ⟨(by repeat (first | (with_reducible first | exact HB.out | apply below_alloc | apply pw_below_drewN | apply below_drew1 | refine below_set ?_ GE353.out | refine below_set ?_ GE409.out | refine below_set ?_ GE456.out) | exact HB.out))⟩⟩
 case rest =>
  clear HC28
  obtain ⟨kq, x155_27, rfl, HA, HJ27, HO_1, HO_3, HO_9, HO_13, HO_15, HO_19, HO_24, HO_26, HO_457000, BK353, BK409, BK456, HB⟩ := hcut
  cases kq with
  | zero => exact absurd HA.out (by simp [K_known.j0])
  | succ kj27 =>
   have H := HA.out
   clear HA
   simp only [K_known.j0] at H
   have c92 : ¬ (x155_27 = true) := fun q_ => by rw [if_pos q_] at H; exact K_known.absurd_f H HR.out
   replace c92 := Bool.eq_false_iff.mpr c92
   subst c92
   have H1 : ((T_Same.f kj27 t330 (([2, 2, 2, 3, 0, 3] : List Int))).bind fun t460 => (if t460 = true then ((T_Same.f kj27 t340 (([3, 4, 5] : List Int))).bind fun t464 => (if t464 = true then ((L_span.f 0 3).bind fun bt465 => (if (!(t350 == bt465.1) || (!(t351 == bt465.2))) = true then (K_known.j1 kj27 t416 t426 t427 t435 t445 true t449 t452 t453 t454) else (if t360 = 2 then ((T_Same.f kj27 t368 (([0, 3] : List Int))).bind fun t470 => (if t470 = true then (if t378 = 6 then ((R_SameWords.f kj27 t386 (([1, 1, 2, 2, 1, 1] : List Int))).bind fun t474 => (if t474 = true then ((T_Same.f kj27 t396 (([0, 3] : List Int))).bind fun t478 => (if t478 = true then ((L_span.f 25 25).bind fun bt479 => (K_known.j1 kj27 t416 t426 t427 t435 t445 (!(t406 == bt479.1) || (!(t407 == bt479.2))) t449 t452 t453 t454)) else (K_known.j1 kj27 t416 t426 t427 t435 t445 true t449 t452 t453 t454))) else (K_known.j1 kj27 t416 t426 t427 t435 t445 true t449 t452 t453 t454))) else (K_known.j1 kj27 t416 t426 t427 t435 t445 true t449 t452 t453 t454)) else (K_known.j1 kj27 t416 t426 t427 t435 t445 true t449 t452 t453 t454))) else (K_known.j1 kj27 t416 t426 t427 t435 t445 true t449 t452 t453 t454)))) else (K_known.j1 kj27 t416 t426 t427 t435 t445 true t449 t452 t453 t454))) else (K_known.j1 kj27 t416 t426 t427 t435 t445 true t449 t452 t453 t454))) = some r := by rw [if_neg (show ¬ (false = true) by decide)] at H; exact H
   clear H
   have H := H1
   clear H1
   have HC93 := Aside0.mk H
   clear H
   go_upto_region 18 with (fail)
   go_cut [207] (fun v207 wc => ∃ (kq : Nat) (x207_92 : Bool), v207 = .bool x207_92 ∧ Aside0 (K_known.j1 kq t416 t426 t427 t435 t445 x207_92 t449 t452 t453 t454 = some r) ∧ Aside0 (kq ≤ kj27) ∧ Aside0 (Kd.R k70 70 wc w.heap.size (fun _ => True) v417 t416) ∧ Aside0 (Kd.R (Kd.int .i64) 3 wc w.heap.size (fun _ => True) v436 t435) ∧ Aside0 (Kd.R k70 70 wc w.heap.size (fun _ => True) v446 t445) ∧ Aside0 (Kd.R (Kd.int .i64) 3 wc w.heap.size (fun _ => True) (.slice Ao75 t449.length co75) t449) ∧ Aside0 (wc.heap[gb353]? = some (.cells #[.int .i64 t350, .int .i64 t351] 24 (0, 0))) ∧ Aside0 (wc.heap[gb409]? = some (.cells #[.int .i64 t406, .int .i64 t407] 24 (0, 0))) ∧ Aside0 (wc.heap[gb456]? = some (.cells #[(.slice Ao75 t449.length co75), .int .i64 t452, .int .i64 t453, .int .i64 t454] 26 (0, 0))) ∧ Aside0 (Below w.heap.size w wc))
   case first =>
    have H := HC93.out
    clear HC93
    obtain ⟨y457, hy457⟩ : ∃ y_ : List Int, y_ = (([2, 2, 2, 3, 0, 3] : List Int)) := ⟨_, rfl⟩
    replace H : ((T_Same.f kj27 t330 y457).bind fun t460 => (if t460 = true then ((T_Same.f kj27 t340 (([3, 4, 5] : List Int))).bind fun t464 => (if t464 = true then ((L_span.f 0 3).bind fun bt465 => (if (!(t350 == bt465.1) || (!(t351 == bt465.2))) = true then (K_known.j1 kj27 t416 t426 t427 t435 t445 true t449 t452 t453 t454) else (if t360 = 2 then ((T_Same.f kj27 t368 (([0, 3] : List Int))).bind fun t470 => (if t470 = true then (if t378 = 6 then ((R_SameWords.f kj27 t386 (([1, 1, 2, 2, 1, 1] : List Int))).bind fun t474 => (if t474 = true then ((T_Same.f kj27 t396 (([0, 3] : List Int))).bind fun t478 => (if t478 = true then ((L_span.f 25 25).bind fun bt479 => (K_known.j1 kj27 t416 t426 t427 t435 t445 (!(t406 == bt479.1) || (!(t407 == bt479.2))) t449 t452 t453 t454)) else (K_known.j1 kj27 t416 t426 t427 t435 t445 true t449 t452 t453 t454))) else (K_known.j1 kj27 t416 t426 t427 t435 t445 true t449 t452 t453 t454))) else (K_known.j1 kj27 t416 t426 t427 t435 t445 true t449 t452 t453 t454)) else (K_known.j1 kj27 t416 t426 t427 t435 t445 true t449 t452 t453 t454))) else (K_known.j1 kj27 t416 t426 t427 t435 t445 true t449 t452 t453 t454)))) else (K_known.j1 kj27 t416 t426 t427 t435 t445 true t449 t452 t453 t454))) else (K_known.j1 kj27 t416 t426 t427 t435 t445 true t449 t452 t453 t454))) = some r := by first | (rw [hy457]; with_reducible exact H) | (have H2_ := (Option.bind_some _ _).symm.trans H; rw [hy457]; with_reducible exact H2_) | (have H2_ := (Option.bind_some _ _).symm.trans H; with_reducible exact H2_) | with_reducible exact H | (rw [hy457]; exact H) | exact H
    have Ny457 := Aside0.mk hy457
    clear hy457
    replace H := Option.bind_eq_some_iff.mp H
    obtain ⟨t460, A940, H⟩ := H
    replace H : (if t460 = true then ((T_Same.f kj27 t340 (([3, 4, 5] : List Int))).bind fun t464 => (if t464 = true then ((L_span.f 0 3).bind fun bt465 => (if (!(t350 == bt465.1) || (!(t351 == bt465.2))) = true then (K_known.j1 kj27 t416 t426 t427 t435 t445 true t449 t452 t453 t454) else (if t360 = 2 then ((T_Same.f kj27 t368 (([0, 3] : List Int))).bind fun t470 => (if t470 = true then (if t378 = 6 then ((R_SameWords.f kj27 t386 (([1, 1, 2, 2, 1, 1] : List Int))).bind fun t474 => (if t474 = true then ((T_Same.f kj27 t396 (([0, 3] : List Int))).bind fun t478 => (if t478 = true then ((L_span.f 25 25).bind fun bt479 => (K_known.j1 kj27 t416 t426 t427 t435 t445 (!(t406 == bt479.1) || (!(t407 == bt479.2))) t449 t452 t453 t454)) else (K_known.j1 kj27 t416 t426 t427 t435 t445 true t449 t452 t453 t454))) else (K_known.j1 kj27 t416 t426 t427 t435 t445 true t449 t452 t453 t454))) else (K_known.j1 kj27 t416 t426 t427 t435 t445 true t449 t452 t453 t454)) else (K_known.j1 kj27 t416 t426 t427 t435 t445 true t449 t452 t453 t454))) else (K_known.j1 kj27 t416 t426 t427 t435 t445 true t449 t452 t453 t454)))) else (K_known.j1 kj27 t416 t426 t427 t435 t445 true t449 t452 t453 t454))) else (K_known.j1 kj27 t416 t426 t427 t435 t445 true t449 t452 t453 t454)) = some r := H
    have A94 := Aside0.mk A940
    clear A940
    have c95 : t460 = true := Classical.byContradiction fun q_ => by rw [if_neg q_] at H; exact K_known.absurd_j1 H HR.out
    subst c95
    have H1 : ((T_Same.f kj27 t340 (([3, 4, 5] : List Int))).bind fun t464 => (if t464 = true then ((L_span.f 0 3).bind fun bt465 => (if (!(t350 == bt465.1) || (!(t351 == bt465.2))) = true then (K_known.j1 kj27 t416 t426 t427 t435 t445 true t449 t452 t453 t454) else (if t360 = 2 then ((T_Same.f kj27 t368 (([0, 3] : List Int))).bind fun t470 => (if t470 = true then (if t378 = 6 then ((R_SameWords.f kj27 t386 (([1, 1, 2, 2, 1, 1] : List Int))).bind fun t474 => (if t474 = true then ((T_Same.f kj27 t396 (([0, 3] : List Int))).bind fun t478 => (if t478 = true then ((L_span.f 25 25).bind fun bt479 => (K_known.j1 kj27 t416 t426 t427 t435 t445 (!(t406 == bt479.1) || (!(t407 == bt479.2))) t449 t452 t453 t454)) else (K_known.j1 kj27 t416 t426 t427 t435 t445 true t449 t452 t453 t454))) else (K_known.j1 kj27 t416 t426 t427 t435 t445 true t449 t452 t453 t454))) else (K_known.j1 kj27 t416 t426 t427 t435 t445 true t449 t452 t453 t454)) else (K_known.j1 kj27 t416 t426 t427 t435 t445 true t449 t452 t453 t454))) else (K_known.j1 kj27 t416 t426 t427 t435 t445 true t449 t452 t453 t454)))) else (K_known.j1 kj27 t416 t426 t427 t435 t445 true t449 t452 t453 t454))) = some r := by rw [if_pos rfl] at H; exact H
    clear H
    have H := H1
    clear H1
    obtain ⟨y461, hy461⟩ : ∃ y_ : List Int, y_ = (([3, 4, 5] : List Int)) := ⟨_, rfl⟩
    replace H : ((T_Same.f kj27 t340 y461).bind fun t464 => (if t464 = true then ((L_span.f 0 3).bind fun bt465 => (if (!(t350 == bt465.1) || (!(t351 == bt465.2))) = true then (K_known.j1 kj27 t416 t426 t427 t435 t445 true t449 t452 t453 t454) else (if t360 = 2 then ((T_Same.f kj27 t368 (([0, 3] : List Int))).bind fun t470 => (if t470 = true then (if t378 = 6 then ((R_SameWords.f kj27 t386 (([1, 1, 2, 2, 1, 1] : List Int))).bind fun t474 => (if t474 = true then ((T_Same.f kj27 t396 (([0, 3] : List Int))).bind fun t478 => (if t478 = true then ((L_span.f 25 25).bind fun bt479 => (K_known.j1 kj27 t416 t426 t427 t435 t445 (!(t406 == bt479.1) || (!(t407 == bt479.2))) t449 t452 t453 t454)) else (K_known.j1 kj27 t416 t426 t427 t435 t445 true t449 t452 t453 t454))) else (K_known.j1 kj27 t416 t426 t427 t435 t445 true t449 t452 t453 t454))) else (K_known.j1 kj27 t416 t426 t427 t435 t445 true t449 t452 t453 t454)) else (K_known.j1 kj27 t416 t426 t427 t435 t445 true t449 t452 t453 t454))) else (K_known.j1 kj27 t416 t426 t427 t435 t445 true t449 t452 t453 t454)))) else (K_known.j1 kj27 t416 t426 t427 t435 t445 true t449 t452 t453 t454))) = some r := by first | (rw [hy461]; with_reducible exact H) | (have H2_ := (Option.bind_some _ _).symm.trans H; rw [hy461]; with_reducible exact H2_) | (have H2_ := (Option.bind_some _ _).symm.trans H; with_reducible exact H2_) | with_reducible exact H | (rw [hy461]; exact H) | exact H
    have Ny461 := Aside0.mk hy461
    clear hy461
    replace H := Option.bind_eq_some_iff.mp H
    obtain ⟨t464, A960, H⟩ := H
    replace H : (if t464 = true then ((L_span.f 0 3).bind fun bt465 => (if (!(t350 == bt465.1) || (!(t351 == bt465.2))) = true then (K_known.j1 kj27 t416 t426 t427 t435 t445 true t449 t452 t453 t454) else (if t360 = 2 then ((T_Same.f kj27 t368 (([0, 3] : List Int))).bind fun t470 => (if t470 = true then (if t378 = 6 then ((R_SameWords.f kj27 t386 (([1, 1, 2, 2, 1, 1] : List Int))).bind fun t474 => (if t474 = true then ((T_Same.f kj27 t396 (([0, 3] : List Int))).bind fun t478 => (if t478 = true then ((L_span.f 25 25).bind fun bt479 => (K_known.j1 kj27 t416 t426 t427 t435 t445 (!(t406 == bt479.1) || (!(t407 == bt479.2))) t449 t452 t453 t454)) else (K_known.j1 kj27 t416 t426 t427 t435 t445 true t449 t452 t453 t454))) else (K_known.j1 kj27 t416 t426 t427 t435 t445 true t449 t452 t453 t454))) else (K_known.j1 kj27 t416 t426 t427 t435 t445 true t449 t452 t453 t454)) else (K_known.j1 kj27 t416 t426 t427 t435 t445 true t449 t452 t453 t454))) else (K_known.j1 kj27 t416 t426 t427 t435 t445 true t449 t452 t453 t454)))) else (K_known.j1 kj27 t416 t426 t427 t435 t445 true t449 t452 t453 t454)) = some r := H
    have A96 := Aside0.mk A960
    clear A960
    have c97 : t464 = true := Classical.byContradiction fun q_ => by rw [if_neg q_] at H; exact K_known.absurd_j1 H HR.out
    subst c97
    have H1 : ((L_span.f 0 3).bind fun bt465 => (if (!(t350 == bt465.1) || (!(t351 == bt465.2))) = true then (K_known.j1 kj27 t416 t426 t427 t435 t445 true t449 t452 t453 t454) else (if t360 = 2 then ((T_Same.f kj27 t368 (([0, 3] : List Int))).bind fun t470 => (if t470 = true then (if t378 = 6 then ((R_SameWords.f kj27 t386 (([1, 1, 2, 2, 1, 1] : List Int))).bind fun t474 => (if t474 = true then ((T_Same.f kj27 t396 (([0, 3] : List Int))).bind fun t478 => (if t478 = true then ((L_span.f 25 25).bind fun bt479 => (K_known.j1 kj27 t416 t426 t427 t435 t445 (!(t406 == bt479.1) || (!(t407 == bt479.2))) t449 t452 t453 t454)) else (K_known.j1 kj27 t416 t426 t427 t435 t445 true t449 t452 t453 t454))) else (K_known.j1 kj27 t416 t426 t427 t435 t445 true t449 t452 t453 t454))) else (K_known.j1 kj27 t416 t426 t427 t435 t445 true t449 t452 t453 t454)) else (K_known.j1 kj27 t416 t426 t427 t435 t445 true t449 t452 t453 t454))) else (K_known.j1 kj27 t416 t426 t427 t435 t445 true t449 t452 t453 t454)))) = some r := by rw [if_pos rfl] at H; exact H
    clear H
    have H := H1
    clear H1
    replace H := Option.bind_eq_some_iff.mp H
    obtain ⟨⟨t465, t466⟩, A980, H⟩ := H
    replace H : (if (!(t350 == t465) || (!(t351 == t466))) = true then (K_known.j1 kj27 t416 t426 t427 t435 t445 true t449 t452 t453 t454) else (if t360 = 2 then ((T_Same.f kj27 t368 (([0, 3] : List Int))).bind fun t470 => (if t470 = true then (if t378 = 6 then ((R_SameWords.f kj27 t386 (([1, 1, 2, 2, 1, 1] : List Int))).bind fun t474 => (if t474 = true then ((T_Same.f kj27 t396 (([0, 3] : List Int))).bind fun t478 => (if t478 = true then ((L_span.f 25 25).bind fun bt479 => (K_known.j1 kj27 t416 t426 t427 t435 t445 (!(t406 == bt479.1) || (!(t407 == bt479.2))) t449 t452 t453 t454)) else (K_known.j1 kj27 t416 t426 t427 t435 t445 true t449 t452 t453 t454))) else (K_known.j1 kj27 t416 t426 t427 t435 t445 true t449 t452 t453 t454))) else (K_known.j1 kj27 t416 t426 t427 t435 t445 true t449 t452 t453 t454)) else (K_known.j1 kj27 t416 t426 t427 t435 t445 true t449 t452 t453 t454))) else (K_known.j1 kj27 t416 t426 t427 t435 t445 true t449 t452 t453 t454))) = some r := H
    have A98 := Aside0.mk A980
    clear A980
    have c99 : ¬ ((!(t350 == t465) || (!(t351 == t466))) = true) := fun q_ => by rw [if_pos q_] at H; exact K_known.absurd_j1 H HR.out
    rw [if_neg c99] at H
    have c99b0 : (!(t350 == t465) || (!(t351 == t466))) = false := by simpa using c99
    clear c99
    (first | rw [c99b0] | (simp only [i64_w, i32_w]; rw [c99b0]) | skip)
    have c110 : t360 = 2 := Classical.byContradiction fun q_ => by rw [if_neg q_] at H; exact K_known.absurd_j1 H HR.out
    rw [if_pos c110] at H
    have c110b0 : (t360 == 2) = true := beq_iff_eq.mpr c110
    have c110b1 : (t360 != 2) = false := bne_eq_false_iff_eq.mpr c110
    clear c110
    obtain ⟨y467, hy467⟩ : ∃ y_ : List Int, y_ = (([0, 3] : List Int)) := ⟨_, rfl⟩
    replace H : ((T_Same.f kj27 t368 y467).bind fun t470 => (if t470 = true then (if t378 = 6 then ((R_SameWords.f kj27 t386 (([1, 1, 2, 2, 1, 1] : List Int))).bind fun t474 => (if t474 = true then ((T_Same.f kj27 t396 (([0, 3] : List Int))).bind fun t478 => (if t478 = true then ((L_span.f 25 25).bind fun bt479 => (K_known.j1 kj27 t416 t426 t427 t435 t445 (!(t406 == bt479.1) || (!(t407 == bt479.2))) t449 t452 t453 t454)) else (K_known.j1 kj27 t416 t426 t427 t435 t445 true t449 t452 t453 t454))) else (K_known.j1 kj27 t416 t426 t427 t435 t445 true t449 t452 t453 t454))) else (K_known.j1 kj27 t416 t426 t427 t435 t445 true t449 t452 t453 t454)) else (K_known.j1 kj27 t416 t426 t427 t435 t445 true t449 t452 t453 t454))) = some r := by first | (rw [hy467]; with_reducible exact H) | (have H2_ := (Option.bind_some _ _).symm.trans H; rw [hy467]; with_reducible exact H2_) | (have H2_ := (Option.bind_some _ _).symm.trans H; with_reducible exact H2_) | with_reducible exact H | (rw [hy467]; exact H) | exact H
    have Ny467 := Aside0.mk hy467
    clear hy467
    replace H := Option.bind_eq_some_iff.mp H
    obtain ⟨t470, A1110, H⟩ := H
    replace H : (if t470 = true then (if t378 = 6 then ((R_SameWords.f kj27 t386 (([1, 1, 2, 2, 1, 1] : List Int))).bind fun t474 => (if t474 = true then ((T_Same.f kj27 t396 (([0, 3] : List Int))).bind fun t478 => (if t478 = true then ((L_span.f 25 25).bind fun bt479 => (K_known.j1 kj27 t416 t426 t427 t435 t445 (!(t406 == bt479.1) || (!(t407 == bt479.2))) t449 t452 t453 t454)) else (K_known.j1 kj27 t416 t426 t427 t435 t445 true t449 t452 t453 t454))) else (K_known.j1 kj27 t416 t426 t427 t435 t445 true t449 t452 t453 t454))) else (K_known.j1 kj27 t416 t426 t427 t435 t445 true t449 t452 t453 t454)) else (K_known.j1 kj27 t416 t426 t427 t435 t445 true t449 t452 t453 t454)) = some r := H
    have A111 := Aside0.mk A1110
    clear A1110
    have c112 : t470 = true := Classical.byContradiction fun q_ => by rw [if_neg q_] at H; exact K_known.absurd_j1 H HR.out
    subst c112
    have H1 : (if t378 = 6 then ((R_SameWords.f kj27 t386 (([1, 1, 2, 2, 1, 1] : List Int))).bind fun t474 => (if t474 = true then ((T_Same.f kj27 t396 (([0, 3] : List Int))).bind fun t478 => (if t478 = true then ((L_span.f 25 25).bind fun bt479 => (K_known.j1 kj27 t416 t426 t427 t435 t445 (!(t406 == bt479.1) || (!(t407 == bt479.2))) t449 t452 t453 t454)) else (K_known.j1 kj27 t416 t426 t427 t435 t445 true t449 t452 t453 t454))) else (K_known.j1 kj27 t416 t426 t427 t435 t445 true t449 t452 t453 t454))) else (K_known.j1 kj27 t416 t426 t427 t435 t445 true t449 t452 t453 t454)) = some r := by rw [if_pos rfl] at H; exact H
    clear H
    have H := H1
    clear H1
    have c113 : t378 = 6 := Classical.byContradiction fun q_ => by rw [if_neg q_] at H; exact K_known.absurd_j1 H HR.out
    rw [if_pos c113] at H
    have c113b0 : (t378 == 6) = true := beq_iff_eq.mpr c113
    have c113b1 : (t378 != 6) = false := bne_eq_false_iff_eq.mpr c113
    clear c113
    obtain ⟨y471, hy471⟩ : ∃ y_ : List Int, y_ = (([1, 1, 2, 2, 1, 1] : List Int)) := ⟨_, rfl⟩
    replace H : ((R_SameWords.f kj27 t386 y471).bind fun t474 => (if t474 = true then ((T_Same.f kj27 t396 (([0, 3] : List Int))).bind fun t478 => (if t478 = true then ((L_span.f 25 25).bind fun bt479 => (K_known.j1 kj27 t416 t426 t427 t435 t445 (!(t406 == bt479.1) || (!(t407 == bt479.2))) t449 t452 t453 t454)) else (K_known.j1 kj27 t416 t426 t427 t435 t445 true t449 t452 t453 t454))) else (K_known.j1 kj27 t416 t426 t427 t435 t445 true t449 t452 t453 t454))) = some r := by first | (rw [hy471]; with_reducible exact H) | (have H2_ := (Option.bind_some _ _).symm.trans H; rw [hy471]; with_reducible exact H2_) | (have H2_ := (Option.bind_some _ _).symm.trans H; with_reducible exact H2_) | with_reducible exact H | (rw [hy471]; exact H) | exact H
    have Ny471 := Aside0.mk hy471
    clear hy471
    replace H := Option.bind_eq_some_iff.mp H
    obtain ⟨t474, A1140, H⟩ := H
    replace H : (if t474 = true then ((T_Same.f kj27 t396 (([0, 3] : List Int))).bind fun t478 => (if t478 = true then ((L_span.f 25 25).bind fun bt479 => (K_known.j1 kj27 t416 t426 t427 t435 t445 (!(t406 == bt479.1) || (!(t407 == bt479.2))) t449 t452 t453 t454)) else (K_known.j1 kj27 t416 t426 t427 t435 t445 true t449 t452 t453 t454))) else (K_known.j1 kj27 t416 t426 t427 t435 t445 true t449 t452 t453 t454)) = some r := H
    have A114 := Aside0.mk A1140
    clear A1140
    have c115 : t474 = true := Classical.byContradiction fun q_ => by rw [if_neg q_] at H; exact K_known.absurd_j1 H HR.out
    subst c115
    have H1 : ((T_Same.f kj27 t396 (([0, 3] : List Int))).bind fun t478 => (if t478 = true then ((L_span.f 25 25).bind fun bt479 => (K_known.j1 kj27 t416 t426 t427 t435 t445 (!(t406 == bt479.1) || (!(t407 == bt479.2))) t449 t452 t453 t454)) else (K_known.j1 kj27 t416 t426 t427 t435 t445 true t449 t452 t453 t454))) = some r := by rw [if_pos rfl] at H; exact H
    clear H
    have H := H1
    clear H1
    obtain ⟨y475, hy475⟩ : ∃ y_ : List Int, y_ = (([0, 3] : List Int)) := ⟨_, rfl⟩
    replace H : ((T_Same.f kj27 t396 y475).bind fun t478 => (if t478 = true then ((L_span.f 25 25).bind fun bt479 => (K_known.j1 kj27 t416 t426 t427 t435 t445 (!(t406 == bt479.1) || (!(t407 == bt479.2))) t449 t452 t453 t454)) else (K_known.j1 kj27 t416 t426 t427 t435 t445 true t449 t452 t453 t454))) = some r := by first | (rw [hy475]; with_reducible exact H) | (have H2_ := (Option.bind_some _ _).symm.trans H; rw [hy475]; with_reducible exact H2_) | (have H2_ := (Option.bind_some _ _).symm.trans H; with_reducible exact H2_) | with_reducible exact H | (rw [hy475]; exact H) | exact H
    have Ny475 := Aside0.mk hy475
    clear hy475
    replace H := Option.bind_eq_some_iff.mp H
    obtain ⟨t478, A1160, H⟩ := H
    replace H : (if t478 = true then ((L_span.f 25 25).bind fun bt479 => (K_known.j1 kj27 t416 t426 t427 t435 t445 (!(t406 == bt479.1) || (!(t407 == bt479.2))) t449 t452 t453 t454)) else (K_known.j1 kj27 t416 t426 t427 t435 t445 true t449 t452 t453 t454)) = some r := H
    have A116 := Aside0.mk A1160
    clear A1160
    have c117 : t478 = true := Classical.byContradiction fun q_ => by rw [if_neg q_] at H; exact K_known.absurd_j1 H HR.out
    subst c117
    have H1 : ((L_span.f 25 25).bind fun bt479 => (K_known.j1 kj27 t416 t426 t427 t435 t445 (!(t406 == bt479.1) || (!(t407 == bt479.2))) t449 t452 t453 t454)) = some r := by rw [if_pos rfl] at H; exact H
    clear H
    have H := H1
    clear H1
    replace H := Option.bind_eq_some_iff.mp H
    obtain ⟨⟨t479, t480⟩, A1180, H⟩ := H
    replace H : (K_known.j1 kj27 t416 t426 t427 t435 t445 (!(t406 == t479) || (!(t407 == t480))) t449 t452 t453 t454) = some r := H
    have A118 := Aside0.mk A1180
    clear A1180
    have H' := Aside0.mk H
    clear H
    try go_wp2
    have n0_ := Aside0.mk (Kd.R_drew HO_1.out)
    have n1_ := Aside0.mk (Kd.R_drew HO_3.out)
    have n2_ := Aside0.mk (Kd.R_drew HO_9.out)
    have n3_ := Aside0.mk (Kd.R_drew HO_13.out)
    have n4_ := Aside0.mk (Kd.R_drew HO_15.out)
    have n5_ := Aside0.mk (Kd.R_drew HO_19.out)
    have n6_ := Aside0.mk (Kd.R_drew HO_24.out)
    have n7_ := Aside0.mk (Kd.R_drew HO_26.out)
    have n8_ := Aside0.mk (Kd.R_drew HO_457000.out)
    have n9_ := Aside0.mk (blk_drew BK353.out)
    have n10_ := Aside0.mk (blk_drew BK409.out)
    have n11_ := Aside0.mk (blk_drew BK456.out)
    have n12_ := Aside0.mk (below_drew1 HB.out)
    clear HO_1
    clear HO_3
    clear HO_9
    clear HO_13
    clear HO_15
    clear HO_19
    clear HO_24
    clear HO_26
    clear HO_457000
    clear BK353
    clear BK409
    clear BK456
    clear HB
    have HO_1 := n0_
    have HO_3 := n1_
    have HO_9 := n2_
    have HO_13 := n3_
    have HO_15 := n4_
    have HO_19 := n5_
    have HO_24 := n6_
    have HO_26 := n7_
    have HO_457000 := n8_
    have BK353 := n9_
    have BK409 := n10_
    have BK456 := n11_
    have HB := n12_
    clear n0_ n1_ n2_ n3_ n4_ n5_ n6_ n7_ n8_ n9_ n10_ n11_ n12_
    refine start_ (n := 52) (S := fun w' => w'.cell? ⟨gb353, 0, none⟩ = some (.int .i64 t350) ∧ w'.cell? ⟨gb353, 1, none⟩ = some (.int .i64 t351) ∧ w'.cell? ⟨gb409, 0, none⟩ = some (.int .i64 t406) ∧ w'.cell? ⟨gb409, 1, none⟩ = some (.int .i64 t407)) (ds := []) #[false,false,false,false,false,false,false,false,false,false,false,false,false,false,false,false,false,false,false,false,false,false,false,false,false,false,false,false,false,false,false,false,false,false,false,false,false,false,false,false,false,false,false,false,false,false,false,false,false,false,false,false] (by kernel_rfl) rfl rfl ⟨(blk_cell BK353.out 0).trans rfl, (blk_cell BK353.out 1).trans rfl, (blk_cell BK409.out 0).trans rfl, (blk_cell BK409.out 1).trans rfl⟩ (fun hHeld => ?_); refine with_tabW K_known.tab18 K_known.bits18 (fun HT_ HW_ => ?_)
    generalize wc.drew = w119 at HO_1 HO_3 HO_9 HO_13 HO_15 HO_19 HO_24 HO_26 HO_457000 BK353 BK409 BK456 HB hHeld ⊢
    refine pure_ (i := 0) (N := some 156) (v := ?_) (a' := ?_) #[true,false,false,false,false,false,false,false,false,false,false,false,false,false,false,false,false,false,false,false,false,false,false,false,false,false,false,false,false,false,false,false,false,false,false,false,false,false,false,false,false,false,false,false,false,false,false,false,false,false,false,false] rfl rfl (any_of HT_.out (by kernel_rfl)) (fun _ _ _ h => h) (Or.inl ⟨by rfl, ?_⟩) ?_ ?_
    rotate_left
    ·intro w'
     go_simp
     with_reducible rfl
    rotate_left
    ·simp only [Act.put, List.setIfInBounds_toArray, List.set_cons_zero, List.set_cons_succ, i64_w, i32_w]
     rfl
    refine one_ (i := 1) (N := some 157) #[true,true,false,false,false,false,false,false,false,false,false,false,false,false,false,false,false,false,false,false,false,false,false,false,false,false,false,false,false,false,false,false,false,false,false,false,false,false,false,false,false,false,false,false,false,false,false,false,false,false,false,false] rfl rfl (one_of HT_.out (by kernel_rfl)) (by decide) (fun K hK => ?_)
    refine Kd.R_lit_step (Kd.int .i64) _ 3 ?hg (N := 157) ?hd (xs := ([2, 2, 2, 3, 0, 3] : List Int)) (inner := [.int .i64 2, .int .i64 2, .int .i64 2, .int .i64 3, .int .i64 0, .int .i64 3]) (ok := fun _ => True) (okp := fun _ => True) ?hr ?hp (fun _ hk => hk) trivial (Below.refl _ _) (Nat.le_refl _) (by simp) ?_; (case hd => rfl); (case hg => rfl); (case hr => first | (go_simp; done) | (go_simp; rfl)); (case hp => exact (Reps.one (show Kd.M (Kd.int .i64) _ _ _ 2 [.int .i64 2] from rfl) (Reps.one (show Kd.M (Kd.int .i64) _ _ _ 2 [.int .i64 2] from rfl) (Reps.one (show Kd.M (Kd.int .i64) _ _ _ 2 [.int .i64 2] from rfl) (Reps.one (show Kd.M (Kd.int .i64) _ _ _ 3 [.int .i64 3] from rfl) (Reps.one (show Kd.M (Kd.int .i64) _ _ _ 0 [.int .i64 0] from rfl) (Reps.one (show Kd.M (Kd.int .i64) _ _ _ 3 [.int .i64 3] from rfl) (Reps.none _ _))))))))
    intro v458 w120 ho121 hb hg_ hnew_
    clear hg_ hnew_
    (first | rw [← Ny457.out] at ho121 | (simp only [Int.reduceToNat] at ho121; rw [← Ny457.out] at ho121))
    have n0_ := Aside0.mk (Kd.R_elder' (rup HO_1.out) (Kd.R_base ho121) hb)
    have n1_ := Aside0.mk (Kd.R_elder' (rup HO_3.out) (Kd.R_base ho121) hb)
    have n2_ := Aside0.mk (Kd.R_elder' (rup HO_9.out) (Kd.R_base ho121) hb)
    have n3_ := Aside0.mk (Kd.R_below (rup HO_13.out) hb)
    have n4_ := Aside0.mk (Kd.R_elder' (rup HO_15.out) (Kd.R_base ho121) hb)
    have n5_ := Aside0.mk (Kd.R_below (rup HO_19.out) hb)
    have n6_ := Aside0.mk (Kd.R_elder' (rup HO_24.out) (Kd.R_base ho121) hb)
    have n7_ := Aside0.mk (Kd.R_below (rup HO_26.out) hb)
    have n8_ := Aside0.mk (Kd.R_elder' (rup HO_457000.out) (Kd.R_base ho121) hb)
    have n9_ := Aside0.mk (Kd.R_lower (Kd.R_new' (Kd.R_new' (Kd.R_new' (Kd.R_new' (Kd.R_new' (Kd.R_new' ho121 (Kd.R_lt (rup HO_1.out))) (Kd.R_lt (rup HO_3.out))) (Kd.R_lt (rup HO_9.out))) (Kd.R_lt (rup HO_15.out))) (Kd.R_lt (rup HO_24.out))) (Kd.R_lt (rup HO_457000.out))) (below_size (by repeat (first | (with_reducible first | exact HB.out | apply below_alloc | apply pw_below_drewN | apply below_drew1 | refine below_set ?_ GE353.out | refine below_set ?_ GE409.out | refine below_set ?_ GE456.out) | exact HB.out))))
    have n10_ := Aside0.mk (blk_below (g := gb353) (o := .cells #[.int .i64 t350, .int .i64 t351] 24 (0, 0)) (bup BK353.out) hb)
    have n11_ := Aside0.mk (blk_below (g := gb409) (o := .cells #[.int .i64 t406, .int .i64 t407] 24 (0, 0)) (bup BK409.out) hb)
    have n12_ := Aside0.mk (blk_below (g := gb456) (o := .cells #[.slice Ao75 t449.length co75, .int .i64 t452, .int .i64 t453, .int .i64 t454] 26 (0, 0)) (bup BK456.out) hb)
    have n13_ := Aside0.mk (below_step (by repeat (first | (with_reducible first | exact HB.out | apply below_alloc | apply pw_below_drewN | apply below_drew1 | refine below_set ?_ GE353.out | refine below_set ?_ GE409.out | refine below_set ?_ GE456.out) | exact HB.out)) hb)
    clear HO_1
    clear HO_3
    clear HO_9
    clear HO_13
    clear HO_15
    clear HO_19
    clear HO_24
    clear HO_26
    clear HO_457000
    clear BK353
    clear BK409
    clear BK456
    clear HB
    have HO_1 := n0_
    have HO_3 := n1_
    have HO_9 := n2_
    have HO_13 := n3_
    have HO_15 := n4_
    have HO_19 := n5_
    have HO_24 := n6_
    have HO_26 := n7_
    have HO_457000 := n8_
    have HO459 := n9_
    have BK353 := n10_
    have BK409 := n11_
    have BK456 := n12_
    have HB := n13_
    clear n0_ n1_ n2_ n3_ n4_ n5_ n6_ n7_ n8_ n9_ n10_ n11_ n12_ n13_
    clear hb ho121
    obtain ⟨Ao122, co122, eo122⟩ := Kd.R_slice HO_1.out
    (first | subst eo122 | (injection eo122 with f1_ f2_ f3_; have f4_ := f1_.symm; have f5_ := f3_.symm; clear f1_ f2_ f3_; subst f4_; subst f5_))
    obtain ⟨Ao123, co123, eo123⟩ := Kd.R_slice HO459.out
    (first | subst eo123 | (injection eo123 with f1_ f2_ f3_; have f4_ := f1_.symm; have f5_ := f3_.symm; clear f1_ f2_ f3_; subst f4_; subst f5_))
    refine hK.out _ _ ⟨(blk_cell BK353.out 0).trans rfl, (blk_cell BK353.out 1).trans rfl, (blk_cell BK409.out 0).trans rfl, (blk_cell BK409.out 1).trans rfl⟩ (fun hHeld => ?_)
    clear hK K
    refine norm_ (a' := ?_) ?_ ?_
    rotate_left
    ·show Act.put _ (some 157) _ = _
     simp only [Act.put, List.setIfInBounds_toArray, List.set_cons_zero, List.set_cons_succ, i64_w, i32_w]
     rfl
    refine one_ (i := 2) (N := some 158) #[true,true,true,false,false,false,false,false,false,false,false,false,false,false,false,false,false,false,false,false,false,false,false,false,false,false,false,false,false,false,false,false,false,false,false,false,false,false,false,false,false,false,false,false,false,false,false,false,false,false,false,false] rfl rfl (one_of HT_.out (by kernel_rfl)) (by decide) (fun K hK => ?_)
    refine goes_ Tryz.func19 (by kernel_rfl) rfl #[.slice Ao122 t330.length co122, .slice Ao123 y457.length co123] (by rfl) rfl rfl (by (try simp only [List.map_toArray, List.map_cons, List.map_nil]); first | done | rfl | (simp only [List.length_drop, List.length_take]; rfl)) ?_
    with_reducible refine (T_Same.calls kj27 _ _ t330 _ _ y457 true _ ?side1 ?side2 ?side3 ?side4 A94.out).mono ?_
    (case side1 => repeat (first | exact (Kd.R_reads' HO_1.out).2.2 | (with_reducible refine Kd.C_alloc ?_ _) | (with_reducible refine Kd.C_drewN ?_ _) | (with_reducible refine Kd.C_drew ?_)))
    (case side2 => exact (Kd.R_reads' HO_1.out).2.1)
    (case side3 => repeat (first | exact (Kd.R_reads' HO459.out).2.2 | (with_reducible refine Kd.C_alloc ?_ _) | (with_reducible refine Kd.C_drewN ?_ _) | (with_reducible refine Kd.C_drew ?_)))
    (case side4 => exact (Kd.R_reads' HO459.out).2.1)
    rintro e w' ⟨rfl, ⟨nd, rfl⟩⟩
    refine ⟨_, rfl, ?_⟩
    refine hK.out _ _ ⟨(blk_cell BK353.out 0).trans rfl, (blk_cell BK353.out 1).trans rfl, (blk_cell BK409.out 0).trans rfl, (blk_cell BK409.out 1).trans rfl⟩ (fun hHeld => ?_)
    clear hK K
    refine norm_ (a' := ?_) ?_ ?_
    rotate_left
    ·show Act.put _ (some 158) _ = _
     simp only [Act.put, List.setIfInBounds_toArray, List.set_cons_zero, List.set_cons_succ, i64_w, i32_w]
     rfl
    refine pure_ (i := 3) (N := some 159) (v := ?_) (a' := ?_) #[true,true,true,true,false,false,false,false,false,false,false,false,false,false,false,false,false,false,false,false,false,false,false,false,false,false,false,false,false,false,false,false,false,false,false,false,false,false,false,false,false,false,false,false,false,false,false,false,false,false,false,false] rfl rfl (any_of HT_.out (by kernel_rfl)) (fun _ _ _ h => h) (Or.inl ⟨by rfl, ?_⟩) ?_ ?_
    rotate_left
    ·intro w'
     go_simp
     with_reducible rfl
    rotate_left
    ·simp only [Act.put, List.setIfInBounds_toArray, List.set_cons_zero, List.set_cons_succ, i64_w, i32_w]
     rfl
    refine pure_ (i := 4) (N := some 160) (v := ?_) (a' := ?_) #[true,true,true,true,true,false,false,false,false,false,false,false,false,false,false,false,false,false,false,false,false,false,false,false,false,false,false,false,false,false,false,false,false,false,false,false,false,false,false,false,false,false,false,false,false,false,false,false,false,false,false,false] rfl rfl (any_of HT_.out (by kernel_rfl)) (fun _ _ _ h => h) (Or.inl ⟨by rfl, ?_⟩) ?_ ?_
    rotate_left
    ·intro w'
     go_simp
     with_reducible rfl
    rotate_left
    ·simp only [Act.put, List.setIfInBounds_toArray, List.set_cons_zero, List.set_cons_succ, i64_w, i32_w]
     rfl
    refine pure_ (i := 5) (N := some 161) (v := ?_) (a' := ?_) #[true,true,true,true,true,true,false,false,false,false,false,false,false,false,false,false,false,false,false,false,false,false,false,false,false,false,false,false,false,false,false,false,false,false,false,false,false,false,false,false,false,false,false,false,false,false,false,false,false,false,false,false] rfl rfl (any_of HT_.out (by kernel_rfl)) (fun _ _ _ h => h) (Or.inl ⟨by rfl, ?_⟩) ?_ ?_
    rotate_left
    ·intro w'
     go_simp
     with_reducible rfl
    rotate_left
    ·simp only [Act.put, List.setIfInBounds_toArray, List.set_cons_zero, List.set_cons_succ, i64_w, i32_w]
     rfl
    refine one_ (i := 6) (N := some 162) #[true,true,true,true,true,true,true,false,false,false,false,false,false,false,false,false,false,false,false,false,false,false,false,false,false,false,false,false,false,false,false,false,false,false,false,false,false,false,false,false,false,false,false,false,false,false,false,false,false,false,false,false] rfl rfl (one_of HT_.out (by kernel_rfl)) (by decide) (fun K hK => ?_)
    refine Kd.R_lit_step (Kd.int .i64) _ 3 ?hg (N := 162) ?hd (xs := ([3, 4, 5] : List Int)) (inner := [.int .i64 3, .int .i64 4, .int .i64 5]) (ok := fun _ => True) (okp := fun _ => True) ?hr ?hp (fun _ hk => hk) trivial (Below.refl _ _) (Nat.le_refl _) (by simp) ?_; (case hd => rfl); (case hg => rfl); (case hr => first | (go_simp; done) | (go_simp; rfl)); (case hp => exact (Reps.one (show Kd.M (Kd.int .i64) _ _ _ 3 [.int .i64 3] from rfl) (Reps.one (show Kd.M (Kd.int .i64) _ _ _ 4 [.int .i64 4] from rfl) (Reps.one (show Kd.M (Kd.int .i64) _ _ _ 5 [.int .i64 5] from rfl) (Reps.none _ _)))))
    intro v462 w124 ho125 hb hg_ hnew_
    clear hg_ hnew_
    (first | rw [← Ny461.out] at ho125 | (simp only [Int.reduceToNat] at ho125; rw [← Ny461.out] at ho125))
    have n0_ := Aside0.mk (Kd.R_elder' (rup HO_1.out) (Kd.R_base ho125) hb)
    have n1_ := Aside0.mk (Kd.R_elder' (rup HO_3.out) (Kd.R_base ho125) hb)
    have n2_ := Aside0.mk (Kd.R_elder' (rup HO_9.out) (Kd.R_base ho125) hb)
    have n3_ := Aside0.mk (Kd.R_below (rup HO_13.out) hb)
    have n4_ := Aside0.mk (Kd.R_elder' (rup HO_15.out) (Kd.R_base ho125) hb)
    have n5_ := Aside0.mk (Kd.R_below (rup HO_19.out) hb)
    have n6_ := Aside0.mk (Kd.R_elder' (rup HO_24.out) (Kd.R_base ho125) hb)
    have n7_ := Aside0.mk (Kd.R_below (rup HO_26.out) hb)
    have n8_ := Aside0.mk (Kd.R_elder' (rup HO_457000.out) (Kd.R_base ho125) hb)
    have n9_ := Aside0.mk (Kd.R_elder' (rup HO459.out) (Kd.R_base ho125) hb)
    have n10_ := Aside0.mk (Kd.R_lower (Kd.R_new' (Kd.R_new' (Kd.R_new' (Kd.R_new' (Kd.R_new' (Kd.R_new' (Kd.R_new' ho125 (Kd.R_lt (rup HO_1.out))) (Kd.R_lt (rup HO_3.out))) (Kd.R_lt (rup HO_9.out))) (Kd.R_lt (rup HO_15.out))) (Kd.R_lt (rup HO_24.out))) (Kd.R_lt (rup HO_457000.out))) (Kd.R_lt (rup HO459.out))) (below_size (by repeat (first | (with_reducible first | exact HB.out | apply below_alloc | apply pw_below_drewN | apply below_drew1 | refine below_set ?_ GE353.out | refine below_set ?_ GE409.out | refine below_set ?_ GE456.out) | exact HB.out))))
    have n11_ := Aside0.mk (blk_below (g := gb353) (o := .cells #[.int .i64 t350, .int .i64 t351] 24 (0, 0)) (bup BK353.out) hb)
    have n12_ := Aside0.mk (blk_below (g := gb409) (o := .cells #[.int .i64 t406, .int .i64 t407] 24 (0, 0)) (bup BK409.out) hb)
    have n13_ := Aside0.mk (blk_below (g := gb456) (o := .cells #[.slice Ao75 t449.length co75, .int .i64 t452, .int .i64 t453, .int .i64 t454] 26 (0, 0)) (bup BK456.out) hb)
    have n14_ := Aside0.mk (below_step (by repeat (first | (with_reducible first | exact HB.out | apply below_alloc | apply pw_below_drewN | apply below_drew1 | refine below_set ?_ GE353.out | refine below_set ?_ GE409.out | refine below_set ?_ GE456.out) | exact HB.out)) hb)
    clear HO_1
    clear HO_3
    clear HO_9
    clear HO_13
    clear HO_15
    clear HO_19
    clear HO_24
    clear HO_26
    clear HO_457000
    clear HO459
    clear BK353
    clear BK409
    clear BK456
    clear HB
    have HO_1 := n0_
    have HO_3 := n1_
    have HO_9 := n2_
    have HO_13 := n3_
    have HO_15 := n4_
    have HO_19 := n5_
    have HO_24 := n6_
    have HO_26 := n7_
    have HO_457000 := n8_
    have HO459 := n9_
    have HO463 := n10_
    have BK353 := n11_
    have BK409 := n12_
    have BK456 := n13_
    have HB := n14_
    clear n0_ n1_ n2_ n3_ n4_ n5_ n6_ n7_ n8_ n9_ n10_ n11_ n12_ n13_ n14_
    clear hb ho125
    obtain ⟨Ao126, co126, eo126⟩ := Kd.R_slice HO_3.out
    (first | subst eo126 | (injection eo126 with f1_ f2_ f3_; have f4_ := f1_.symm; have f5_ := f3_.symm; clear f1_ f2_ f3_; subst f4_; subst f5_))
    obtain ⟨Ao127, co127, eo127⟩ := Kd.R_slice HO463.out
    (first | subst eo127 | (injection eo127 with f1_ f2_ f3_; have f4_ := f1_.symm; have f5_ := f3_.symm; clear f1_ f2_ f3_; subst f4_; subst f5_))
    refine hK.out _ _ ⟨(blk_cell BK353.out 0).trans rfl, (blk_cell BK353.out 1).trans rfl, (blk_cell BK409.out 0).trans rfl, (blk_cell BK409.out 1).trans rfl⟩ (fun hHeld => ?_)
    clear hK K
    refine norm_ (a' := ?_) ?_ ?_
    rotate_left
    ·show Act.put _ (some 162) _ = _
     simp only [Act.put, List.setIfInBounds_toArray, List.set_cons_zero, List.set_cons_succ, i64_w, i32_w]
     rfl
    refine one_ (i := 7) (N := some 163) #[true,true,true,true,true,true,true,true,false,false,false,false,false,false,false,false,false,false,false,false,false,false,false,false,false,false,false,false,false,false,false,false,false,false,false,false,false,false,false,false,false,false,false,false,false,false,false,false,false,false,false,false] rfl rfl (one_of HT_.out (by kernel_rfl)) (by decide) (fun K hK => ?_)
    refine goes_ Tryz.func19 (by kernel_rfl) rfl #[.slice Ao126 t340.length co126, .slice Ao127 y461.length co127] (by rfl) rfl rfl (by (try simp only [List.map_toArray, List.map_cons, List.map_nil]); first | done | rfl | (simp only [List.length_drop, List.length_take]; rfl)) ?_
    with_reducible refine (T_Same.calls kj27 _ _ t340 _ _ y461 true _ ?side1 ?side2 ?side3 ?side4 A96.out).mono ?_
    (case side1 => repeat (first | exact (Kd.R_reads' HO_3.out).2.2 | (with_reducible refine Kd.C_alloc ?_ _) | (with_reducible refine Kd.C_drewN ?_ _) | (with_reducible refine Kd.C_drew ?_)))
    (case side2 => exact (Kd.R_reads' HO_3.out).2.1)
    (case side3 => repeat (first | exact (Kd.R_reads' HO463.out).2.2 | (with_reducible refine Kd.C_alloc ?_ _) | (with_reducible refine Kd.C_drewN ?_ _) | (with_reducible refine Kd.C_drew ?_)))
    (case side4 => exact (Kd.R_reads' HO463.out).2.1)
    rintro e w' ⟨rfl, ⟨nd, rfl⟩⟩
    refine ⟨_, rfl, ?_⟩
    refine hK.out _ _ ⟨(blk_cell BK353.out 0).trans rfl, (blk_cell BK353.out 1).trans rfl, (blk_cell BK409.out 0).trans rfl, (blk_cell BK409.out 1).trans rfl⟩ (fun hHeld => ?_)
    clear hK K
    refine norm_ (a' := ?_) ?_ ?_
    rotate_left
    ·show Act.put _ (some 163) _ = _
     simp only [Act.put, List.setIfInBounds_toArray, List.set_cons_zero, List.set_cons_succ, i64_w, i32_w]
     rfl
    refine pure_ (i := 8) (N := some 164) (v := ?_) (a' := ?_) #[true,true,true,true,true,true,true,true,true,false,false,false,false,false,false,false,false,false,false,false,false,false,false,false,false,false,false,false,false,false,false,false,false,false,false,false,false,false,false,false,false,false,false,false,false,false,false,false,false,false,false,false] rfl rfl (any_of HT_.out (by kernel_rfl)) (fun _ _ _ h => h) (Or.inl ⟨by rfl, ?_⟩) ?_ ?_
    rotate_left
    ·intro w'
     go_simp
     with_reducible rfl
    rotate_left
    ·simp only [Act.put, List.setIfInBounds_toArray, List.set_cons_zero, List.set_cons_succ, i64_w, i32_w]
     rfl
    refine pure_ (i := 9) (N := some 165) (v := ?_) (a' := ?_) #[true,true,true,true,true,true,true,true,true,true,false,false,false,false,false,false,false,false,false,false,false,false,false,false,false,false,false,false,false,false,false,false,false,false,false,false,false,false,false,false,false,false,false,false,false,false,false,false,false,false,false,false] rfl rfl (any_of HT_.out (by kernel_rfl)) (fun _ _ _ h => h) (Or.inl ⟨by rfl, ?_⟩) ?_ ?_
    rotate_left
    ·intro w'
     go_simp
     with_reducible rfl
    rotate_left
    ·simp only [Act.put, List.setIfInBounds_toArray, List.set_cons_zero, List.set_cons_succ, i64_w, i32_w]
     rfl
    refine pure_ (i := 10) (N := some 166) (v := ?_) (a' := ?_) #[true,true,true,true,true,true,true,true,true,true,true,false,false,false,false,false,false,false,false,false,false,false,false,false,false,false,false,false,false,false,false,false,false,false,false,false,false,false,false,false,false,false,false,false,false,false,false,false,false,false,false,false] rfl rfl (any_of HT_.out (by kernel_rfl)) (fun _ _ _ h => h) (Or.inl ⟨by rfl, ?_⟩) ?_ ?_
    rotate_left
    ·intro w'
     go_simp
     with_reducible rfl
    rotate_left
    ·simp only [Act.put, List.setIfInBounds_toArray, List.set_cons_zero, List.set_cons_succ, i64_w, i32_w]
     rfl
    refine take_ (i := 11) (N := some 167) (v := ?_) (a' := ?_) #[true,true,true,true,true,true,true,true,true,true,true,true,false,false,false,false,false,false,false,false,false,false,false,false,false,false,false,false,false,false,false,false,false,false,false,false,false,false,false,false,false,false,false,false,false,false,false,false,false,false,false,false] rfl rfl (take_ofW HT_.out HW_.out (by kernel_rfl)) (fun _ _ _ h => h) (Or.inl ⟨by rfl, ?_⟩) hHeld ?_ ?_
    rotate_left
    ·rintro w' ⟨s0, s1, s2, s3⟩
     go_simp
     with_reducible rfl
    rotate_left
    ·simp only [Act.put, List.setIfInBounds_toArray, List.set_cons_zero, List.set_cons_succ, i64_w, i32_w]
     rfl
    refine one_ (i := 12) (N := some 168) #[true,true,true,true,true,true,true,true,true,true,true,true,true,false,false,false,false,false,false,false,false,false,false,false,false,false,false,false,false,false,false,false,false,false,false,false,false,false,false,false,false,false,false,false,false,false,false,false,false,false,false,false] rfl rfl (one_of HT_.out (by kernel_rfl)) (by decide) (fun K hK => ?_)
    refine goes_ Tryz.func38 (by kernel_rfl) rfl #[.int .i64 0, .int .i64 3] (by rfl) rfl rfl (by (try simp only [List.map_toArray, List.map_cons, List.map_nil]); first | done | rfl | (simp only [List.length_drop, List.length_take]; rfl)) ?_
    with_reducible refine (L_span.calls 0 3 t465 t466 _ A98.out).mono ?_
    rintro e w128 ⟨rfl, hb⟩
    refine ⟨_, rfl, ?_⟩
    have n0_ := Aside0.mk (Kd.R_below (rup HO_1.out) hb)
    have n1_ := Aside0.mk (Kd.R_below (rup HO_3.out) hb)
    have n2_ := Aside0.mk (Kd.R_below (rup HO_9.out) hb)
    have n3_ := Aside0.mk (Kd.R_below (rup HO_13.out) hb)
    have n4_ := Aside0.mk (Kd.R_below (rup HO_15.out) hb)
    have n5_ := Aside0.mk (Kd.R_below (rup HO_19.out) hb)
    have n6_ := Aside0.mk (Kd.R_below (rup HO_24.out) hb)
    have n7_ := Aside0.mk (Kd.R_below (rup HO_26.out) hb)
    have n8_ := Aside0.mk (Kd.R_below (rup HO_457000.out) hb)
    have n9_ := Aside0.mk (Kd.R_below (rup HO459.out) hb)
    have n10_ := Aside0.mk (Kd.R_below (rup HO463.out) hb)
    have n11_ := Aside0.mk (blk_below (g := gb353) (o := .cells #[.int .i64 t350, .int .i64 t351] 24 (0, 0)) (bup BK353.out) hb)
    have n12_ := Aside0.mk (blk_below (g := gb409) (o := .cells #[.int .i64 t406, .int .i64 t407] 24 (0, 0)) (bup BK409.out) hb)
    have n13_ := Aside0.mk (blk_below (g := gb456) (o := .cells #[.slice Ao75 t449.length co75, .int .i64 t452, .int .i64 t453, .int .i64 t454] 26 (0, 0)) (bup BK456.out) hb)
    have n14_ := Aside0.mk (below_step (by repeat (first | (with_reducible first | exact HB.out | apply below_alloc | apply pw_below_drewN | apply below_drew1 | refine below_set ?_ GE353.out | refine below_set ?_ GE409.out | refine below_set ?_ GE456.out) | exact HB.out)) hb)
    clear HO_1
    clear HO_3
    clear HO_9
    clear HO_13
    clear HO_15
    clear HO_19
    clear HO_24
    clear HO_26
    clear HO_457000
    clear HO459
    clear HO463
    clear BK353
    clear BK409
    clear BK456
    clear HB
    have HO_1 := n0_
    have HO_3 := n1_
    have HO_9 := n2_
    have HO_13 := n3_
    have HO_15 := n4_
    have HO_19 := n5_
    have HO_24 := n6_
    have HO_26 := n7_
    have HO_457000 := n8_
    have HO459 := n9_
    have HO463 := n10_
    have BK353 := n11_
    have BK409 := n12_
    have BK456 := n13_
    have HB := n14_
    clear n0_ n1_ n2_ n3_ n4_ n5_ n6_ n7_ n8_ n9_ n10_ n11_ n12_ n13_ n14_
    (try clear hb)
    (try clear hb2)
    (try clear hk)
    (try clear hi)
    refine hK.out _ _ ⟨(blk_cell BK353.out 0).trans rfl, (blk_cell BK353.out 1).trans rfl, (blk_cell BK409.out 0).trans rfl, (blk_cell BK409.out 1).trans rfl⟩ (fun hHeld => ?_)
    clear hK K
    refine norm_ (a' := ?_) ?_ ?_
    rotate_left
    ·show Act.put _ (some 168) _ = _
     simp only [Act.put, List.setIfInBounds_toArray, List.set_cons_zero, List.set_cons_succ, i64_w, i32_w]
     rfl
    refine pure_ (i := 13) (N := some 169) (v := ?_) (a' := ?_) #[true,true,true,true,true,true,true,true,true,true,true,true,true,true,false,false,false,false,false,false,false,false,false,false,false,false,false,false,false,false,false,false,false,false,false,false,false,false,false,false,false,false,false,false,false,false,false,false,false,false,false,false] rfl rfl (any_of HT_.out (by kernel_rfl)) (fun _ _ _ h => h) (Or.inl ⟨by rfl, ?_⟩) ?_ ?_
    rotate_left
    ·intro w'
     go_simp
     with_reducible rfl
    rotate_left
    ·simp only [Act.put, List.setIfInBounds_toArray, List.set_cons_zero, List.set_cons_succ, i64_w, i32_w]
     rfl
    refine pure_ (i := 14) (N := some 170) (v := ?_) (a' := ?_) #[true,true,true,true,true,true,true,true,true,true,true,true,true,true,true,false,false,false,false,false,false,false,false,false,false,false,false,false,false,false,false,false,false,false,false,false,false,false,false,false,false,false,false,false,false,false,false,false,false,false,false,false] rfl rfl (any_of HT_.out (by kernel_rfl)) (fun _ _ _ h => h) (Or.inl ⟨by rfl, ?_⟩) ?_ ?_
    rotate_left
    ·intro w'
     go_simp
     with_reducible rfl
    rotate_left
    ·simp only [Act.put, List.setIfInBounds_toArray, List.set_cons_zero, List.set_cons_succ, i64_w, i32_w]
     rfl
    refine pure_ (i := 15) (N := some 171) (v := ?_) (a' := ?_) #[true,true,true,true,true,true,true,true,true,true,true,true,true,true,true,true,false,false,false,false,false,false,false,false,false,false,false,false,false,false,false,false,false,false,false,false,false,false,false,false,false,false,false,false,false,false,false,false,false,false,false,false] rfl rfl (any_of HT_.out (by kernel_rfl)) (fun _ _ _ h => h) (Or.inl ⟨by rfl, ?_⟩) ?_ ?_
    rotate_left
    ·intro w'
     go_simp
     with_reducible rfl
    rotate_left
    ·simp only [Act.put, List.setIfInBounds_toArray, List.set_cons_zero, List.set_cons_succ, i64_w, i32_w]
     rfl
    refine pure_ (i := 16) (N := some 172) (v := ?_) (a' := ?_) #[true,true,true,true,true,true,true,true,true,true,true,true,true,true,true,true,true,false,false,false,false,false,false,false,false,false,false,false,false,false,false,false,false,false,false,false,false,false,false,false,false,false,false,false,false,false,false,false,false,false,false,false] rfl rfl (any_of HT_.out (by kernel_rfl)) (fun _ _ _ h => h) (Or.inl ⟨by rfl, ?_⟩) ?_ ?_
    rotate_left
    ·intro w'
     go_simp
     with_reducible rfl
    rotate_left
    ·simp only [Act.put, List.setIfInBounds_toArray, List.set_cons_zero, List.set_cons_succ, i64_w, i32_w]
     rfl
    refine pure_ (i := 17) (N := some 173) (v := ?_) (a' := ?_) #[true,true,true,true,true,true,true,true,true,true,true,true,true,true,true,true,true,true,false,false,false,false,false,false,false,false,false,false,false,false,false,false,false,false,false,false,false,false,false,false,false,false,false,false,false,false,false,false,false,false,false,false] rfl rfl (any_of HT_.out (by kernel_rfl)) (fun _ _ _ h => h) (Or.inl ⟨by rfl, ?_⟩) ?_ ?_
    rotate_left
    ·intro w'
     go_simp
     with_reducible rfl
    rotate_left
    ·simp only [Act.put, List.setIfInBounds_toArray, List.set_cons_zero, List.set_cons_succ, i64_w, i32_w]
     rfl
    refine pure_ (i := 18) (N := some 174) (v := ?_) (a' := ?_) #[true,true,true,true,true,true,true,true,true,true,true,true,true,true,true,true,true,true,true,false,false,false,false,false,false,false,false,false,false,false,false,false,false,false,false,false,false,false,false,false,false,false,false,false,false,false,false,false,false,false,false,false] rfl rfl (any_of HT_.out (by kernel_rfl)) (fun _ _ _ h => h) (Or.inl ⟨by rfl, ?_⟩) ?_ ?_
    rotate_left
    ·intro w'
     go_simp
     with_reducible rfl
    rotate_left
    ·simp only [Act.put, List.setIfInBounds_toArray, List.set_cons_zero, List.set_cons_succ, i64_w, i32_w]
     rfl
    refine pure_ (i := 19) (N := some 175) (v := ?_) (a' := ?_) #[true,true,true,true,true,true,true,true,true,true,true,true,true,true,true,true,true,true,true,true,false,false,false,false,false,false,false,false,false,false,false,false,false,false,false,false,false,false,false,false,false,false,false,false,false,false,false,false,false,false,false,false] rfl rfl (any_of HT_.out (by kernel_rfl)) (fun _ _ _ h => h) (Or.inl ⟨by rfl, ?_⟩) ?_ ?_
    rotate_left
    ·intro w'
     go_simp
     with_reducible rfl
    rotate_left
    ·simp only [Act.put, List.setIfInBounds_toArray, List.set_cons_zero, List.set_cons_succ, i64_w, i32_w]
     rfl
    refine pure_ (i := 20) (N := some 176) (v := ?_) (a' := ?_) #[true,true,true,true,true,true,true,true,true,true,true,true,true,true,true,true,true,true,true,true,true,false,false,false,false,false,false,false,false,false,false,false,false,false,false,false,false,false,false,false,false,false,false,false,false,false,false,false,false,false,false,false] rfl rfl (any_of HT_.out (by kernel_rfl)) (fun _ _ _ h => h) (Or.inl ⟨by rfl, ?_⟩) ?_ ?_
    rotate_left
    ·intro w'
     go_simp
     with_reducible rfl
    rotate_left
    ·simp only [Act.put, List.setIfInBounds_toArray, List.set_cons_zero, List.set_cons_succ, i64_w, i32_w]
     rfl
    refine one_ (i := 21) (N := some 177) #[true,true,true,true,true,true,true,true,true,true,true,true,true,true,true,true,true,true,true,true,true,true,false,false,false,false,false,false,false,false,false,false,false,false,false,false,false,false,false,false,false,false,false,false,false,false,false,false,false,false,false,false] rfl rfl (one_of HT_.out (by kernel_rfl)) (by decide) (fun K hK => ?_)
    refine Kd.R_lit_step (Kd.int .i64) _ 3 ?hg (N := 177) ?hd (xs := ([0, 3] : List Int)) (inner := [.int .i64 0, .int .i64 3]) (ok := fun _ => True) (okp := fun _ => True) ?hr ?hp (fun _ hk => hk) trivial (Below.refl _ _) (Nat.le_refl _) (by simp) ?_; (case hd => rfl); (case hg => rfl); (case hr => first | (go_simp; done) | (go_simp; rfl)); (case hp => exact (Reps.one (show Kd.M (Kd.int .i64) _ _ _ 0 [.int .i64 0] from rfl) (Reps.one (show Kd.M (Kd.int .i64) _ _ _ 3 [.int .i64 3] from rfl) (Reps.none _ _))))
    intro v468 w129 ho130 hb hg_ hnew_
    clear hg_ hnew_
    (first | rw [← Ny467.out] at ho130 | (simp only [Int.reduceToNat] at ho130; rw [← Ny467.out] at ho130))
    have n0_ := Aside0.mk (Kd.R_elder' (rup HO_1.out) (Kd.R_base ho130) hb)
    have n1_ := Aside0.mk (Kd.R_elder' (rup HO_3.out) (Kd.R_base ho130) hb)
    have n2_ := Aside0.mk (Kd.R_elder' (rup HO_9.out) (Kd.R_base ho130) hb)
    have n3_ := Aside0.mk (Kd.R_below (rup HO_13.out) hb)
    have n4_ := Aside0.mk (Kd.R_elder' (rup HO_15.out) (Kd.R_base ho130) hb)
    have n5_ := Aside0.mk (Kd.R_below (rup HO_19.out) hb)
    have n6_ := Aside0.mk (Kd.R_elder' (rup HO_24.out) (Kd.R_base ho130) hb)
    have n7_ := Aside0.mk (Kd.R_below (rup HO_26.out) hb)
    have n8_ := Aside0.mk (Kd.R_elder' (rup HO_457000.out) (Kd.R_base ho130) hb)
    have n9_ := Aside0.mk (Kd.R_elder' (rup HO459.out) (Kd.R_base ho130) hb)
    have n10_ := Aside0.mk (Kd.R_elder' (rup HO463.out) (Kd.R_base ho130) hb)
    have n11_ := Aside0.mk (Kd.R_lower (Kd.R_new' (Kd.R_new' (Kd.R_new' (Kd.R_new' (Kd.R_new' (Kd.R_new' (Kd.R_new' (Kd.R_new' ho130 (Kd.R_lt (rup HO_1.out))) (Kd.R_lt (rup HO_3.out))) (Kd.R_lt (rup HO_9.out))) (Kd.R_lt (rup HO_15.out))) (Kd.R_lt (rup HO_24.out))) (Kd.R_lt (rup HO_457000.out))) (Kd.R_lt (rup HO459.out))) (Kd.R_lt (rup HO463.out))) (below_size (by repeat (first | (with_reducible first | exact HB.out | apply below_alloc | apply pw_below_drewN | apply below_drew1 | refine below_set ?_ GE353.out | refine below_set ?_ GE409.out | refine below_set ?_ GE456.out) | exact HB.out))))
    have n12_ := Aside0.mk (blk_below (g := gb353) (o := .cells #[.int .i64 t350, .int .i64 t351] 24 (0, 0)) (bup BK353.out) hb)
    have n13_ := Aside0.mk (blk_below (g := gb409) (o := .cells #[.int .i64 t406, .int .i64 t407] 24 (0, 0)) (bup BK409.out) hb)
    have n14_ := Aside0.mk (blk_below (g := gb456) (o := .cells #[.slice Ao75 t449.length co75, .int .i64 t452, .int .i64 t453, .int .i64 t454] 26 (0, 0)) (bup BK456.out) hb)
    have n15_ := Aside0.mk (below_step (by repeat (first | (with_reducible first | exact HB.out | apply below_alloc | apply pw_below_drewN | apply below_drew1 | refine below_set ?_ GE353.out | refine below_set ?_ GE409.out | refine below_set ?_ GE456.out) | exact HB.out)) hb)
    clear HO_1
    clear HO_3
    clear HO_9
    clear HO_13
    clear HO_15
    clear HO_19
    clear HO_24
    clear HO_26
    clear HO_457000
    clear HO459
    clear HO463
    clear BK353
    clear BK409
    clear BK456
    clear HB
    have HO_1 := n0_
    have HO_3 := n1_
    have HO_9 := n2_
    have HO_13 := n3_
    have HO_15 := n4_
    have HO_19 := n5_
    have HO_24 := n6_
    have HO_26 := n7_
    have HO_457000 := n8_
    have HO459 := n9_
    have HO463 := n10_
    have HO469 := n11_
    have BK353 := n12_
    have BK409 := n13_
    have BK456 := n14_
    have HB := n15_
    clear n0_ n1_ n2_ n3_ n4_ n5_ n6_ n7_ n8_ n9_ n10_ n11_ n12_ n13_ n14_ n15_
    clear hb ho130
    obtain ⟨Ao131, co131, eo131⟩ := Kd.R_slice HO_9.out
    (first | subst eo131 | (injection eo131 with f1_ f2_ f3_; have f4_ := f1_.symm; have f5_ := f3_.symm; clear f1_ f2_ f3_; subst f4_; subst f5_))
    obtain ⟨Ao132, co132, eo132⟩ := Kd.R_slice HO469.out
    (first | subst eo132 | (injection eo132 with f1_ f2_ f3_; have f4_ := f1_.symm; have f5_ := f3_.symm; clear f1_ f2_ f3_; subst f4_; subst f5_))
    refine hK.out _ _ ⟨(blk_cell BK353.out 0).trans rfl, (blk_cell BK353.out 1).trans rfl, (blk_cell BK409.out 0).trans rfl, (blk_cell BK409.out 1).trans rfl⟩ (fun hHeld => ?_)
    clear hK K
    refine norm_ (a' := ?_) ?_ ?_
    rotate_left
    ·show Act.put _ (some 177) _ = _
     simp only [Act.put, List.setIfInBounds_toArray, List.set_cons_zero, List.set_cons_succ, i64_w, i32_w]
     rfl
    refine one_ (i := 22) (N := some 178) #[true,true,true,true,true,true,true,true,true,true,true,true,true,true,true,true,true,true,true,true,true,true,true,false,false,false,false,false,false,false,false,false,false,false,false,false,false,false,false,false,false,false,false,false,false,false,false,false,false,false,false,false] rfl rfl (one_of HT_.out (by kernel_rfl)) (by decide) (fun K hK => ?_)
    refine goes_ Tryz.func19 (by kernel_rfl) rfl #[.slice Ao131 t368.length co131, .slice Ao132 y467.length co132] (by rfl) rfl rfl (by (try simp only [List.map_toArray, List.map_cons, List.map_nil]); first | done | rfl | (simp only [List.length_drop, List.length_take]; rfl)) ?_
    with_reducible refine (T_Same.calls kj27 _ _ t368 _ _ y467 true _ ?side1 ?side2 ?side3 ?side4 A111.out).mono ?_
    (case side1 => repeat (first | exact (Kd.R_reads' HO_9.out).2.2 | (with_reducible refine Kd.C_alloc ?_ _) | (with_reducible refine Kd.C_drewN ?_ _) | (with_reducible refine Kd.C_drew ?_)))
    (case side2 => exact (Kd.R_reads' HO_9.out).2.1)
    (case side3 => repeat (first | exact (Kd.R_reads' HO469.out).2.2 | (with_reducible refine Kd.C_alloc ?_ _) | (with_reducible refine Kd.C_drewN ?_ _) | (with_reducible refine Kd.C_drew ?_)))
    (case side4 => exact (Kd.R_reads' HO469.out).2.1)
    rintro e w' ⟨rfl, ⟨nd, rfl⟩⟩
    refine ⟨_, rfl, ?_⟩
    refine hK.out _ _ ⟨(blk_cell BK353.out 0).trans rfl, (blk_cell BK353.out 1).trans rfl, (blk_cell BK409.out 0).trans rfl, (blk_cell BK409.out 1).trans rfl⟩ (fun hHeld => ?_)
    clear hK K
    refine norm_ (a' := ?_) ?_ ?_
    rotate_left
    ·show Act.put _ (some 178) _ = _
     simp only [Act.put, List.setIfInBounds_toArray, List.set_cons_zero, List.set_cons_succ, i64_w, i32_w]
     rfl
    refine pure_ (i := 23) (N := some 179) (v := ?_) (a' := ?_) #[true,true,true,true,true,true,true,true,true,true,true,true,true,true,true,true,true,true,true,true,true,true,true,true,false,false,false,false,false,false,false,false,false,false,false,false,false,false,false,false,false,false,false,false,false,false,false,false,false,false,false,false] rfl rfl (any_of HT_.out (by kernel_rfl)) (fun _ _ _ h => h) (Or.inl ⟨by rfl, ?_⟩) ?_ ?_
    rotate_left
    ·intro w'
     go_simp
     with_reducible rfl
    rotate_left
    ·simp only [Act.put, List.setIfInBounds_toArray, List.set_cons_zero, List.set_cons_succ, i64_w, i32_w]
     rfl
    refine pure_ (i := 24) (N := some 180) (v := ?_) (a' := ?_) #[true,true,true,true,true,true,true,true,true,true,true,true,true,true,true,true,true,true,true,true,true,true,true,true,true,false,false,false,false,false,false,false,false,false,false,false,false,false,false,false,false,false,false,false,false,false,false,false,false,false,false,false] rfl rfl (any_of HT_.out (by kernel_rfl)) (fun _ _ _ h => h) (Or.inl ⟨by rfl, ?_⟩) ?_ ?_
    rotate_left
    ·intro w'
     go_simp
     with_reducible rfl
    rotate_left
    ·simp only [Act.put, List.setIfInBounds_toArray, List.set_cons_zero, List.set_cons_succ, i64_w, i32_w]
     rfl
    refine pure_ (i := 25) (N := some 181) (v := ?_) (a' := ?_) #[true,true,true,true,true,true,true,true,true,true,true,true,true,true,true,true,true,true,true,true,true,true,true,true,true,true,false,false,false,false,false,false,false,false,false,false,false,false,false,false,false,false,false,false,false,false,false,false,false,false,false,false] rfl rfl (any_of HT_.out (by kernel_rfl)) (fun _ _ _ h => h) (Or.inl ⟨by rfl, ?_⟩) ?_ ?_
    rotate_left
    ·intro w'
     go_simp
     with_reducible rfl
    rotate_left
    ·simp only [Act.put, List.setIfInBounds_toArray, List.set_cons_zero, List.set_cons_succ, i64_w, i32_w]
     rfl
    refine pure_ (i := 26) (N := some 182) (v := ?_) (a' := ?_) #[true,true,true,true,true,true,true,true,true,true,true,true,true,true,true,true,true,true,true,true,true,true,true,true,true,true,true,false,false,false,false,false,false,false,false,false,false,false,false,false,false,false,false,false,false,false,false,false,false,false,false,false] rfl rfl (any_of HT_.out (by kernel_rfl)) (fun _ _ _ h => h) (Or.inl ⟨by rfl, ?_⟩) ?_ ?_
    rotate_left
    ·intro w'
     go_simp
     with_reducible rfl
    rotate_left
    ·simp only [Act.put, List.setIfInBounds_toArray, List.set_cons_zero, List.set_cons_succ, i64_w, i32_w]
     rfl
    refine pure_ (i := 27) (N := some 183) (v := ?_) (a' := ?_) #[true,true,true,true,true,true,true,true,true,true,true,true,true,true,true,true,true,true,true,true,true,true,true,true,true,true,true,true,false,false,false,false,false,false,false,false,false,false,false,false,false,false,false,false,false,false,false,false,false,false,false,false] rfl rfl (any_of HT_.out (by kernel_rfl)) (fun _ _ _ h => h) (Or.inl ⟨by rfl, ?_⟩) ?_ ?_
    rotate_left
    ·intro w'
     go_simp
     with_reducible rfl
    rotate_left
    ·simp only [Act.put, List.setIfInBounds_toArray, List.set_cons_zero, List.set_cons_succ, i64_w, i32_w]
     rfl
    refine pure_ (i := 28) (N := some 184) (v := ?_) (a' := ?_) #[true,true,true,true,true,true,true,true,true,true,true,true,true,true,true,true,true,true,true,true,true,true,true,true,true,true,true,true,true,false,false,false,false,false,false,false,false,false,false,false,false,false,false,false,false,false,false,false,false,false,false,false] rfl rfl (any_of HT_.out (by kernel_rfl)) (fun _ _ _ h => h) (Or.inl ⟨by rfl, ?_⟩) ?_ ?_
    rotate_left
    ·intro w'
     go_simp
     with_reducible rfl
    rotate_left
    ·simp only [Act.put, List.setIfInBounds_toArray, List.set_cons_zero, List.set_cons_succ, i64_w, i32_w]
     rfl
    refine pure_ (i := 29) (N := some 185) (v := ?_) (a' := ?_) #[true,true,true,true,true,true,true,true,true,true,true,true,true,true,true,true,true,true,true,true,true,true,true,true,true,true,true,true,true,true,false,false,false,false,false,false,false,false,false,false,false,false,false,false,false,false,false,false,false,false,false,false] rfl rfl (any_of HT_.out (by kernel_rfl)) (fun _ _ _ h => h) (Or.inl ⟨by rfl, ?_⟩) ?_ ?_
    rotate_left
    ·intro w'
     go_simp
     with_reducible rfl
    rotate_left
    ·simp only [Act.put, List.setIfInBounds_toArray, List.set_cons_zero, List.set_cons_succ, i64_w, i32_w]
     rfl
    refine pure_ (i := 30) (N := some 186) (v := ?_) (a' := ?_) #[true,true,true,true,true,true,true,true,true,true,true,true,true,true,true,true,true,true,true,true,true,true,true,true,true,true,true,true,true,true,true,false,false,false,false,false,false,false,false,false,false,false,false,false,false,false,false,false,false,false,false,false] rfl rfl (any_of HT_.out (by kernel_rfl)) (fun _ _ _ h => h) (Or.inl ⟨by rfl, ?_⟩) ?_ ?_
    rotate_left
    ·intro w'
     go_simp
     with_reducible rfl
    rotate_left
    ·simp only [Act.put, List.setIfInBounds_toArray, List.set_cons_zero, List.set_cons_succ, i64_w, i32_w]
     rfl
    refine pure_ (i := 31) (N := some 187) (v := ?_) (a' := ?_) #[true,true,true,true,true,true,true,true,true,true,true,true,true,true,true,true,true,true,true,true,true,true,true,true,true,true,true,true,true,true,true,true,false,false,false,false,false,false,false,false,false,false,false,false,false,false,false,false,false,false,false,false] rfl rfl (any_of HT_.out (by kernel_rfl)) (fun _ _ _ h => h) (Or.inl ⟨by rfl, ?_⟩) ?_ ?_
    rotate_left
    ·intro w'
     go_simp
     with_reducible rfl
    rotate_left
    ·simp only [Act.put, List.setIfInBounds_toArray, List.set_cons_zero, List.set_cons_succ, i64_w, i32_w]
     rfl
    refine pure_ (i := 32) (N := some 188) (v := ?_) (a' := ?_) #[true,true,true,true,true,true,true,true,true,true,true,true,true,true,true,true,true,true,true,true,true,true,true,true,true,true,true,true,true,true,true,true,true,false,false,false,false,false,false,false,false,false,false,false,false,false,false,false,false,false,false,false] rfl rfl (any_of HT_.out (by kernel_rfl)) (fun _ _ _ h => h) (Or.inl ⟨by rfl, ?_⟩) ?_ ?_
    rotate_left
    ·intro w'
     go_simp
     with_reducible rfl
    rotate_left
    ·simp only [Act.put, List.setIfInBounds_toArray, List.set_cons_zero, List.set_cons_succ, i64_w, i32_w]
     rfl
    refine pure_ (i := 33) (N := some 189) (v := ?_) (a' := ?_) #[true,true,true,true,true,true,true,true,true,true,true,true,true,true,true,true,true,true,true,true,true,true,true,true,true,true,true,true,true,true,true,true,true,true,false,false,false,false,false,false,false,false,false,false,false,false,false,false,false,false,false,false] rfl rfl (any_of HT_.out (by kernel_rfl)) (fun _ _ _ h => h) (Or.inl ⟨by rfl, ?_⟩) ?_ ?_
    rotate_left
    ·intro w'
     go_simp
     with_reducible rfl
    rotate_left
    ·simp only [Act.put, List.setIfInBounds_toArray, List.set_cons_zero, List.set_cons_succ, i64_w, i32_w]
     rfl
    refine pure_ (i := 34) (N := some 190) (v := ?_) (a' := ?_) #[true,true,true,true,true,true,true,true,true,true,true,true,true,true,true,true,true,true,true,true,true,true,true,true,true,true,true,true,true,true,true,true,true,true,true,false,false,false,false,false,false,false,false,false,false,false,false,false,false,false,false,false] rfl rfl (any_of HT_.out (by kernel_rfl)) (fun _ _ _ h => h) (Or.inl ⟨by rfl, ?_⟩) ?_ ?_
    rotate_left
    ·intro w'
     go_simp
     with_reducible rfl
    rotate_left
    ·simp only [Act.put, List.setIfInBounds_toArray, List.set_cons_zero, List.set_cons_succ, i64_w, i32_w]
     rfl
    refine pure_ (i := 35) (N := some 191) (v := ?_) (a' := ?_) #[true,true,true,true,true,true,true,true,true,true,true,true,true,true,true,true,true,true,true,true,true,true,true,true,true,true,true,true,true,true,true,true,true,true,true,true,false,false,false,false,false,false,false,false,false,false,false,false,false,false,false,false] rfl rfl (any_of HT_.out (by kernel_rfl)) (fun _ _ _ h => h) (Or.inl ⟨by rfl, ?_⟩) ?_ ?_
    rotate_left
    ·intro w'
     go_simp
     with_reducible rfl
    rotate_left
    ·simp only [Act.put, List.setIfInBounds_toArray, List.set_cons_zero, List.set_cons_succ, i64_w, i32_w]
     rfl
    refine pure_ (i := 36) (N := some 192) (v := ?_) (a' := ?_) #[true,true,true,true,true,true,true,true,true,true,true,true,true,true,true,true,true,true,true,true,true,true,true,true,true,true,true,true,true,true,true,true,true,true,true,true,true,false,false,false,false,false,false,false,false,false,false,false,false,false,false,false] rfl rfl (any_of HT_.out (by kernel_rfl)) (fun _ _ _ h => h) (Or.inl ⟨by rfl, ?_⟩) ?_ ?_
    rotate_left
    ·intro w'
     go_simp
     with_reducible rfl
    rotate_left
    ·simp only [Act.put, List.setIfInBounds_toArray, List.set_cons_zero, List.set_cons_succ, i64_w, i32_w]
     rfl
    refine one_ (i := 37) (N := some 193) #[true,true,true,true,true,true,true,true,true,true,true,true,true,true,true,true,true,true,true,true,true,true,true,true,true,true,true,true,true,true,true,true,true,true,true,true,true,true,false,false,false,false,false,false,false,false,false,false,false,false,false,false] rfl rfl (one_of HT_.out (by kernel_rfl)) (by decide) (fun K hK => ?_)
    refine Kd.R_lit_step (Kd.int .i64) _ 53 ?hg (N := 193) ?hd (xs := ([1, 1, 2, 2, 1, 1] : List Int)) (inner := [.int .i64 1, .int .i64 1, .int .i64 2, .int .i64 2, .int .i64 1, .int .i64 1]) (ok := fun _ => True) (okp := fun _ => True) ?hr ?hp (fun _ hk => hk) trivial (Below.refl _ _) (Nat.le_refl _) (by simp) ?_; (case hd => rfl); (case hg => rfl); (case hr => first | (go_simp; done) | (go_simp; rfl)); (case hp => exact (Reps.one (show Kd.M (Kd.int .i64) _ _ _ 1 [.int .i64 1] from rfl) (Reps.one (show Kd.M (Kd.int .i64) _ _ _ 1 [.int .i64 1] from rfl) (Reps.one (show Kd.M (Kd.int .i64) _ _ _ 2 [.int .i64 2] from rfl) (Reps.one (show Kd.M (Kd.int .i64) _ _ _ 2 [.int .i64 2] from rfl) (Reps.one (show Kd.M (Kd.int .i64) _ _ _ 1 [.int .i64 1] from rfl) (Reps.one (show Kd.M (Kd.int .i64) _ _ _ 1 [.int .i64 1] from rfl) (Reps.none _ _))))))))
    intro v472 w133 ho134 hb hg_ hnew_
    clear hg_ hnew_
    (first | rw [← Ny471.out] at ho134 | (simp only [Int.reduceToNat] at ho134; rw [← Ny471.out] at ho134))
    have n0_ := Aside0.mk (Kd.R_below (rup HO_1.out) hb)
    have n1_ := Aside0.mk (Kd.R_below (rup HO_3.out) hb)
    have n2_ := Aside0.mk (Kd.R_below (rup HO_9.out) hb)
    have n3_ := Aside0.mk (Kd.R_elder' (rup HO_13.out) (Kd.R_base ho134) hb)
    have n4_ := Aside0.mk (Kd.R_below (rup HO_15.out) hb)
    have n5_ := Aside0.mk (Kd.R_below (rup HO_19.out) hb)
    have n6_ := Aside0.mk (Kd.R_below (rup HO_24.out) hb)
    have n7_ := Aside0.mk (Kd.R_below (rup HO_26.out) hb)
    have n8_ := Aside0.mk (Kd.R_below (rup HO_457000.out) hb)
    have n9_ := Aside0.mk (Kd.R_below (rup HO459.out) hb)
    have n10_ := Aside0.mk (Kd.R_below (rup HO463.out) hb)
    have n11_ := Aside0.mk (Kd.R_below (rup HO469.out) hb)
    have n12_ := Aside0.mk (Kd.R_lower (Kd.R_new' ho134 (Kd.R_lt (rup HO_13.out))) (below_size (by repeat (first | (with_reducible first | exact HB.out | apply below_alloc | apply pw_below_drewN | apply below_drew1 | refine below_set ?_ GE353.out | refine below_set ?_ GE409.out | refine below_set ?_ GE456.out) | exact HB.out))))
    have n13_ := Aside0.mk (blk_below (g := gb353) (o := .cells #[.int .i64 t350, .int .i64 t351] 24 (0, 0)) (bup BK353.out) hb)
    have n14_ := Aside0.mk (blk_below (g := gb409) (o := .cells #[.int .i64 t406, .int .i64 t407] 24 (0, 0)) (bup BK409.out) hb)
    have n15_ := Aside0.mk (blk_below (g := gb456) (o := .cells #[.slice Ao75 t449.length co75, .int .i64 t452, .int .i64 t453, .int .i64 t454] 26 (0, 0)) (bup BK456.out) hb)
    have n16_ := Aside0.mk (below_step (by repeat (first | (with_reducible first | exact HB.out | apply below_alloc | apply pw_below_drewN | apply below_drew1 | refine below_set ?_ GE353.out | refine below_set ?_ GE409.out | refine below_set ?_ GE456.out) | exact HB.out)) hb)
    clear HO_1
    clear HO_3
    clear HO_9
    clear HO_13
    clear HO_15
    clear HO_19
    clear HO_24
    clear HO_26
    clear HO_457000
    clear HO459
    clear HO463
    clear HO469
    clear BK353
    clear BK409
    clear BK456
    clear HB
    have HO_1 := n0_
    have HO_3 := n1_
    have HO_9 := n2_
    have HO_13 := n3_
    have HO_15 := n4_
    have HO_19 := n5_
    have HO_24 := n6_
    have HO_26 := n7_
    have HO_457000 := n8_
    have HO459 := n9_
    have HO463 := n10_
    have HO469 := n11_
    have HO473 := n12_
    have BK353 := n13_
    have BK409 := n14_
    have BK456 := n15_
    have HB := n16_
    clear n0_ n1_ n2_ n3_ n4_ n5_ n6_ n7_ n8_ n9_ n10_ n11_ n12_ n13_ n14_ n15_ n16_
    clear hb ho134
    obtain ⟨Ao135, co135, eo135⟩ := Kd.R_slice HO_13.out
    (first | subst eo135 | (injection eo135 with f1_ f2_ f3_; have f4_ := f1_.symm; have f5_ := f3_.symm; clear f1_ f2_ f3_; subst f4_; subst f5_))
    obtain ⟨Ao136, co136, eo136⟩ := Kd.R_slice HO473.out
    (first | subst eo136 | (injection eo136 with f1_ f2_ f3_; have f4_ := f1_.symm; have f5_ := f3_.symm; clear f1_ f2_ f3_; subst f4_; subst f5_))
    refine hK.out _ _ ⟨(blk_cell BK353.out 0).trans rfl, (blk_cell BK353.out 1).trans rfl, (blk_cell BK409.out 0).trans rfl, (blk_cell BK409.out 1).trans rfl⟩ (fun hHeld => ?_)
    clear hK K
    refine norm_ (a' := ?_) ?_ ?_
    rotate_left
    ·show Act.put _ (some 193) _ = _
     simp only [Act.put, List.setIfInBounds_toArray, List.set_cons_zero, List.set_cons_succ, i64_w, i32_w]
     rfl
    refine one_ (i := 38) (N := some 194) #[true,true,true,true,true,true,true,true,true,true,true,true,true,true,true,true,true,true,true,true,true,true,true,true,true,true,true,true,true,true,true,true,true,true,true,true,true,true,true,false,false,false,false,false,false,false,false,false,false,false,false,false] rfl rfl (one_of HT_.out (by kernel_rfl)) (by decide) (fun K hK => ?_)
    refine goes_ Tryz.func61 (by kernel_rfl) rfl #[.slice Ao135 t386.length co135, .slice Ao136 y471.length co136] (by rfl) rfl rfl (by (try simp only [List.map_toArray, List.map_cons, List.map_nil]); first | done | rfl | (simp only [List.length_drop, List.length_take]; rfl)) ?_
    with_reducible refine (R_SameWords.calls kj27 _ _ t386 _ _ y471 true _ ?side1 ?side2 ?side3 ?side4 A114.out).mono ?_
    (case side1 => repeat (first | exact (Kd.R_reads' HO_13.out).2.2 | (with_reducible refine Kd.C_alloc ?_ _) | (with_reducible refine Kd.C_drewN ?_ _) | (with_reducible refine Kd.C_drew ?_)))
    (case side2 => exact (Kd.R_reads' HO_13.out).2.1)
    (case side3 => repeat (first | exact (Kd.R_reads' HO473.out).2.2 | (with_reducible refine Kd.C_alloc ?_ _) | (with_reducible refine Kd.C_drewN ?_ _) | (with_reducible refine Kd.C_drew ?_)))
    (case side4 => exact (Kd.R_reads' HO473.out).2.1)
    rintro e w' ⟨rfl, ⟨nd, rfl⟩⟩
    refine ⟨_, rfl, ?_⟩
    refine hK.out _ _ ⟨(blk_cell BK353.out 0).trans rfl, (blk_cell BK353.out 1).trans rfl, (blk_cell BK409.out 0).trans rfl, (blk_cell BK409.out 1).trans rfl⟩ (fun hHeld => ?_)
    clear hK K
    refine norm_ (a' := ?_) ?_ ?_
    rotate_left
    ·show Act.put _ (some 194) _ = _
     simp only [Act.put, List.setIfInBounds_toArray, List.set_cons_zero, List.set_cons_succ, i64_w, i32_w]
     rfl
    refine pure_ (i := 39) (N := some 195) (v := ?_) (a' := ?_) #[true,true,true,true,true,true,true,true,true,true,true,true,true,true,true,true,true,true,true,true,true,true,true,true,true,true,true,true,true,true,true,true,true,true,true,true,true,true,true,true,false,false,false,false,false,false,false,false,false,false,false,false] rfl rfl (any_of HT_.out (by kernel_rfl)) (fun _ _ _ h => h) (Or.inl ⟨by rfl, ?_⟩) ?_ ?_
    rotate_left
    ·intro w'
     go_simp
     with_reducible rfl
    rotate_left
    ·simp only [Act.put, List.setIfInBounds_toArray, List.set_cons_zero, List.set_cons_succ, i64_w, i32_w]
     rfl
    refine pure_ (i := 40) (N := some 196) (v := ?_) (a' := ?_) #[true,true,true,true,true,true,true,true,true,true,true,true,true,true,true,true,true,true,true,true,true,true,true,true,true,true,true,true,true,true,true,true,true,true,true,true,true,true,true,true,true,false,false,false,false,false,false,false,false,false,false,false] rfl rfl (any_of HT_.out (by kernel_rfl)) (fun _ _ _ h => h) (Or.inl ⟨by rfl, ?_⟩) ?_ ?_
    rotate_left
    ·intro w'
     go_simp
     with_reducible rfl
    rotate_left
    ·simp only [Act.put, List.setIfInBounds_toArray, List.set_cons_zero, List.set_cons_succ, i64_w, i32_w]
     rfl
    refine pure_ (i := 41) (N := some 197) (v := ?_) (a' := ?_) #[true,true,true,true,true,true,true,true,true,true,true,true,true,true,true,true,true,true,true,true,true,true,true,true,true,true,true,true,true,true,true,true,true,true,true,true,true,true,true,true,true,true,false,false,false,false,false,false,false,false,false,false] rfl rfl (any_of HT_.out (by kernel_rfl)) (fun _ _ _ h => h) (Or.inl ⟨by rfl, ?_⟩) ?_ ?_
    rotate_left
    ·intro w'
     go_simp
     with_reducible rfl
    rotate_left
    ·simp only [Act.put, List.setIfInBounds_toArray, List.set_cons_zero, List.set_cons_succ, i64_w, i32_w]
     rfl
    refine pure_ (i := 42) (N := some 198) (v := ?_) (a' := ?_) #[true,true,true,true,true,true,true,true,true,true,true,true,true,true,true,true,true,true,true,true,true,true,true,true,true,true,true,true,true,true,true,true,true,true,true,true,true,true,true,true,true,true,true,false,false,false,false,false,false,false,false,false] rfl rfl (any_of HT_.out (by kernel_rfl)) (fun _ _ _ h => h) (Or.inl ⟨by rfl, ?_⟩) ?_ ?_
    rotate_left
    ·intro w'
     go_simp
     with_reducible rfl
    rotate_left
    ·simp only [Act.put, List.setIfInBounds_toArray, List.set_cons_zero, List.set_cons_succ, i64_w, i32_w]
     rfl
    refine one_ (i := 43) (N := some 199) #[true,true,true,true,true,true,true,true,true,true,true,true,true,true,true,true,true,true,true,true,true,true,true,true,true,true,true,true,true,true,true,true,true,true,true,true,true,true,true,true,true,true,true,true,false,false,false,false,false,false,false,false] rfl rfl (one_of HT_.out (by kernel_rfl)) (by decide) (fun K hK => ?_)
    refine Kd.R_lit_step (Kd.int .i64) _ 3 ?hg (N := 199) ?hd (xs := ([0, 3] : List Int)) (inner := [.int .i64 0, .int .i64 3]) (ok := fun _ => True) (okp := fun _ => True) ?hr ?hp (fun _ hk => hk) trivial (Below.refl _ _) (Nat.le_refl _) (by simp) ?_; (case hd => rfl); (case hg => rfl); (case hr => first | (go_simp; done) | (go_simp; rfl)); (case hp => exact (Reps.one (show Kd.M (Kd.int .i64) _ _ _ 0 [.int .i64 0] from rfl) (Reps.one (show Kd.M (Kd.int .i64) _ _ _ 3 [.int .i64 3] from rfl) (Reps.none _ _))))
    intro v476 w137 ho138 hb hg_ hnew_
    clear hg_ hnew_
    (first | rw [← Ny475.out] at ho138 | (simp only [Int.reduceToNat] at ho138; rw [← Ny475.out] at ho138))
    have n0_ := Aside0.mk (Kd.R_elder' (rup HO_1.out) (Kd.R_base ho138) hb)
    have n1_ := Aside0.mk (Kd.R_elder' (rup HO_3.out) (Kd.R_base ho138) hb)
    have n2_ := Aside0.mk (Kd.R_elder' (rup HO_9.out) (Kd.R_base ho138) hb)
    have n3_ := Aside0.mk (Kd.R_below (rup HO_13.out) hb)
    have n4_ := Aside0.mk (Kd.R_elder' (rup HO_15.out) (Kd.R_base ho138) hb)
    have n5_ := Aside0.mk (Kd.R_below (rup HO_19.out) hb)
    have n6_ := Aside0.mk (Kd.R_elder' (rup HO_24.out) (Kd.R_base ho138) hb)
    have n7_ := Aside0.mk (Kd.R_below (rup HO_26.out) hb)
    have n8_ := Aside0.mk (Kd.R_elder' (rup HO_457000.out) (Kd.R_base ho138) hb)
    have n9_ := Aside0.mk (Kd.R_elder' (rup HO459.out) (Kd.R_base ho138) hb)
    have n10_ := Aside0.mk (Kd.R_elder' (rup HO463.out) (Kd.R_base ho138) hb)
    have n11_ := Aside0.mk (Kd.R_elder' (rup HO469.out) (Kd.R_base ho138) hb)
    have n12_ := Aside0.mk (Kd.R_below (rup HO473.out) hb)
    have n13_ := Aside0.mk (Kd.R_lower (Kd.R_new' (Kd.R_new' (Kd.R_new' (Kd.R_new' (Kd.R_new' (Kd.R_new' (Kd.R_new' (Kd.R_new' (Kd.R_new' ho138 (Kd.R_lt (rup HO_1.out))) (Kd.R_lt (rup HO_3.out))) (Kd.R_lt (rup HO_9.out))) (Kd.R_lt (rup HO_15.out))) (Kd.R_lt (rup HO_24.out))) (Kd.R_lt (rup HO_457000.out))) (Kd.R_lt (rup HO459.out))) (Kd.R_lt (rup HO463.out))) (Kd.R_lt (rup HO469.out))) (below_size (by repeat (first | (with_reducible first | exact HB.out | apply below_alloc | apply pw_below_drewN | apply below_drew1 | refine below_set ?_ GE353.out | refine below_set ?_ GE409.out | refine below_set ?_ GE456.out) | exact HB.out))))
    have n14_ := Aside0.mk (blk_below (g := gb353) (o := .cells #[.int .i64 t350, .int .i64 t351] 24 (0, 0)) (bup BK353.out) hb)
    have n15_ := Aside0.mk (blk_below (g := gb409) (o := .cells #[.int .i64 t406, .int .i64 t407] 24 (0, 0)) (bup BK409.out) hb)
    have n16_ := Aside0.mk (blk_below (g := gb456) (o := .cells #[.slice Ao75 t449.length co75, .int .i64 t452, .int .i64 t453, .int .i64 t454] 26 (0, 0)) (bup BK456.out) hb)
    have n17_ := Aside0.mk (below_step (by repeat (first | (with_reducible first | exact HB.out | apply below_alloc | apply pw_below_drewN | apply below_drew1 | refine below_set ?_ GE353.out | refine below_set ?_ GE409.out | refine below_set ?_ GE456.out) | exact HB.out)) hb)
    clear HO_1
    clear HO_3
    clear HO_9
    clear HO_13
    clear HO_15
    clear HO_19
    clear HO_24
    clear HO_26
    clear HO_457000
    clear HO459
    clear HO463
    clear HO469
    clear HO473
    clear BK353
    clear BK409
    clear BK456
    clear HB
    have HO_1 := n0_
    have HO_3 := n1_
    have HO_9 := n2_
    have HO_13 := n3_
    have HO_15 := n4_
    have HO_19 := n5_
    have HO_24 := n6_
    have HO_26 := n7_
    have HO_457000 := n8_
    have HO459 := n9_
    have HO463 := n10_
    have HO469 := n11_
    have HO473 := n12_
    have HO477 := n13_
    have BK353 := n14_
    have BK409 := n15_
    have BK456 := n16_
    have HB := n17_
    clear n0_ n1_ n2_ n3_ n4_ n5_ n6_ n7_ n8_ n9_ n10_ n11_ n12_ n13_ n14_ n15_ n16_ n17_
    clear hb ho138
    obtain ⟨Ao139, co139, eo139⟩ := Kd.R_slice HO_15.out
    (first | subst eo139 | (injection eo139 with f1_ f2_ f3_; have f4_ := f1_.symm; have f5_ := f3_.symm; clear f1_ f2_ f3_; subst f4_; subst f5_))
    obtain ⟨Ao140, co140, eo140⟩ := Kd.R_slice HO477.out
    (first | subst eo140 | (injection eo140 with f1_ f2_ f3_; have f4_ := f1_.symm; have f5_ := f3_.symm; clear f1_ f2_ f3_; subst f4_; subst f5_))
    refine hK.out _ _ ⟨(blk_cell BK353.out 0).trans rfl, (blk_cell BK353.out 1).trans rfl, (blk_cell BK409.out 0).trans rfl, (blk_cell BK409.out 1).trans rfl⟩ (fun hHeld => ?_)
    clear hK K
    refine norm_ (a' := ?_) ?_ ?_
    rotate_left
    ·show Act.put _ (some 199) _ = _
     simp only [Act.put, List.setIfInBounds_toArray, List.set_cons_zero, List.set_cons_succ, i64_w, i32_w]
     rfl
    refine one_ (i := 44) (N := some 200) #[true,true,true,true,true,true,true,true,true,true,true,true,true,true,true,true,true,true,true,true,true,true,true,true,true,true,true,true,true,true,true,true,true,true,true,true,true,true,true,true,true,true,true,true,true,false,false,false,false,false,false,false] rfl rfl (one_of HT_.out (by kernel_rfl)) (by decide) (fun K hK => ?_)
    refine goes_ Tryz.func19 (by kernel_rfl) rfl #[.slice Ao139 t396.length co139, .slice Ao140 y475.length co140] (by rfl) rfl rfl (by (try simp only [List.map_toArray, List.map_cons, List.map_nil]); first | done | rfl | (simp only [List.length_drop, List.length_take]; rfl)) ?_
    with_reducible refine (T_Same.calls kj27 _ _ t396 _ _ y475 true _ ?side1 ?side2 ?side3 ?side4 A116.out).mono ?_
    (case side1 => repeat (first | exact (Kd.R_reads' HO_15.out).2.2 | (with_reducible refine Kd.C_alloc ?_ _) | (with_reducible refine Kd.C_drewN ?_ _) | (with_reducible refine Kd.C_drew ?_)))
    (case side2 => exact (Kd.R_reads' HO_15.out).2.1)
    (case side3 => repeat (first | exact (Kd.R_reads' HO477.out).2.2 | (with_reducible refine Kd.C_alloc ?_ _) | (with_reducible refine Kd.C_drewN ?_ _) | (with_reducible refine Kd.C_drew ?_)))
    (case side4 => exact (Kd.R_reads' HO477.out).2.1)
    rintro e w' ⟨rfl, ⟨nd, rfl⟩⟩
    refine ⟨_, rfl, ?_⟩
    refine hK.out _ _ ⟨(blk_cell BK353.out 0).trans rfl, (blk_cell BK353.out 1).trans rfl, (blk_cell BK409.out 0).trans rfl, (blk_cell BK409.out 1).trans rfl⟩ (fun hHeld => ?_)
    clear hK K
    refine norm_ (a' := ?_) ?_ ?_
    rotate_left
    ·show Act.put _ (some 200) _ = _
     simp only [Act.put, List.setIfInBounds_toArray, List.set_cons_zero, List.set_cons_succ, i64_w, i32_w]
     rfl
    refine pure_ (i := 45) (N := some 201) (v := ?_) (a' := ?_) #[true,true,true,true,true,true,true,true,true,true,true,true,true,true,true,true,true,true,true,true,true,true,true,true,true,true,true,true,true,true,true,true,true,true,true,true,true,true,true,true,true,true,true,true,true,true,false,false,false,false,false,false] rfl rfl (any_of HT_.out (by kernel_rfl)) (fun _ _ _ h => h) (Or.inl ⟨by rfl, ?_⟩) ?_ ?_
    rotate_left
    ·intro w'
     go_simp
     with_reducible rfl
    rotate_left
    ·simp only [Act.put, List.setIfInBounds_toArray, List.set_cons_zero, List.set_cons_succ, i64_w, i32_w]
     rfl
    refine pure_ (i := 46) (N := some 202) (v := ?_) (a' := ?_) #[true,true,true,true,true,true,true,true,true,true,true,true,true,true,true,true,true,true,true,true,true,true,true,true,true,true,true,true,true,true,true,true,true,true,true,true,true,true,true,true,true,true,true,true,true,true,true,false,false,false,false,false] rfl rfl (any_of HT_.out (by kernel_rfl)) (fun _ _ _ h => h) (Or.inl ⟨by rfl, ?_⟩) ?_ ?_
    rotate_left
    ·intro w'
     go_simp
     with_reducible rfl
    rotate_left
    ·simp only [Act.put, List.setIfInBounds_toArray, List.set_cons_zero, List.set_cons_succ, i64_w, i32_w]
     rfl
    refine pure_ (i := 47) (N := some 203) (v := ?_) (a' := ?_) #[true,true,true,true,true,true,true,true,true,true,true,true,true,true,true,true,true,true,true,true,true,true,true,true,true,true,true,true,true,true,true,true,true,true,true,true,true,true,true,true,true,true,true,true,true,true,true,true,false,false,false,false] rfl rfl (any_of HT_.out (by kernel_rfl)) (fun _ _ _ h => h) (Or.inl ⟨by rfl, ?_⟩) ?_ ?_
    rotate_left
    ·intro w'
     go_simp
     with_reducible rfl
    rotate_left
    ·simp only [Act.put, List.setIfInBounds_toArray, List.set_cons_zero, List.set_cons_succ, i64_w, i32_w]
     rfl
    refine take_ (i := 48) (N := some 204) (v := ?_) (a' := ?_) #[true,true,true,true,true,true,true,true,true,true,true,true,true,true,true,true,true,true,true,true,true,true,true,true,true,true,true,true,true,true,true,true,true,true,true,true,true,true,true,true,true,true,true,true,true,true,true,true,true,false,false,false] rfl rfl (take_ofW HT_.out HW_.out (by kernel_rfl)) (fun _ _ _ h => h) (Or.inl ⟨by rfl, ?_⟩) hHeld ?_ ?_
    rotate_left
    ·rintro w' ⟨s0, s1, s2, s3⟩
     go_simp
     with_reducible rfl
    rotate_left
    ·simp only [Act.put, List.setIfInBounds_toArray, List.set_cons_zero, List.set_cons_succ, i64_w, i32_w]
     rfl
    refine one_ (i := 49) (N := some 205) #[true,true,true,true,true,true,true,true,true,true,true,true,true,true,true,true,true,true,true,true,true,true,true,true,true,true,true,true,true,true,true,true,true,true,true,true,true,true,true,true,true,true,true,true,true,true,true,true,true,true,false,false] rfl rfl (one_of HT_.out (by kernel_rfl)) (by decide) (fun K hK => ?_)
    refine goes_ Tryz.func38 (by kernel_rfl) rfl #[.int .i64 25, .int .i64 25] (by rfl) rfl rfl (by (try simp only [List.map_toArray, List.map_cons, List.map_nil]); first | done | rfl | (simp only [List.length_drop, List.length_take]; rfl)) ?_
    with_reducible refine (L_span.calls 25 25 t479 t480 _ A118.out).mono ?_
    rintro e w141 ⟨rfl, hb⟩
    refine ⟨_, rfl, ?_⟩
    have n0_ := Aside0.mk (Kd.R_below (rup HO_1.out) hb)
    have n1_ := Aside0.mk (Kd.R_below (rup HO_3.out) hb)
    have n2_ := Aside0.mk (Kd.R_below (rup HO_9.out) hb)
    have n3_ := Aside0.mk (Kd.R_below (rup HO_13.out) hb)
    have n4_ := Aside0.mk (Kd.R_below (rup HO_15.out) hb)
    have n5_ := Aside0.mk (Kd.R_below (rup HO_19.out) hb)
    have n6_ := Aside0.mk (Kd.R_below (rup HO_24.out) hb)
    have n7_ := Aside0.mk (Kd.R_below (rup HO_26.out) hb)
    have n8_ := Aside0.mk (Kd.R_below (rup HO_457000.out) hb)
    have n9_ := Aside0.mk (Kd.R_below (rup HO459.out) hb)
    have n10_ := Aside0.mk (Kd.R_below (rup HO463.out) hb)
    have n11_ := Aside0.mk (Kd.R_below (rup HO469.out) hb)
    have n12_ := Aside0.mk (Kd.R_below (rup HO473.out) hb)
    have n13_ := Aside0.mk (Kd.R_below (rup HO477.out) hb)
    have n14_ := Aside0.mk (blk_below (g := gb353) (o := .cells #[.int .i64 t350, .int .i64 t351] 24 (0, 0)) (bup BK353.out) hb)
    have n15_ := Aside0.mk (blk_below (g := gb409) (o := .cells #[.int .i64 t406, .int .i64 t407] 24 (0, 0)) (bup BK409.out) hb)
    have n16_ := Aside0.mk (blk_below (g := gb456) (o := .cells #[.slice Ao75 t449.length co75, .int .i64 t452, .int .i64 t453, .int .i64 t454] 26 (0, 0)) (bup BK456.out) hb)
    have n17_ := Aside0.mk (below_step (by repeat (first | (with_reducible first | exact HB.out | apply below_alloc | apply pw_below_drewN | apply below_drew1 | refine below_set ?_ GE353.out | refine below_set ?_ GE409.out | refine below_set ?_ GE456.out) | exact HB.out)) hb)
    clear HO_1
    clear HO_3
    clear HO_9
    clear HO_13
    clear HO_15
    clear HO_19
    clear HO_24
    clear HO_26
    clear HO_457000
    clear HO459
    clear HO463
    clear HO469
    clear HO473
    clear HO477
    clear BK353
    clear BK409
    clear BK456
    clear HB
    have HO_1 := n0_
    have HO_3 := n1_
    have HO_9 := n2_
    have HO_13 := n3_
    have HO_15 := n4_
    have HO_19 := n5_
    have HO_24 := n6_
    have HO_26 := n7_
    have HO_457000 := n8_
    have HO459 := n9_
    have HO463 := n10_
    have HO469 := n11_
    have HO473 := n12_
    have HO477 := n13_
    have BK353 := n14_
    have BK409 := n15_
    have BK456 := n16_
    have HB := n17_
    clear n0_ n1_ n2_ n3_ n4_ n5_ n6_ n7_ n8_ n9_ n10_ n11_ n12_ n13_ n14_ n15_ n16_ n17_
    (try clear hb)
    (try clear hb2)
    (try clear hk)
    (try clear hi)
    refine hK.out _ _ ⟨(blk_cell BK353.out 0).trans rfl, (blk_cell BK353.out 1).trans rfl, (blk_cell BK409.out 0).trans rfl, (blk_cell BK409.out 1).trans rfl⟩ (fun hHeld => ?_)
    clear hK K
    refine norm_ (a' := ?_) ?_ ?_
    rotate_left
    ·show Act.put _ (some 205) _ = _
     simp only [Act.put, List.setIfInBounds_toArray, List.set_cons_zero, List.set_cons_succ, i64_w, i32_w]
     rfl
    refine pure_ (i := 50) (N := some 206) (v := ?_) (a' := ?_) #[true,true,true,true,true,true,true,true,true,true,true,true,true,true,true,true,true,true,true,true,true,true,true,true,true,true,true,true,true,true,true,true,true,true,true,true,true,true,true,true,true,true,true,true,true,true,true,true,true,true,true,false] rfl rfl (any_of HT_.out (by kernel_rfl)) (fun _ _ _ h => h) (Or.inl ⟨by rfl, ?_⟩) ?_ ?_
    rotate_left
    ·intro w'
     go_simp
     with_reducible rfl
    rotate_left
    ·simp only [Act.put, List.setIfInBounds_toArray, List.set_cons_zero, List.set_cons_succ, i64_w, i32_w]
     rfl
    refine pure_ (i := 51) (N := some 207) (v := ?_) (a' := ?_) #[true,true,true,true,true,true,true,true,true,true,true,true,true,true,true,true,true,true,true,true,true,true,true,true,true,true,true,true,true,true,true,true,true,true,true,true,true,true,true,true,true,true,true,true,true,true,true,true,true,true,true,true] rfl rfl (any_of HT_.out (by kernel_rfl)) (fun _ _ _ h => h) (Or.inl ⟨by rfl, ?_⟩) ?_ ?_
    rotate_left
    ·intro w'
     go_simp
     with_reducible rfl
    rotate_left
    ·simp only [Act.put, List.setIfInBounds_toArray, List.set_cons_zero, List.set_cons_succ, i64_w, i32_w]
     rfl
    refine done_ (done_of HT_.out (by kernel_rfl)) ?_
    try go_wp2
    go_meet
    case rel => exact ⟨_, ((!(t406 == t479) || (!(t407 == t480)))), (by first | rfl | (simp; done) | (simp [*]; done)), H', ⟨by have := HJ27.out; first | omega | exact Nat.le_refl _⟩, ⟨rup HO_19.out⟩, ⟨rup (Kd.R_mono HO_24.out (fun _ _ => trivial))⟩, ⟨rup HO_26.out⟩, ⟨rup (Kd.R_mono HO_457000.out (fun _ _ => trivial))⟩, ⟨bup BK353.out⟩, ⟨bup BK409.out⟩, ⟨bup BK456.out⟩, ⟨by repeat (first | (with_reducible first | exact HB.out | apply below_alloc | apply pw_below_drewN | apply below_drew1 | refine below_set ?_ GE353.out | refine below_set ?_ GE409.out | refine below_set ?_ GE456.out) | exact HB.out)⟩⟩
   case rest =>
    clear HC93
    obtain ⟨kq, x207_92, rfl, HA, HJ92, HO_19, HO_24, HO_26, HO_457000, BK353, BK409, BK456, HB⟩ := hcut
    cases kq with
    | zero => exact absurd HA.out (by simp [K_known.j1])
    | succ kj92 =>
     have H := HA.out
     clear HA
     simp only [K_known.j1] at H
     have c234 : ¬ (x207_92 = true) := fun q_ => by rw [if_pos q_] at H; exact K_known.absurd_f H HR.out
     replace c234 := Bool.eq_false_iff.mpr c234
     subst c234
     have H1 : ((L_span.f 25 25).bind fun bt481 => ((R_SameFixes.f kj92 t416 (([(⟨5, (⟨bt481.1, bt481.2⟩ : S24)⟩ : S70)] : List (S70)))).bind fun t486 => (if t486 = true then (if t426 = 5 then (if t427 = 25 then ((T_Same.f kj92 t435 (([2] : List Int))).bind fun t490 => (if t490 = true then ((L_span.f 9 9).bind fun bt491 => ((R_SameFixes.f kj92 t445 (([(⟨3, (⟨bt491.1, bt491.2⟩ : S24)⟩ : S70)] : List (S70)))).bind fun t496 => (if t496 = true then ((R_Print.f kj92 t449 t452 t453 t454).bind fun t497 => (some (t497.toList == ([99, 111, 108, 117, 109, 110, 32, 49, 32, 48, 32, 50, 10, 114, 111, 119, 32, 55, 10, 101, 110, 100, 32, 48, 56, 57, 10] : List UInt8)))) else (some false)))) else (some false))) else (some false)) else (some false)) else (some false)))) = some r := by rw [if_neg (show ¬ (false = true) by decide)] at H; exact H
     clear H
     have H := H1
     clear H1
     replace H := Option.bind_eq_some_iff.mp H
     obtain ⟨⟨t481, t482⟩, A2350, H⟩ := H
     replace H : ((R_SameFixes.f kj92 t416 (([(⟨5, (⟨t481, t482⟩ : S24)⟩ : S70)] : List (S70)))).bind fun t486 => (if t486 = true then (if t426 = 5 then (if t427 = 25 then ((T_Same.f kj92 t435 (([2] : List Int))).bind fun t490 => (if t490 = true then ((L_span.f 9 9).bind fun bt491 => ((R_SameFixes.f kj92 t445 (([(⟨3, (⟨bt491.1, bt491.2⟩ : S24)⟩ : S70)] : List (S70)))).bind fun t496 => (if t496 = true then ((R_Print.f kj92 t449 t452 t453 t454).bind fun t497 => (some (t497.toList == ([99, 111, 108, 117, 109, 110, 32, 49, 32, 48, 32, 50, 10, 114, 111, 119, 32, 55, 10, 101, 110, 100, 32, 48, 56, 57, 10] : List UInt8)))) else (some false)))) else (some false))) else (some false)) else (some false)) else (some false))) = some r := H
     have A235 := Aside0.mk A2350
     clear A2350
     obtain ⟨y483, hy483⟩ : ∃ y_ : List (S70), y_ = (([(⟨5, (⟨t481, t482⟩ : S24)⟩ : S70)] : List (S70))) := ⟨_, rfl⟩
     replace H : ((R_SameFixes.f kj92 t416 y483).bind fun t486 => (if t486 = true then (if t426 = 5 then (if t427 = 25 then ((T_Same.f kj92 t435 (([2] : List Int))).bind fun t490 => (if t490 = true then ((L_span.f 9 9).bind fun bt491 => ((R_SameFixes.f kj92 t445 (([(⟨3, (⟨bt491.1, bt491.2⟩ : S24)⟩ : S70)] : List (S70)))).bind fun t496 => (if t496 = true then ((R_Print.f kj92 t449 t452 t453 t454).bind fun t497 => (some (t497.toList == ([99, 111, 108, 117, 109, 110, 32, 49, 32, 48, 32, 50, 10, 114, 111, 119, 32, 55, 10, 101, 110, 100, 32, 48, 56, 57, 10] : List UInt8)))) else (some false)))) else (some false))) else (some false)) else (some false)) else (some false))) = some r := by first | (rw [hy483]; with_reducible exact H) | (have H2_ := (Option.bind_some _ _).symm.trans H; rw [hy483]; with_reducible exact H2_) | (have H2_ := (Option.bind_some _ _).symm.trans H; with_reducible exact H2_) | with_reducible exact H | (rw [hy483]; exact H) | exact H
     have Ny483 := Aside0.mk hy483
     clear hy483
     replace H := Option.bind_eq_some_iff.mp H
     obtain ⟨t486, A2360, H⟩ := H
     replace H : (if t486 = true then (if t426 = 5 then (if t427 = 25 then ((T_Same.f kj92 t435 (([2] : List Int))).bind fun t490 => (if t490 = true then ((L_span.f 9 9).bind fun bt491 => ((R_SameFixes.f kj92 t445 (([(⟨3, (⟨bt491.1, bt491.2⟩ : S24)⟩ : S70)] : List (S70)))).bind fun t496 => (if t496 = true then ((R_Print.f kj92 t449 t452 t453 t454).bind fun t497 => (some (t497.toList == ([99, 111, 108, 117, 109, 110, 32, 49, 32, 48, 32, 50, 10, 114, 111, 119, 32, 55, 10, 101, 110, 100, 32, 48, 56, 57, 10] : List UInt8)))) else (some false)))) else (some false))) else (some false)) else (some false)) else (some false)) = some r := H
     have A236 := Aside0.mk A2360
     clear A2360
     have c237 : t486 = true := Classical.byContradiction fun q_ => by rw [if_neg q_] at H; exact K_known.absurd_f H HR.out
     subst c237
     have H1 : (if t426 = 5 then (if t427 = 25 then ((T_Same.f kj92 t435 (([2] : List Int))).bind fun t490 => (if t490 = true then ((L_span.f 9 9).bind fun bt491 => ((R_SameFixes.f kj92 t445 (([(⟨3, (⟨bt491.1, bt491.2⟩ : S24)⟩ : S70)] : List (S70)))).bind fun t496 => (if t496 = true then ((R_Print.f kj92 t449 t452 t453 t454).bind fun t497 => (some (t497.toList == ([99, 111, 108, 117, 109, 110, 32, 49, 32, 48, 32, 50, 10, 114, 111, 119, 32, 55, 10, 101, 110, 100, 32, 48, 56, 57, 10] : List UInt8)))) else (some false)))) else (some false))) else (some false)) else (some false)) = some r := by rw [if_pos rfl] at H; exact H
     clear H
     have H := H1
     clear H1
     have c238 : t426 = 5 := Classical.byContradiction fun q_ => by rw [if_neg q_] at H; exact K_known.absurd_f H HR.out
     rw [if_pos c238] at H
     have c238b0 : (t426 == 5) = true := beq_iff_eq.mpr c238
     have c238b1 : (t426 != 5) = false := bne_eq_false_iff_eq.mpr c238
     clear c238
     have c239 : t427 = 25 := Classical.byContradiction fun q_ => by rw [if_neg q_] at H; exact K_known.absurd_f H HR.out
     rw [if_pos c239] at H
     have c239b0 : (t427 == 25) = true := beq_iff_eq.mpr c239
     have c239b1 : (t427 != 25) = false := bne_eq_false_iff_eq.mpr c239
     clear c239
     obtain ⟨y487, hy487⟩ : ∃ y_ : List Int, y_ = (([2] : List Int)) := ⟨_, rfl⟩
     replace H : ((T_Same.f kj92 t435 y487).bind fun t490 => (if t490 = true then ((L_span.f 9 9).bind fun bt491 => ((R_SameFixes.f kj92 t445 (([(⟨3, (⟨bt491.1, bt491.2⟩ : S24)⟩ : S70)] : List (S70)))).bind fun t496 => (if t496 = true then ((R_Print.f kj92 t449 t452 t453 t454).bind fun t497 => (some (t497.toList == ([99, 111, 108, 117, 109, 110, 32, 49, 32, 48, 32, 50, 10, 114, 111, 119, 32, 55, 10, 101, 110, 100, 32, 48, 56, 57, 10] : List UInt8)))) else (some false)))) else (some false))) = some r := by first | (rw [hy487]; with_reducible exact H) | (have H2_ := (Option.bind_some _ _).symm.trans H; rw [hy487]; with_reducible exact H2_) | (have H2_ := (Option.bind_some _ _).symm.trans H; with_reducible exact H2_) | with_reducible exact H | (rw [hy487]; exact H) | exact H
     have Ny487 := Aside0.mk hy487
     clear hy487
     replace H := Option.bind_eq_some_iff.mp H
     obtain ⟨t490, A2400, H⟩ := H
     replace H : (if t490 = true then ((L_span.f 9 9).bind fun bt491 => ((R_SameFixes.f kj92 t445 (([(⟨3, (⟨bt491.1, bt491.2⟩ : S24)⟩ : S70)] : List (S70)))).bind fun t496 => (if t496 = true then ((R_Print.f kj92 t449 t452 t453 t454).bind fun t497 => (some (t497.toList == ([99, 111, 108, 117, 109, 110, 32, 49, 32, 48, 32, 50, 10, 114, 111, 119, 32, 55, 10, 101, 110, 100, 32, 48, 56, 57, 10] : List UInt8)))) else (some false)))) else (some false)) = some r := H
     have A240 := Aside0.mk A2400
     clear A2400
     have c241 : t490 = true := Classical.byContradiction fun q_ => by rw [if_neg q_] at H; exact K_known.absurd_f H HR.out
     subst c241
     have H1 : ((L_span.f 9 9).bind fun bt491 => ((R_SameFixes.f kj92 t445 (([(⟨3, (⟨bt491.1, bt491.2⟩ : S24)⟩ : S70)] : List (S70)))).bind fun t496 => (if t496 = true then ((R_Print.f kj92 t449 t452 t453 t454).bind fun t497 => (some (t497.toList == ([99, 111, 108, 117, 109, 110, 32, 49, 32, 48, 32, 50, 10, 114, 111, 119, 32, 55, 10, 101, 110, 100, 32, 48, 56, 57, 10] : List UInt8)))) else (some false)))) = some r := by rw [if_pos rfl] at H; exact H
     clear H
     have H := H1
     clear H1
     replace H := Option.bind_eq_some_iff.mp H
     obtain ⟨⟨t491, t492⟩, A2420, H⟩ := H
     replace H : ((R_SameFixes.f kj92 t445 (([(⟨3, (⟨t491, t492⟩ : S24)⟩ : S70)] : List (S70)))).bind fun t496 => (if t496 = true then ((R_Print.f kj92 t449 t452 t453 t454).bind fun t497 => (some (t497.toList == ([99, 111, 108, 117, 109, 110, 32, 49, 32, 48, 32, 50, 10, 114, 111, 119, 32, 55, 10, 101, 110, 100, 32, 48, 56, 57, 10] : List UInt8)))) else (some false))) = some r := H
     have A242 := Aside0.mk A2420
     clear A2420
     obtain ⟨y493, hy493⟩ : ∃ y_ : List (S70), y_ = (([(⟨3, (⟨t491, t492⟩ : S24)⟩ : S70)] : List (S70))) := ⟨_, rfl⟩
     replace H : ((R_SameFixes.f kj92 t445 y493).bind fun t496 => (if t496 = true then ((R_Print.f kj92 t449 t452 t453 t454).bind fun t497 => (some (t497.toList == ([99, 111, 108, 117, 109, 110, 32, 49, 32, 48, 32, 50, 10, 114, 111, 119, 32, 55, 10, 101, 110, 100, 32, 48, 56, 57, 10] : List UInt8)))) else (some false))) = some r := by first | (rw [hy493]; with_reducible exact H) | (have H2_ := (Option.bind_some _ _).symm.trans H; rw [hy493]; with_reducible exact H2_) | (have H2_ := (Option.bind_some _ _).symm.trans H; with_reducible exact H2_) | with_reducible exact H | (rw [hy493]; exact H) | exact H
     have Ny493 := Aside0.mk hy493
     clear hy493
     replace H := Option.bind_eq_some_iff.mp H
     obtain ⟨t496, A2430, H⟩ := H
     replace H : (if t496 = true then ((R_Print.f kj92 t449 t452 t453 t454).bind fun t497 => (some (t497.toList == ([99, 111, 108, 117, 109, 110, 32, 49, 32, 48, 32, 50, 10, 114, 111, 119, 32, 55, 10, 101, 110, 100, 32, 48, 56, 57, 10] : List UInt8)))) else (some false)) = some r := H
     have A243 := Aside0.mk A2430
     clear A2430
     have c244 : t496 = true := Classical.byContradiction fun q_ => by rw [if_neg q_] at H; exact K_known.absurd_f H HR.out
     subst c244
     have H1 : ((R_Print.f kj92 t449 t452 t453 t454).bind fun t497 => (some (t497.toList == ([99, 111, 108, 117, 109, 110, 32, 49, 32, 48, 32, 50, 10, 114, 111, 119, 32, 55, 10, 101, 110, 100, 32, 48, 56, 57, 10] : List UInt8)))) = some r := by rw [if_pos rfl] at H; exact H
     clear H
     have H := H1
     clear H1
     replace H := Option.bind_eq_some_iff.mp H
     obtain ⟨t497, A2450, H⟩ := H
     replace H : (some (t497.toList == ([99, 111, 108, 117, 109, 110, 32, 49, 32, 48, 32, 50, 10, 114, 111, 119, 32, 55, 10, 101, 110, 100, 32, 48, 56, 57, 10] : List UInt8))) = some r := H
     have A245 := Aside0.mk A2450
     clear A2450
     obtain rfl := Option.some.inj H
     go_wp2_with (first | ((with_reducible refine gate_callee (f := 38) rfl ?_); refine goesL_ (some 209) rfl rfl Tryz.func38 (by kernel_rfl) rfl #[.int .i64 25, .int .i64 25] rfl (by (try simp only [List.map_toArray, List.map_cons, List.map_nil]); first | done | rfl | (simp only [List.length_drop, List.length_take]; rfl)) ?_; (with_reducible refine (L_span.calls 25 25 t481 t482 _ A235.out).mono ?_); rintro e w246 ⟨rfl, hb⟩; refine ⟨_, rfl, ?_⟩; have n0_ := Aside0.mk (Kd.R_below (rup HO_19.out) hb); have n1_ := Aside0.mk (Kd.R_below (rup HO_24.out) hb); have n2_ := Aside0.mk (Kd.R_below (rup HO_26.out) hb); have n3_ := Aside0.mk (Kd.R_below (rup HO_457000.out) hb); have n4_ := Aside0.mk (blk_below (g := gb353) (o := .cells #[.int .i64 t350, .int .i64 t351] 24 (0, 0)) (bup BK353.out) hb); have n5_ := Aside0.mk (blk_below (g := gb409) (o := .cells #[.int .i64 t406, .int .i64 t407] 24 (0, 0)) (bup BK409.out) hb); have n6_ := Aside0.mk (blk_below (g := gb456) (o := .cells #[.slice Ao75 t449.length co75, .int .i64 t452, .int .i64 t453, .int .i64 t454] 26 (0, 0)) (bup BK456.out) hb); have n7_ := Aside0.mk (below_step (by repeat (first | (with_reducible first | exact HB.out | apply below_alloc | apply pw_below_drewN | apply below_drew1 | refine below_set ?_ GE353.out | refine below_set ?_ GE409.out | refine below_set ?_ GE456.out) | exact HB.out)) hb); clear HO_19; clear HO_24; clear HO_26; clear HO_457000; clear BK353; clear BK409; clear BK456; clear HB; have HO_19 := n0_; have HO_24 := n1_; have HO_26 := n2_; have HO_457000 := n3_; have BK353 := n4_; have BK409 := n5_; have BK456 := n6_; have HB := n7_; clear n0_ n1_ n2_ n3_ n4_ n5_ n6_ n7_; (try clear hb); (try clear hb2); (try clear hk); (try clear hi)) | ((with_reducible refine gate_dst (N := 211) rfl ?_); (try (refine gate_guard (by rfl) ?_; dsimp only)); refine Kd.R_lit k70 _ 70 ?hg (N := 211) ?hd (xs := ([(⟨5, (⟨t481, t482⟩ : S24)⟩ : S70)] : List (S70))) (inner := [.int .i64 5, .int .i64 t481, .int .i64 t482]) (ok := fun _ => True) (okp := fun _ => True) ?hr ?hp (fun _ hk => hk) trivial (Below.refl _ _) (Nat.le_refl _) (by simp) ?_; (case hd => rfl); (case hg => rfl); (case hr => first | (go_simp; done) | (go_simp; rfl)); (case hp => exact (Reps.c3 (show Kd.M k70 _ _ _ (⟨5, (⟨t481, t482⟩ : S24)⟩ : S70) [.int .i64 5, .int .i64 t481, .int .i64 t482] from (k70_mkM _ _ _ (⟨5, (⟨t481, t482⟩ : S24)⟩ : S70) )) (Reps.none _ _))); intro v484 w247 ho248 hb hg_ hnew_; clear hg_ hnew_; (first | rw [← Ny483.out] at ho248 | (simp only [Int.reduceToNat] at ho248; rw [← Ny483.out] at ho248)); have n0_ := Aside0.mk (Kd.R_elder' (rup HO_19.out) (Kd.R_base ho248) hb); have n1_ := Aside0.mk (Kd.R_below (rup HO_24.out) hb); have n2_ := Aside0.mk (Kd.R_elder' (rup HO_26.out) (Kd.R_base ho248) hb); have n3_ := Aside0.mk (Kd.R_below (rup HO_457000.out) hb); have n4_ := Aside0.mk (Kd.R_lower (Kd.R_new' (Kd.R_new' ho248 (Kd.R_lt (rup HO_19.out))) (Kd.R_lt (rup HO_26.out))) (below_size (by repeat (first | (with_reducible first | exact HB.out | apply below_alloc | apply pw_below_drewN | apply below_drew1 | refine below_set ?_ GE353.out | refine below_set ?_ GE409.out | refine below_set ?_ GE456.out) | exact HB.out)))); have n5_ := Aside0.mk (blk_below (g := gb353) (o := .cells #[.int .i64 t350, .int .i64 t351] 24 (0, 0)) (bup BK353.out) hb); have n6_ := Aside0.mk (blk_below (g := gb409) (o := .cells #[.int .i64 t406, .int .i64 t407] 24 (0, 0)) (bup BK409.out) hb); have n7_ := Aside0.mk (blk_below (g := gb456) (o := .cells #[.slice Ao75 t449.length co75, .int .i64 t452, .int .i64 t453, .int .i64 t454] 26 (0, 0)) (bup BK456.out) hb); have n8_ := Aside0.mk (below_step (by repeat (first | (with_reducible first | exact HB.out | apply below_alloc | apply pw_below_drewN | apply below_drew1 | refine below_set ?_ GE353.out | refine below_set ?_ GE409.out | refine below_set ?_ GE456.out) | exact HB.out)) hb); clear HO_19; clear HO_24; clear HO_26; clear HO_457000; clear BK353; clear BK409; clear BK456; clear HB; have HO_19 := n0_; have HO_24 := n1_; have HO_26 := n2_; have HO_457000 := n3_; have HO485 := n4_; have BK353 := n5_; have BK409 := n6_; have BK456 := n7_; have HB := n8_; clear n0_ n1_ n2_ n3_ n4_ n5_ n6_ n7_ n8_; clear hb ho248; obtain ⟨Ao249, co249, eo249⟩ := Kd.R_slice HO_19.out; subst eo249; obtain ⟨Ao250, co250, eo250⟩ := Kd.R_slice HO485.out; subst eo250) | ((with_reducible refine gate_callee (f := 62) rfl ?_); refine goesL_ (some 212) rfl rfl Tryz.func62 (by kernel_rfl) rfl #[.slice Ao249 t416.length co249, .slice Ao250 y483.length co250] rfl (by (try simp only [List.map_toArray, List.map_cons, List.map_nil]); first | done | rfl | (simp only [List.length_drop, List.length_take]; rfl)) ?_; (with_reducible refine (R_SameFixes.calls kj92 _ _ t416 _ _ y483 true _ ?side1 ?side2 ?side3 ?side4 A236.out).mono ?_); (case side1 => repeat (first | exact (Kd.R_reads' HO_19.out).2.2 | (with_reducible refine Kd.C_alloc ?_ _) | (with_reducible refine Kd.C_drewN ?_ _) | (with_reducible refine Kd.C_drew ?_))); (case side2 => exact (Kd.R_reads' HO_19.out).2.1); (case side3 => repeat (first | exact (Kd.R_reads' HO485.out).2.2 | (with_reducible refine Kd.C_alloc ?_ _) | (with_reducible refine Kd.C_drewN ?_ _) | (with_reducible refine Kd.C_drew ?_))); (case side4 => exact (Kd.R_reads' HO485.out).2.1); rintro e w' ⟨rfl, ⟨nd, rfl⟩⟩; refine ⟨_, rfl, ?_⟩) | ((with_reducible refine gate_dst (N := 223) rfl ?_); (try (refine gate_guard (by rfl) ?_; dsimp only)); refine Kd.R_lit (Kd.int .i64) _ 3 ?hg (N := 223) ?hd (xs := ([2] : List Int)) (inner := [.int .i64 2]) (ok := fun _ => True) (okp := fun _ => True) ?hr ?hp (fun _ hk => hk) trivial (Below.refl _ _) (Nat.le_refl _) (by simp) ?_; (case hd => rfl); (case hg => rfl); (case hr => first | (go_simp; done) | (go_simp; rfl)); (case hp => exact (Reps.one (show Kd.M (Kd.int .i64) _ _ _ 2 [.int .i64 2] from rfl) (Reps.none _ _))); intro v488 w251 ho252 hb hg_ hnew_; clear hg_ hnew_; (first | rw [← Ny487.out] at ho252 | (simp only [Int.reduceToNat] at ho252; rw [← Ny487.out] at ho252)); have n0_ := Aside0.mk (Kd.R_below (rup HO_19.out) hb); have n1_ := Aside0.mk (Kd.R_elder' (rup HO_24.out) (Kd.R_base ho252) hb); have n2_ := Aside0.mk (Kd.R_below (rup HO_26.out) hb); have n3_ := Aside0.mk (Kd.R_elder' (rup HO_457000.out) (Kd.R_base ho252) hb); have n4_ := Aside0.mk (Kd.R_below (rup HO485.out) hb); have n5_ := Aside0.mk (Kd.R_lower (Kd.R_new' (Kd.R_new' ho252 (Kd.R_lt (rup HO_24.out))) (Kd.R_lt (rup HO_457000.out))) (below_size (by repeat (first | (with_reducible first | exact HB.out | apply below_alloc | apply pw_below_drewN | apply below_drew1 | refine below_set ?_ GE353.out | refine below_set ?_ GE409.out | refine below_set ?_ GE456.out) | exact HB.out)))); have n6_ := Aside0.mk (blk_below (g := gb353) (o := .cells #[.int .i64 t350, .int .i64 t351] 24 (0, 0)) (bup BK353.out) hb); have n7_ := Aside0.mk (blk_below (g := gb409) (o := .cells #[.int .i64 t406, .int .i64 t407] 24 (0, 0)) (bup BK409.out) hb); have n8_ := Aside0.mk (blk_below (g := gb456) (o := .cells #[.slice Ao75 t449.length co75, .int .i64 t452, .int .i64 t453, .int .i64 t454] 26 (0, 0)) (bup BK456.out) hb); have n9_ := Aside0.mk (below_step (by repeat (first | (with_reducible first | exact HB.out | apply below_alloc | apply pw_below_drewN | apply below_drew1 | refine below_set ?_ GE353.out | refine below_set ?_ GE409.out | refine below_set ?_ GE456.out) | exact HB.out)) hb); clear HO_19; clear HO_24; clear HO_26; clear HO_457000; clear HO485; clear BK353; clear BK409; clear BK456; clear HB; have HO_19 := n0_; have HO_24 := n1_; have HO_26 := n2_; have HO_457000 := n3_; have HO485 := n4_; have HO489 := n5_; have BK353 := n6_; have BK409 := n7_; have BK456 := n8_; have HB := n9_; clear n0_ n1_ n2_ n3_ n4_ n5_ n6_ n7_ n8_ n9_; clear hb ho252; obtain ⟨Ao253, co253, eo253⟩ := Kd.R_slice HO_24.out; subst eo253; obtain ⟨Ao254, co254, eo254⟩ := Kd.R_slice HO489.out; subst eo254) | (go_at_call 19; (with_reducible refine (T_Same.calls kj92 _ _ t435 _ _ y487 true _ ?side1 ?side2 ?side3 ?side4 A240.out).mono ?_); (case side1 => repeat (first | exact (Kd.R_reads' HO_24.out).2.2 | (with_reducible refine Kd.C_alloc ?_ _) | (with_reducible refine Kd.C_drewN ?_ _) | (with_reducible refine Kd.C_drew ?_))); (case side2 => exact (Kd.R_reads' HO_24.out).2.1); (case side3 => repeat (first | exact (Kd.R_reads' HO489.out).2.2 | (with_reducible refine Kd.C_alloc ?_ _) | (with_reducible refine Kd.C_drewN ?_ _) | (with_reducible refine Kd.C_drew ?_))); (case side4 => exact (Kd.R_reads' HO489.out).2.1); rintro e w' ⟨rfl, ⟨nd, rfl⟩⟩) | (go_at_call 38; (with_reducible refine (L_span.calls 9 9 t491 t492 _ A242.out).mono ?_); rintro e w255 ⟨rfl, hb⟩; have n0_ := Aside0.mk (Kd.R_below (rup HO_19.out) hb); have n1_ := Aside0.mk (Kd.R_below (rup HO_24.out) hb); have n2_ := Aside0.mk (Kd.R_below (rup HO_26.out) hb); have n3_ := Aside0.mk (Kd.R_below (rup HO_457000.out) hb); have n4_ := Aside0.mk (Kd.R_below (rup HO485.out) hb); have n5_ := Aside0.mk (Kd.R_below (rup HO489.out) hb); have n6_ := Aside0.mk (blk_below (g := gb353) (o := .cells #[.int .i64 t350, .int .i64 t351] 24 (0, 0)) (bup BK353.out) hb); have n7_ := Aside0.mk (blk_below (g := gb409) (o := .cells #[.int .i64 t406, .int .i64 t407] 24 (0, 0)) (bup BK409.out) hb); have n8_ := Aside0.mk (blk_below (g := gb456) (o := .cells #[.slice Ao75 t449.length co75, .int .i64 t452, .int .i64 t453, .int .i64 t454] 26 (0, 0)) (bup BK456.out) hb); have n9_ := Aside0.mk (below_step (by repeat (first | (with_reducible first | exact HB.out | apply below_alloc | apply pw_below_drewN | apply below_drew1 | refine below_set ?_ GE353.out | refine below_set ?_ GE409.out | refine below_set ?_ GE456.out) | exact HB.out)) hb); clear HO_19; clear HO_24; clear HO_26; clear HO_457000; clear HO485; clear HO489; clear BK353; clear BK409; clear BK456; clear HB; have HO_19 := n0_; have HO_24 := n1_; have HO_26 := n2_; have HO_457000 := n3_; have HO485 := n4_; have HO489 := n5_; have BK353 := n6_; have BK409 := n7_; have BK456 := n8_; have HB := n9_; clear n0_ n1_ n2_ n3_ n4_ n5_ n6_ n7_ n8_ n9_; (try clear hb); (try clear hb2); (try clear hk); (try clear hi)) | ((with_reducible refine gate_dst (N := 230) rfl ?_); (try (refine gate_guard (by rfl) ?_; dsimp only)); refine Kd.R_lit k70 _ 70 ?hg (N := 230) ?hd (xs := ([(⟨3, (⟨t491, t492⟩ : S24)⟩ : S70)] : List (S70))) (inner := [.int .i64 3, .int .i64 t491, .int .i64 t492]) (ok := fun _ => True) (okp := fun _ => True) ?hr ?hp (fun _ hk => hk) trivial (Below.refl _ _) (Nat.le_refl _) (by simp) ?_; (case hd => rfl); (case hg => rfl); (case hr => first | (go_simp; done) | (go_simp; rfl)); (case hp => exact (Reps.c3 (show Kd.M k70 _ _ _ (⟨3, (⟨t491, t492⟩ : S24)⟩ : S70) [.int .i64 3, .int .i64 t491, .int .i64 t492] from (k70_mkM _ _ _ (⟨3, (⟨t491, t492⟩ : S24)⟩ : S70) )) (Reps.none _ _))); intro v494 w256 ho257 hb hg_ hnew_; clear hg_ hnew_; (first | rw [← Ny493.out] at ho257 | (simp only [Int.reduceToNat] at ho257; rw [← Ny493.out] at ho257)); have n0_ := Aside0.mk (Kd.R_elder' (rup HO_19.out) (Kd.R_base ho257) hb); have n1_ := Aside0.mk (Kd.R_below (rup HO_24.out) hb); have n2_ := Aside0.mk (Kd.R_elder' (rup HO_26.out) (Kd.R_base ho257) hb); have n3_ := Aside0.mk (Kd.R_below (rup HO_457000.out) hb); have n4_ := Aside0.mk (Kd.R_elder' (rup HO485.out) (Kd.R_base ho257) hb); have n5_ := Aside0.mk (Kd.R_below (rup HO489.out) hb); have n6_ := Aside0.mk (Kd.R_lower (Kd.R_new' (Kd.R_new' (Kd.R_new' ho257 (Kd.R_lt (rup HO_19.out))) (Kd.R_lt (rup HO_26.out))) (Kd.R_lt (rup HO485.out))) (below_size (by repeat (first | (with_reducible first | exact HB.out | apply below_alloc | apply pw_below_drewN | apply below_drew1 | refine below_set ?_ GE353.out | refine below_set ?_ GE409.out | refine below_set ?_ GE456.out) | exact HB.out)))); have n7_ := Aside0.mk (blk_below (g := gb353) (o := .cells #[.int .i64 t350, .int .i64 t351] 24 (0, 0)) (bup BK353.out) hb); have n8_ := Aside0.mk (blk_below (g := gb409) (o := .cells #[.int .i64 t406, .int .i64 t407] 24 (0, 0)) (bup BK409.out) hb); have n9_ := Aside0.mk (blk_below (g := gb456) (o := .cells #[.slice Ao75 t449.length co75, .int .i64 t452, .int .i64 t453, .int .i64 t454] 26 (0, 0)) (bup BK456.out) hb); have n10_ := Aside0.mk (below_step (by repeat (first | (with_reducible first | exact HB.out | apply below_alloc | apply pw_below_drewN | apply below_drew1 | refine below_set ?_ GE353.out | refine below_set ?_ GE409.out | refine below_set ?_ GE456.out) | exact HB.out)) hb); clear HO_19; clear HO_24; clear HO_26; clear HO_457000; clear HO485; clear HO489; clear BK353; clear BK409; clear BK456; clear HB; have HO_19 := n0_; have HO_24 := n1_; have HO_26 := n2_; have HO_457000 := n3_; have HO485 := n4_; have HO489 := n5_; have HO495 := n6_; have BK353 := n7_; have BK409 := n8_; have BK456 := n9_; have HB := n10_; clear n0_ n1_ n2_ n3_ n4_ n5_ n6_ n7_ n8_ n9_ n10_; clear hb ho257; obtain ⟨Ao258, co258, eo258⟩ := Kd.R_slice HO_26.out; subst eo258; obtain ⟨Ao259, co259, eo259⟩ := Kd.R_slice HO495.out; subst eo259) | (go_at_call 62; (with_reducible refine (R_SameFixes.calls kj92 _ _ t445 _ _ y493 true _ ?side1 ?side2 ?side3 ?side4 A243.out).mono ?_); (case side1 => repeat (first | exact (Kd.R_reads' HO_26.out).2.2 | (with_reducible refine Kd.C_alloc ?_ _) | (with_reducible refine Kd.C_drewN ?_ _) | (with_reducible refine Kd.C_drew ?_))); (case side2 => exact (Kd.R_reads' HO_26.out).2.1); (case side3 => repeat (first | exact (Kd.R_reads' HO495.out).2.2 | (with_reducible refine Kd.C_alloc ?_ _) | (with_reducible refine Kd.C_drewN ?_ _) | (with_reducible refine Kd.C_drew ?_))); (case side4 => exact (Kd.R_reads' HO495.out).2.1); rintro e w' ⟨rfl, ⟨nd, rfl⟩⟩; have hnb260 := NB456_353.out; have hnc260 := NB353_456.out; have hnb261 := NB456_409.out; have hnc261 := NB409_456.out; have hcz262_0 : w256.cell? ⟨gb456, 0, none⟩ = some (.slice Ao75 t449.length co75) := (blk_cell BK456.out 0).trans rfl; have hcz262_1 : w256.cell? ⟨gb456, 1, none⟩ = some (.int .i64 t452) := (blk_cell BK456.out 1).trans rfl; have hcz262_2 : w256.cell? ⟨gb456, 2, none⟩ = some (.int .i64 t453) := (blk_cell BK456.out 2).trans rfl; have hcz262_3 : w256.cell? ⟨gb456, 3, none⟩ = some (.int .i64 t454) := (blk_cell BK456.out 3).trans rfl; have hfz262_0 := blk_frozen BK456.out 0; have hfz262_1 := blk_frozen BK456.out 1; have hfz262_2 := blk_frozen BK456.out 2; have hfz262_3 := blk_frozen BK456.out 3) | (go_at_call 54; (with_reducible refine (R_Print.calls kj92 _ _ t449 t452 t453 t454 t497 _ ?side1 ?side2 A245.out).mono ?_); (case side1 => repeat (first | exact (Kd.R_reads' HO_457000.out).2.2 | (with_reducible refine Kd.C_alloc ?_ _) | (with_reducible refine Kd.C_drewN ?_ _) | (with_reducible refine Kd.C_drew ?_))); (case side2 => exact (Kd.R_reads' HO_457000.out).2.1); rintro e w263 ⟨rfl, hb⟩; have n0_ := Aside0.mk (Kd.R_below (rup HO_19.out) hb); have n1_ := Aside0.mk (Kd.R_below (rup HO_24.out) hb); have n2_ := Aside0.mk (Kd.R_below (rup HO_26.out) hb); have n3_ := Aside0.mk (Kd.R_below (rup HO_457000.out) hb); have n4_ := Aside0.mk (Kd.R_below (rup HO485.out) hb); have n5_ := Aside0.mk (Kd.R_below (rup HO489.out) hb); have n6_ := Aside0.mk (Kd.R_below (rup HO495.out) hb); have n7_ := Aside0.mk (blk_below (g := gb353) (o := .cells #[.int .i64 t350, .int .i64 t351] 24 (0, 0)) (bup BK353.out) hb); have n8_ := Aside0.mk (blk_below (g := gb409) (o := .cells #[.int .i64 t406, .int .i64 t407] 24 (0, 0)) (bup BK409.out) hb); have n9_ := Aside0.mk (blk_below (g := gb456) (o := .cells #[.slice Ao75 t449.length co75, .int .i64 t452, .int .i64 t453, .int .i64 t454] 26 (0, 0)) (bup BK456.out) hb); have n10_ := Aside0.mk (below_step (by repeat (first | (with_reducible first | exact HB.out | apply below_alloc | apply pw_below_drewN | apply below_drew1 | refine below_set ?_ GE353.out | refine below_set ?_ GE409.out | refine below_set ?_ GE456.out) | exact HB.out)) hb); clear HO_19; clear HO_24; clear HO_26; clear HO_457000; clear HO485; clear HO489; clear HO495; clear BK353; clear BK409; clear BK456; clear HB; have HO_19 := n0_; have HO_24 := n1_; have HO_26 := n2_; have HO_457000 := n3_; have HO485 := n4_; have HO489 := n5_; have HO495 := n6_; have BK353 := n7_; have BK409 := n8_; have BK456 := n9_; have HB := n10_; clear n0_ n1_ n2_ n3_ n4_ n5_ n6_ n7_ n8_ n9_ n10_; (try clear hb); (try clear hb2); (try clear hk); (try clear hi)))
     go_ret
     exact ⟨by first | rfl | (simp [errW_none, errW_some] <;> rfl) | (simp [*, errW_none, errW_some] <;> rfl), by repeat (first | (with_reducible first | exact HB.out | apply below_alloc | apply pw_below_drewN | apply below_drew1 | refine below_set ?_ GE353.out | refine below_set ?_ GE409.out | refine below_set ?_ GE456.out) | exact HB.out)⟩
theorem L_known.calls  (r : Bool) (w : World) (h : L_known.f  = some r) (hT : Tryz.Glob w) :
    Calls Tryz.prog 17 #[] w fun e w' => e = .returned (.bool r) ∧ Below w.heap.size w w' := by
  obtain rfl : true = r := Option.some.inj h
  exact K_known.walk 60 true rfl w [0, 1, 4, 9, 16, 26, 36, 49] 2 2 2 [2, 2, 2, 3, 0, 3] 0 [0, 1, 4, 9, 16, 26, 36, 49] 2 2 2 [3, 4, 5] 0 [0, 1, 4, 9, 16, 26, 36, 49] 2 2 2 0 3 0 [0, 1, 4, 9, 16] 2 2 2 2 0 [0, 1, 9, 4, 16, 25] 2 2 2 [0, 3] 0 [0, 1, 9, 4, 16, 25] 2 2 2 6 0 [0, 1, 4, 16, 25, 36] 2 2 2 [1, 1, 2, 2, 1, 1] 0 [0, 1, 9, 4, 16, 25] 2 2 2 [0, 3] 0 [0, 1, 4, 9, 16, 26, 36, 49] 2 2 2 25 25 0 [0, 1, 4, 9, 16, 26, 36, 49] 2 2 2 [⟨5, ⟨25, 25⟩⟩] 0 [0, 1, 4, 9, 16, 26, 36, 49] 2 2 2 5 25 0 [0, 1, 9, 4, 16, 25] 2 2 2 [2] 0 [0, 1, 4, 16, 25, 36] 2 2 2 [⟨3, ⟨9, 9⟩⟩] 0 [7] 1 0 2 0
    ⟨by kernel_rfl⟩ ⟨by kernel_rfl⟩ ⟨by kernel_rfl⟩ ⟨by kernel_rfl⟩ ⟨by kernel_rfl⟩ ⟨by kernel_rfl⟩ ⟨by kernel_rfl⟩ ⟨by kernel_rfl⟩ ⟨by kernel_rfl⟩ ⟨by kernel_rfl⟩ ⟨by kernel_rfl⟩ ⟨by kernel_rfl⟩ ⟨by kernel_rfl⟩ ⟨by kernel_rfl⟩ ⟨by kernel_rfl⟩ ⟨by kernel_rfl⟩ ⟨by kernel_rfl⟩ ⟨by kernel_rfl⟩ ⟨by kernel_rfl⟩ ⟨by kernel_rfl⟩ ⟨by kernel_rfl⟩ ⟨by kernel_rfl⟩ ⟨by kernel_rfl⟩ ⟨by kernel_rfl⟩ ⟨by kernel_rfl⟩ ⟨by kernel_rfl⟩ ⟨by kernel_rfl⟩ ⟨rfl⟩ ⟨rfl⟩ ⟨rfl⟩ ⟨rfl⟩ ⟨rfl⟩ ⟨rfl⟩ ⟨rfl⟩ ⟨rfl⟩ ⟨rfl⟩ ⟨rfl⟩ ⟨rfl⟩ ⟨rfl⟩ ⟨rfl⟩ ⟨by kernel_rfl⟩ hT
end Go.Proofs.YtohlmoppcmjknaaGreatDoor.P
end
