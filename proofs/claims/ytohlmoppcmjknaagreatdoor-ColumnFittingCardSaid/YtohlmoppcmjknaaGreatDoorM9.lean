/- Contracts of the program's functions, and the words that their proofs take (joined out of several texts). -/
import Derived.Deep.RegionHeld3
import Derived.Lib.AppendStr
import Derived.Test.YtohlmoppcmjknaaGreatDoorM2
import Derived.Test.YtohlmoppcmjknaaGreatDoorM4
import Derived.Test.YtohlmoppcmjknaaGreatDoorM7
import Derived.Test.YtohlmoppcmjknaaGreatDoorM8
section
namespace Go.Proofs.YtohlmoppcmjknaaGreatDoor.X
open Go.RowKit Go.Proofs.YtohlmoppcmjknaaGreatDoorW.PrintWords Go.Proofs.YtohlmoppcmjknaaGreatDoorW.PrintLast Go.Proofs.YtohlmoppcmjknaaGreatDoorW.PrintMore
open Go.Proofs.YtohlmoppcmjknaaGreatDoor.Col (nth)
set_option linter.unusedVariables false
set_option linter.unusedSimpArgs false
theorem below_grow (w : World) (k : Nat) (os : Array Obj) : Below w.heap.size w (Sort.grow (w.drewN k) os) :=
 (below_drewN' (Below.refl _ _) k).trans (by
  have := below_grown (w.drewN k) 0 os
  simpa using this)
theorem itoa_calls (n : Int) (h0 : -9223372036854775808 ≤ n) (h1 : n ≤ 9223372036854775807) (w : World) (hG : Tryz.Glob w) :
  Calls Tryz.prog 102 #[.int .i64 n] w fun e w' => e = .returned (.string ⟨(Lib.itoa n).toArray⟩) ∧ Below w.heap.size w w' :=
 (Tryz.strconv_Itoa n h0 h1 w hG.1).mono fun e w' ⟨he, k, os, hw⟩ => ⟨he, hw ▸ below_grow w k os⟩
theorem words_calls (w : World) :
  Calls Tryz.prog 128 #[] w fun e w' => e = .returned (.agg #[.string ⟨#[99, 111, 108, 117, 109, 110]⟩, .string ⟨#[114, 111, 119]⟩]) ∧ Below w.heap.size w w' := by
 go_enter Tryz.func128, Tryz.ntmps128
 go_wp2
 refine bodyPost_ret (v := .agg #[.string ⟨#[99, 111, 108, 117, 109, 110]⟩, .string ⟨#[114, 111, 119]⟩]) ?_ rfl ⟨rfl, (Below.refl _ _).alloc (Nat.le_refl _) _⟩
 have hc0 := (blk_cell (blk_new w (.cells #[.string ⟨#[99, 111, 108, 117, 109, 110]⟩, .string ⟨#[114, 111, 119]⟩] 153 (0, 0))) 0).trans rfl
 have hc1 := (blk_cell (blk_new w (.cells #[.string ⟨#[99, 111, 108, 117, 109, 110]⟩, .string ⟨#[114, 111, 119]⟩] 153 (0, 0))) 1).trans rfl
 simp [results, Tryz.results128, go_sem]
theorem words_at0 (W : World) : (Instr.index 153 (.agg #[.string ⟨#[99, 111, 108, 117, 109, 110]⟩, .string ⟨#[114, 111, 119]⟩]) (.int .i64 0)).run Tryz.prog W = .ok (.string ⟨#[99, 111, 108, 117, 109, 110]⟩) W := by kernel_rfl
theorem words_at1 (W : World) : (Instr.index 153 (.agg #[.string ⟨#[99, 111, 108, 117, 109, 110]⟩, .string ⟨#[114, 111, 119]⟩]) (.int .i64 1)).run Tryz.prog W = .ok (.string ⟨#[114, 111, 119]⟩) W := by kernel_rfl
set_option maxHeartbeats 2000000 in
set_option maxRecDepth 100000 in
theorem told_row (n : Int) (h0 : -99999 ≤ n) (h1 : n ≤ 99999) (w : World) (hG : Tryz.Glob w) :
  Calls Tryz.prog 101 #[.iface 125 (.int .i64 n)] w fun e w' => e = .returned (.string ⟨(Col.rowLine n).toArray⟩) ∧ Below w.heap.size w w' := by
 have hta : ∀ W, (Instr.typeAssert (.iface 125 (.int .i64 n)) 152 124 true).run Tryz.prog W = .ok (.tuple #[.agg #[.slice none 0 0, .int .i64 0, .int .i64 0, .int .i64 0], .bool false]) W := fun _ => by kernel_rfl
 have htb : ∀ W, (Instr.typeAssert (.iface 125 (.int .i64 n)) 152 125 true).run Tryz.prog W = .ok (.tuple #[.int .i64 n, .bool true]) W := fun _ => by kernel_rfl
 have hix := words_at1
 have e : Col.rowLine n = Col.line [114, 111, 119] [n] := rfl
 rw [e]
 clear e
 obtain ⟨NS, hNS⟩ : ∃ NS, NS = [n] := ⟨_, rfl⟩
 have HNB : ∀ x ∈ NS, x.natAbs < 100000 := by rw [hNS]; intro x hx; rw [List.mem_singleton] at hx; omega
 have HG : Hid (∀ (j : Nat) (hj : j < NS.length) (W : World) (hW : Below w.heap.size w W), Calls Tryz.prog 102 #[.int .i64 (nth NS j)] W fun e w' => e = .returned (.string ⟨(Lib.itoa (nth NS j)).toArray⟩) ∧ Below W.heap.size W w') := Lib.hid (fun j hj W hW => itoa_calls (nth NS j) (by have := HNB _ (Col.nth_mem hj); omega) (by have := HNB _ (Col.nth_mem hj); omega) W (hG.below hW))
 have HZ : Hid (∀ j, (Col.lineTo [114, 111, 119] NS j).size ≤ 100) := Lib.hid (fun j => Nat.le_trans (Col.lineTo_size HNB j) (by rw [hNS]; simp))
 have HIL := Lib.hid (fun (j : Nat) (hj : j < NS.length) => Col.itoa_len (HNB _ (Col.nth_mem hj)))
 have hnl : NS.length = 1 := by rw [hNS]; rfl
 rw [← hNS]
 have HNS := Lib.hid hNS
 have HNL := Lib.hid hnl
 clear HNB hG hNS
 go_enter Tryz.func101, Tryz.ntmps101
 go_wp2_with fail
 refine (words_calls _).mono ?_
 rintro e w1 ⟨rfl, hb1⟩
 have HB1 := Aside0.mk hb1
 clear hb1
 clear hnl
 go_wp2
 have HB2 := Aside0.mk (HB1.out.alloc HB1.out.size (.cells #[.int .i64 n] 3))
 have HC : Hid (∀ W, Below (w1.alloc (.cells #[.int .i64 n] 3)).heap.size (w1.alloc (.cells #[.int .i64 n] 3)) W → ∀ j, j < NS.length → W.cell? ⟨w1.heap.size, j, none⟩ = some (.int .i64 (nth NS j))) := Lib.hid (fun W hW j hj => by
  obtain rfl : j = 0 := by have := HNL.out; omega
  rw [HNS.out]
  exact (blk_cell (blk_below (blk_new w1 _) hW) 0).trans rfl)
 generalize w1.alloc (.cells #[.int .i64 n] 3) = W0 at *
 clear hta htb hix
 go_loopw [3, 36] (fun v i wr => ∃ j : Nat, j ≤ 1 ∧ i = .int .i64 (j : Int) ∧ v = .string (Col.lineTo [114, 111, 119] NS j) ∧ Aside0 (Below W0.heap.size W0 wr)) (fun _ i _ => 1 - (intOf i).toNat)
 case atStart => exact ⟨0, Nat.zero_le _, rfl, rfl, ⟨Below.refl _ _⟩⟩
 case round =>
  obtain ⟨j, hj, rfl, rfl, HB⟩ := hrel
  by_cases hlt : j < 1
  ·have hjl : j < NS.length := by have := HNL.out; omega
   have hc := HC.out _ HB.out j hjl
   have HG2 := Lib.hid (HG.out j hjl _ (below_step HB2.out HB.out))
   have HT := Lib.hid (Col.lineTo_succ (wd := [114, 111, 119]) hjl)
   have hz := HZ.out j
   have hil := HIL.out j hjl
   generalize nth NS j = x at *
   have hs1 : (9223372036854775807 < 1 + (Lib.itoa x).length) = False := eq_false (by omega)
   have hs2 : (9223372036854775807 < (Col.lineTo [114, 111, 119] NS j).size + (1 + (Lib.itoa x).length)) = False := eq_false (by omega)
   have HLT := Lib.hid hlt
   clear hz hil hjl
   go_wp2_with fail
   refine HG2.out.mono ?_
   rintro e w5 ⟨rfl, hb5⟩
   have HB5 := Aside0.mk (below_step HB.out hb5)
   clear hb5 hc HG2 HB
   go_wp2
   go_roundw
   case rel => exact ⟨j + 1, by omega, by go_num, by rw [HT.out], HB5⟩
   case measure => simp [intOf]; omega
  ·have e : j = 1 := by omega
   subst e
   go_wp2
   go_ret
   exact ⟨by rw [← Col.lineTo_all, HNL.out]; rfl, below_step HB2.out HB.out⟩
set_option maxHeartbeats 4000000 in
set_option maxRecDepth 100000 in
theorem told_head (A : Option Addr) (n0 c0 : Nat) (o lo hi : Int) (h0 : o.natAbs < 100000) (h1 : lo.natAbs < 100000) (h2 : hi.natAbs < 100000) (w : World) (hG : Tryz.Glob w) :
  Calls Tryz.prog 101 #[.iface 124 (.agg #[.slice A n0 c0, .int .i64 o, .int .i64 lo, .int .i64 hi])] w fun e w' => e = .returned (.string ⟨(Col.headLine o lo hi).toArray⟩) ∧ Below w.heap.size w w' := by
 have hta : ∀ W, (Instr.typeAssert (.iface 124 (.agg #[.slice A n0 c0, .int .i64 o, .int .i64 lo, .int .i64 hi])) 152 124 true).run Tryz.prog W = .ok (.tuple #[.agg #[.slice A n0 c0, .int .i64 o, .int .i64 lo, .int .i64 hi], .bool true]) W := fun _ => by kernel_rfl
 have hix := words_at0
 have e : Col.headLine o lo hi = Col.line [99, 111, 108, 117, 109, 110] [o, lo, hi] := rfl
 rw [e]
 clear e
 obtain ⟨NS, hNS⟩ : ∃ NS, NS = [o, lo, hi] := ⟨_, rfl⟩
 have HNB : ∀ x ∈ NS, x.natAbs < 100000 := by rw [hNS]; intro x hx; simp only [List.mem_cons, List.not_mem_nil, or_false] at hx; rcases hx with rfl | rfl | rfl <;> assumption
 have HG : Hid (∀ (j : Nat) (hj : j < NS.length) (W : World) (hW : Below w.heap.size w W), Calls Tryz.prog 102 #[.int .i64 (nth NS j)] W fun e w' => e = .returned (.string ⟨(Lib.itoa (nth NS j)).toArray⟩) ∧ Below W.heap.size W w') := Lib.hid (fun j hj W hW => itoa_calls (nth NS j) (by have := HNB _ (Col.nth_mem hj); omega) (by have := HNB _ (Col.nth_mem hj); omega) W (hG.below hW))
 have HZ : Hid (∀ j, (Col.lineTo [99, 111, 108, 117, 109, 110] NS j).size ≤ 100) := Lib.hid (fun j => Nat.le_trans (Col.lineTo_size HNB j) (by rw [hNS]; simp))
 have HIL := Lib.hid (fun (j : Nat) (hj : j < NS.length) => Col.itoa_len (HNB _ (Col.nth_mem hj)))
 have hnl : NS.length = 3 := by rw [hNS]; rfl
 rw [← hNS]
 have HNS := Lib.hid hNS
 have HNL := Lib.hid hnl
 clear HNB hG hNS hnl
 go_enter Tryz.func101, Tryz.ntmps101
 go_wp2
 have hg := blk_new w (.cells #[.slice A n0 c0, .int .i64 o, .int .i64 lo, .int .i64 hi] 124 (0, 0))
 have HB0 := Aside0.mk ((Below.refl w.heap.size w).alloc (Nat.le_refl _) (.cells #[.slice A n0 c0, .int .i64 o, .int .i64 lo, .int .i64 hi] 124))
 generalize w.alloc (.cells #[.slice A n0 c0, .int .i64 o, .int .i64 lo, .int .i64 hi] 124) = W1 at *
 have hKS := Lib.hid (fun W (hW : Below W1.heap.size W1 W) => (⟨(blk_cell (blk_below hg hW) 1).trans rfl, (blk_cell (blk_below hg hW) 2).trans rfl, (blk_cell (blk_below hg hW) 3).trans rfl⟩ : W.cell? ⟨w.heap.size, 1, none⟩ = some (.int .i64 o) ∧ W.cell? ⟨w.heap.size, 2, none⟩ = some (.int .i64 lo) ∧ W.cell? ⟨w.heap.size, 3, none⟩ = some (.int .i64 hi)))
 have hP0 : Below W1.heap.size W1 W1.drew := (Below.refl _ _).drew
 have hPA : Below W1.heap.size W1 (W1.alloc (.cells #[.int .i64 o, .int .i64 lo, .int .i64 hi] 3)).drew := ((Below.refl _ _).alloc (Nat.le_refl _) _).drew
 clear hta hg
 go_region_held3 (fun W => W.cell? ⟨w.heap.size, 1, none⟩ = some (.int .i64 o) ∧ W.cell? ⟨w.heap.size, 2, none⟩ = some (.int .i64 lo) ∧ W.cell? ⟨w.heap.size, 3, none⟩ = some (.int .i64 hi))
  (first | exact hKS.out _ hP0 | exact hKS.out _ hP1 | exact hKS.out _ hPA | exact hKS.out _ (hP1.alloc hP1.size _))
  ((go_at_call 128; refine (words_calls _).mono ?_; rintro e w5 ⟨rfl, hb5⟩; have hP1 : Below W1.heap.size W1 w5 := (by first | exact below_step hP0 hb5 | exact below_step hPA hb5)))
 ·have HB2 := Aside0.mk (below_alloc (below_step HB0.out hP1) (.cells #[.int .i64 o, .int .i64 lo, .int .i64 hi] 3))
  have HC : Hid (∀ W, Below (w5.alloc (.cells #[.int .i64 o, .int .i64 lo, .int .i64 hi] 3)).heap.size (w5.alloc (.cells #[.int .i64 o, .int .i64 lo, .int .i64 hi] 3)) W → ∀ j, j < NS.length → W.cell? ⟨w5.heap.size, j, none⟩ = some (.int .i64 (nth NS j))) := Lib.hid (fun W hW j hj => by
      have hg := blk_below (blk_new w5 _) hW
      rw [HNS.out]
      have hj3 := HNL.out
      have h3 : j = 0 ∨ j = 1 ∨ j = 2 := by omega
      rcases h3 with rfl | rfl | rfl
      ·exact (blk_cell hg 0).trans rfl
      ·exact (blk_cell hg 1).trans rfl
      ·exact (blk_cell hg 2).trans rfl)
  generalize w5.alloc (.cells #[.int .i64 o, .int .i64 lo, .int .i64 hi] 3) = W0 at *
  clear hb5 hP1 hP0 hPA hKS
  go_wp2
  go_loopw [3, 36] (fun v i wr => ∃ j : Nat, j ≤ 3 ∧ i = .int .i64 (j : Int) ∧ v = .string (Col.lineTo [99, 111, 108, 117, 109, 110] NS j) ∧ Aside0 (Below W0.heap.size W0 wr)) (fun _ i _ => 3 - (intOf i).toNat)
  case atStart => exact ⟨0, Nat.zero_le _, rfl, rfl, ⟨Below.refl _ _⟩⟩
  case round =>
   obtain ⟨j, hj, rfl, rfl, HB⟩ := hrel
   by_cases hlt : j < 3
   ·have hjl : j < NS.length := by have := HNL.out; omega
    have hc := HC.out _ HB.out j hjl
    have HG2 := Lib.hid (HG.out j hjl _ (below_step HB2.out HB.out))
    have HT := Lib.hid (Col.lineTo_succ (wd := [99, 111, 108, 117, 109, 110]) hjl)
    have hz := HZ.out j
    have hil := HIL.out j hjl
    generalize nth NS j = x at *
    have hs1 : (9223372036854775807 < 1 + (Lib.itoa x).length) = False := eq_false (by omega)
    have hs2 : (9223372036854775807 < (Col.lineTo [99, 111, 108, 117, 109, 110] NS j).size + (1 + (Lib.itoa x).length)) = False := eq_false (by omega)
    have HLT := Lib.hid hlt
    clear hz hil hjl
    go_wp2_with fail
    refine HG2.out.mono ?_
    rintro e w5 ⟨rfl, hb5⟩
    have HB5 := Aside0.mk (below_step HB.out hb5)
    clear hb5 hc HG2 HB
    go_wp2
    go_roundw
    case rel => exact ⟨j + 1, by omega, by go_num, by rw [HT.out], HB5⟩
    case measure => simp [intOf]; omega
   ·have e : j = 3 := by omega
    subst e
    go_wp2
    go_ret
    exact ⟨by rw [← Col.lineTo_all, HNL.out]; rfl, below_step HB2.out HB.out⟩
 ·have HB2 := Aside0.mk (below_alloc (below_step HB0.out hP1) (.cells #[.int .i64 o, .int .i64 lo, .int .i64 hi] 3))
  have HC : Hid (∀ W, Below (w5.alloc (.cells #[.int .i64 o, .int .i64 lo, .int .i64 hi] 3)).heap.size (w5.alloc (.cells #[.int .i64 o, .int .i64 lo, .int .i64 hi] 3)) W → ∀ j, j < NS.length → W.cell? ⟨w5.heap.size, j, none⟩ = some (.int .i64 (nth NS j))) := Lib.hid (fun W hW j hj => by
      have hg := blk_below (blk_new w5 _) hW
      rw [HNS.out]
      have hj3 := HNL.out
      have h3 : j = 0 ∨ j = 1 ∨ j = 2 := by omega
      rcases h3 with rfl | rfl | rfl
      ·exact (blk_cell hg 0).trans rfl
      ·exact (blk_cell hg 1).trans rfl
      ·exact (blk_cell hg 2).trans rfl)
  generalize w5.alloc (.cells #[.int .i64 o, .int .i64 lo, .int .i64 hi] 3) = W0 at *
  clear hb5 hP1 hP0 hPA hKS
  go_wp2
  go_loopw [3, 36] (fun v i wr => ∃ j : Nat, j ≤ 3 ∧ i = .int .i64 (j : Int) ∧ v = .string (Col.lineTo [99, 111, 108, 117, 109, 110] NS j) ∧ Aside0 (Below W0.heap.size W0 wr)) (fun _ i _ => 3 - (intOf i).toNat)
  case atStart => exact ⟨0, Nat.zero_le _, rfl, rfl, ⟨Below.refl _ _⟩⟩
  case round =>
   obtain ⟨j, hj, rfl, rfl, HB⟩ := hrel
   by_cases hlt : j < 3
   ·have hjl : j < NS.length := by have := HNL.out; omega
    have hc := HC.out _ HB.out j hjl
    have HG2 := Lib.hid (HG.out j hjl _ (below_step HB2.out HB.out))
    have HT := Lib.hid (Col.lineTo_succ (wd := [99, 111, 108, 117, 109, 110]) hjl)
    have hz := HZ.out j
    have hil := HIL.out j hjl
    generalize nth NS j = x at *
    have hs1 : (9223372036854775807 < 1 + (Lib.itoa x).length) = False := eq_false (by omega)
    have hs2 : (9223372036854775807 < (Col.lineTo [99, 111, 108, 117, 109, 110] NS j).size + (1 + (Lib.itoa x).length)) = False := eq_false (by omega)
    have HLT := Lib.hid hlt
    clear hz hil hjl
    go_wp2_with fail
    refine HG2.out.mono ?_
    rintro e w5 ⟨rfl, hb5⟩
    have HB5 := Aside0.mk (below_step HB.out hb5)
    clear hb5 hc HG2 HB
    go_wp2
    go_roundw
    case rel => exact ⟨j + 1, by omega, by go_num, by rw [HT.out], HB5⟩
    case measure => simp [intOf]; omega
   ·have e : j = 3 := by omega
    subst e
    go_wp2
    go_ret
    exact ⟨by rw [← Col.lineTo_all, HNL.out]; rfl, below_step HB2.out HB.out⟩
 ·have HB2 := Aside0.mk (below_step HB0.out hP1)
  have hgB := blk_below (blk_new W1 (.cells #[.int .i64 o, .int .i64 lo, .int .i64 hi] 3 (0, 0))) (below_step ((Below.refl _ _).drew) hb5)
  have HC : Hid (∀ W, Below w5.heap.size w5 W → ∀ j, j < NS.length → W.cell? ⟨W1.heap.size, j, none⟩ = some (.int .i64 (nth NS j))) := Lib.hid (fun W hW j hj => by
      have hg := blk_below hgB hW
      rw [HNS.out]
      have hj3 := HNL.out
      have h3 : j = 0 ∨ j = 1 ∨ j = 2 := by omega
      rcases h3 with rfl | rfl | rfl
      ·exact (blk_cell hg 0).trans rfl
      ·exact (blk_cell hg 1).trans rfl
      ·exact (blk_cell hg 2).trans rfl)
  clear hgB
  clear hb5 hP1 hP0 hPA hKS
  go_wp2
  go_loopw [3, 36] (fun v i wr => ∃ j : Nat, j ≤ 3 ∧ i = .int .i64 (j : Int) ∧ v = .string (Col.lineTo [99, 111, 108, 117, 109, 110] NS j) ∧ Aside0 (Below w5.heap.size w5 wr)) (fun _ i _ => 3 - (intOf i).toNat)
  case atStart => exact ⟨0, Nat.zero_le _, rfl, rfl, ⟨Below.refl _ _⟩⟩
  case round =>
   obtain ⟨j, hj, rfl, rfl, HB⟩ := hrel
   by_cases hlt : j < 3
   ·have hjl : j < NS.length := by have := HNL.out; omega
    have hc := HC.out _ HB.out j hjl
    have HG2 := Lib.hid (HG.out j hjl _ (below_step HB2.out HB.out))
    have HT := Lib.hid (Col.lineTo_succ (wd := [99, 111, 108, 117, 109, 110]) hjl)
    have hz := HZ.out j
    have hil := HIL.out j hjl
    generalize nth NS j = x at *
    have hs1 : (9223372036854775807 < 1 + (Lib.itoa x).length) = False := eq_false (by omega)
    have hs2 : (9223372036854775807 < (Col.lineTo [99, 111, 108, 117, 109, 110] NS j).size + (1 + (Lib.itoa x).length)) = False := eq_false (by omega)
    have HLT := Lib.hid hlt
    clear hz hil hjl
    go_wp2_with fail
    refine HG2.out.mono ?_
    rintro e w6 ⟨rfl, hb6⟩
    have HB5 := Aside0.mk (below_step HB.out hb6)
    clear hb6 hc HG2 HB
    go_wp2
    go_roundw
    case rel => exact ⟨j + 1, by omega, by go_num, by rw [HT.out], HB5⟩
    case measure => simp [intOf]; omega
   ·have e : j = 3 := by omega
    subst e
    go_wp2
    go_ret
    exact ⟨by rw [← Col.lineTo_all, HNL.out]; rfl, below_step HB2.out HB.out⟩
end Go.Proofs.YtohlmoppcmjknaaGreatDoor.X
end
section
namespace Go.Proofs.YtohlmoppcmjknaaGreatDoor.P
open Go.RowKit Go.Proofs.YtohlmoppcmjknaaGreatDoorW.PrintWords Go.Proofs.YtohlmoppcmjknaaGreatDoorW.PrintLast Go.Proofs.YtohlmoppcmjknaaGreatDoorW.PrintMore Go.Proofs.YtohlmoppcmjknaaGreatDoor.X
open Go.Proofs.YtohlmoppcmjknaaGreatDoor.Col (nth bys)
set_option linter.unusedVariables false
set_option linter.unusedSimpArgs false
theorem info_str : (Tryz.prog.info? 9).map (fun i => (i.zero, i.size, i.bytes)) = some (some (.string ⟨#[]⟩), 1, 16) := by kernel_rfl
theorem wraps_at (b : UInt8) {k j : Nat} (hk : k < 100) (hj : j < 300) {S : Int} (h0 : 0 ≤ S) (h1 : S ≤ 1000000000000) :
  wrap64 (S + wrap64 (wrap64 (wrap64 (b.toNat : Int) * ((k : Int) + 1)) * ((j : Int) + 1))) = S + (b.toNat : Int) * ((k : Int) + 1) * ((j : Int) + 1) := by
 obtain ⟨t1, t2, t3, t4⟩ := Col.term_bd b (k := k) (i := j) hk hj
 have hb := UInt8.toNat_lt b
 have e1 : wrap64 (b.toNat : Int) = (b.toNat : Int) := by unfold wrap64; omega
 rw [e1]
 have e2 : wrap64 ((b.toNat : Int) * ((k : Int) + 1)) = (b.toNat : Int) * ((k : Int) + 1) := by unfold wrap64; omega
 rw [e2]
 have e3 : wrap64 ((b.toNat : Int) * ((k : Int) + 1) * ((j : Int) + 1)) = (b.toNat : Int) * ((k : Int) + 1) * ((j : Int) + 1) := by unfold wrap64; omega
 rw [e3]
 unfold wrap64; omega
theorem below_step0 {B : Nat} {w0 w w' : World} (h : Below B w0 w) (hb : Below w.heap.size w w') (hB : B ≤ w.heap.size) : Below B w0 w' := h.trans (hb.mono hB)
set_option maxHeartbeats 8000000 in
set_option maxRecDepth 100000 in
theorem column_text.calls (A0_0 : Option Addr) (c0_0 : Nat) (l0_0 : List Int) (a0_1 : Int) (a0_2 : Int) (a0_3 : Int) (r : ByteArray) (w : World) (hr0_0 : Kd.C (Kd.int .i64) w A0_0 l0_0.length l0_0) (hc0_0 : l0_0.length ≤ c0_0) (h : column_text.f l0_0 a0_1 a0_2 a0_3 = some r) (hT : Tryz.Glob w) :
  Calls Tryz.prog 73 #[.agg #[.slice A0_0 l0_0.length c0_0, .int .i64 a0_1, .int .i64 a0_2, .int .i64 a0_3]] w fun e w' => e = .returned (.string r) ∧ Below w.heap.size w w' := by
 have hr : Col.ftext l0_0 a0_1 a0_2 a0_3 = some r := h
 unfold Col.ftext at hr
 have hsh : Col.short l0_0 a0_1 a0_2 a0_3 = true := by
  by_cases hsh : Col.short l0_0 a0_1 a0_2 a0_3 = true
  ·exact hsh
  ·rw [if_neg hsh] at hr; cases hr
 rw [if_pos hsh] at hr
 obtain rfl := Option.some.inj hr
 obtain ⟨s1, s2, s3, s4, s5⟩ := Col.short_parts hsh
 have HTH := Lib.hid (fun W (hW : Below w.heap.size w W) => told_head A0_0 l0_0.length c0_0 a0_1 a0_2 a0_3 s2 s3 s4 W (hT.below hW))
 have HTR := Lib.hid (fun (j : Nat) (hj : j < l0_0.length) W (hW : Below w.heap.size w W) => told_row (nth l0_0 j) (by have := s5 _ (Col.nth_mem hj); omega) (by have := s5 _ (Col.nth_mem hj); omega) W (hT.below hW))
 have HIT := Lib.hid (fun (n : Int) (h0 : 0 ≤ n) (h1 : n ≤ 1000) W (hW : Below w.heap.size w W) => itoa_calls n (by omega) (by omega) W (hT.below hW))
 have HLN := Lib.hid (Col.lines_len hsh)
 have HL : Aside0 (CI w A0_0 l0_0) := ⟨hr0_0⟩
 rw [← Col.text_eq]
 clear hr h hsh hr0_0 s2 s3 s4 s5
 go_enter Tryz.func73, Tryz.ntmps73
 go_wp2_with fail
 refine (HTH.out _ ((Below.refl _ _).alloc (Nat.le_refl _) _)).mono ?_
 rintro e w1 ⟨rfl, hb⟩
 have HB := Aside0.mk (box_of hb)
 have hc0 := box_cell HB.out 0 rfl
 have hw1 : w.heap.size < w1.heap.size := by have := hb.size; simp at this; omega
 have hR0 : Aside0 (Kd.R Kd.string 9 (w1.alloc (.cells #[.string (bys (Col.headLine a0_1 a0_2 a0_3))] 9)) (w.heap.size + 1) (fun _ => True) (.slice (some ⟨w1.heap.size, 0, none⟩) 1 1) (Col.rowsTo l0_0 a0_1 a0_2 a0_3 0)) := ⟨by
  rw [Col.rowsTo_zero]
  exact Kd.R_of_own (own_lit_of (enc := Value.string) w1 (w.heap.size + 1) 9 [bys (Col.headLine a0_1 a0_2 a0_3)] (by omega) (by simp)) (fun _ _ => trivial)⟩
 have hBW : Aside0 (Below (w.heap.size + 1) (w.alloc (.cells #[.slice A0_0 l0_0.length c0_0, .int .i64 a0_1, .int .i64 a0_2, .int .i64 a0_3] 26)) (w1.alloc (.cells #[.string (bys (Col.headLine a0_1 a0_2 a0_3))] 9))) := ⟨HB.out.alloc (by omega) _⟩
 clear hb HTH
 go_wp2
 clear hc0
 have hWe : (w1.alloc (.cells #[.string ⟨(Col.headLine a0_1 a0_2 a0_3).toArray⟩] 9)) = (w1.alloc (.cells #[.string (bys (Col.headLine a0_1 a0_2 a0_3))] 9)) := rfl
 rw [hWe]
 clear hWe
 generalize (w1.alloc (.cells #[.string (bys (Col.headLine a0_1 a0_2 a0_3))] 9)) = W0 at *
 go_loopw [3, 18] (fun v i wr => ∃ j : Nat, j ≤ l0_0.length ∧ i = .int .i64 (j : Int) ∧ Aside0 (Kd.R Kd.string 9 wr (w.heap.size + 1) (fun _ => True) v (Col.rowsTo l0_0 a0_1 a0_2 a0_3 j)) ∧ Aside0 (Below (w.heap.size + 1) (w.alloc (.cells #[.slice A0_0 l0_0.length c0_0, .int .i64 a0_1, .int .i64 a0_2, .int .i64 a0_3] 26)) wr)) (fun _ i _ => l0_0.length - (intOf i).toNat)
 case atStart => exact ⟨0, by omega, rfl, hR0, hBW⟩
 case round =>
  clear hR0 hBW HB hw1
  obtain ⟨j, hj, rfl, HV, HB⟩ := hrel
  have hwr : w.heap.size + 1 ≤ wr.heap.size := by simpa using HB.out.size
  by_cases hlt : j < l0_0.length
  ·obtain ⟨ad, rfl, hcx⟩ := (HL.out.below (below_box HB.out)).at_ j hlt
   have HT2 := Lib.hid (HTR.out j hlt _ (below_box HB.out))
   have HS := Lib.hid (Col.rowsTo_succ a0_1 a0_2 a0_3 hlt)
   have hlen := Col.rowsTo_length l0_0 a0_1 a0_2 a0_3 j
   generalize nth l0_0 j = x at *
   go_wp2_with fail
   refine HT2.out.mono ?_
   rintro e w2 ⟨rfl, hb2⟩
   have HB2 := Aside0.mk (below_step0 HB.out hb2 hwr)
   have HV2 := Aside0.mk (Kd.R_below HV.out hb2)
   have hw2 : w.heap.size + 1 ≤ w2.heap.size := by simpa using HB2.out.size
   clear hb2 HT2 HV HB hcx
   go_wp2_with (at_builtin; refine Kd.R_append Kd.string (w0 := w.alloc (.cells #[.slice (some ad) l0_0.length c0_0, .int .i64 a0_1, .int .i64 a0_2, .int .i64 a0_3] 26)) (w.heap.size + 1) rfl (.tmp 22) (.tmp 26) 112 9 (.string ⟨#[]⟩) 16 rfl Tryz.underlying112 info_str rfl (by decide) (by decide) _ (Col.rowsTo l0_0 a0_1 a0_2 a0_3 j) (bys (Col.rowLine x)) [.string (bys (Col.rowLine x))] (fun _ => True) (fun _ => False) rfl rfl rfl (fun _ h => h.elim) (fun _ _ => trivial) ?hO ?hB ?hb ?hl ?_)
   case hO => exact HV2.out
   case hB => exact HB2.out
   case hb => exact hw2
   case hl => omega
   intro v1 w7 ho hb hg hat
   have HV7 : Aside0 (Kd.R Kd.string 9 w7 (w.heap.size + 1) (fun _ => True) v1 (Col.rowsTo l0_0 a0_1 a0_2 a0_3 (j + 1))) := ⟨by rw [HS.out]; exact ho⟩
   have HB7 := Aside0.mk hb
   clear ho hb hg hat HV2 HB2
   go_wp2
   go_roundw
   case rel => exact ⟨j + 1, by omega, by go_num, HV7, HB7⟩
   case measure => simp [intOf]; omega
  ·have e : j = l0_0.length := by omega
   subst e
   rw [Col.rowsTo_all] at HV
   have hRl := Col.lines_length l0_0 a0_1 a0_2 a0_3
   have hR1 : (Col.lines l0_0 a0_1 a0_2 a0_3).length ≤ 201 := by omega
   have hR0 : 0 < (Col.lines l0_0 a0_1 a0_2 a0_3).length := by omega
   clear hRl
   generalize hRe : Col.lines l0_0 a0_1 a0_2 a0_3 = RL at *
   have HRL := Lib.hid hRe
   clear hRe
   obtain ⟨AV, cV, rfl, hcV, hCV⟩ := Kd.R_reads HV.out
   rw [List.length_map] at hCV hcV HV ⊢
   have HCV := Lib.hid (fun (j : Nat) (hj : j < RL.length) => Kd.at_string hCV (j : Int) (by omega) (by omega))
   have HSB := Lib.hid (fun (i : Nat) (hi : i ≤ 300) => Col.sumTo_bd (rs := RL) (fun r hr => Nat.le_trans (HLN.out r hr) (by decide)) i hi)
   clear HTR HL hCV hlt
   go_wp2
   go_loop [6, 31] (fun c i => ∃ j : Nat, j ≤ RL.length ∧ i = .int .i64 (j : Int) ∧ c = .int .i64 (Col.sumTo RL j)) (fun _ i => RL.length - (intOf i).toNat)
   case atStart => exact ⟨0, by omega, rfl, rfl⟩
   case round =>
    obtain ⟨j, hj, rfl, rfl⟩ := hrel
    by_cases hlt : j < RL.length
    ·obtain ⟨ad, e, hcs⟩ := HCV.out j hlt
     subst e
     rw [Int.toNat_natCast] at hcs
     have hrd : rdOf ByteArray.empty (RL.map bys) (j : Int) = bys (RL.getD j []) := by
      unfold rdOf
      rw [Int.toNat_natCast, List.getD_eq_getElem?_getD, List.getElem?_map, List.getD_eq_getElem?_getD, List.getElem?_eq_getElem hlt]
      rfl
     rw [hrd] at hcs
     have HS := Lib.hid (Col.sumTo_succ RL j)
     have hs0 := HSB.out j (by omega)
     have hrl : (RL.getD j []).length ≤ 27 := by rw [List.getD_eq_getElem?_getD, List.getElem?_eq_getElem hlt]; exact HLN.out _ (List.getElem_mem hlt)
     have HLB := Lib.hid (fun (k : Nat) (hk : k ≤ 100) => Col.lineTo'_bd j (by omega) (RL.getD j []) k hk)
     have HLT := Lib.hid (Col.lineTo'_succ j (RL.getD j []))
     have HLA := Lib.hid (Col.lineTo'_all j (RL.getD j []))
     generalize hr : RL.getD j [] = r at *
     generalize Col.sumTo RL j = S at *
     clear hr hrd
     have hsz : (bys r).size = r.length := Col.bytes_size r
     go_wp2
     go_loop [6, 38] (fun c i => ∃ k : Nat, k ≤ r.length ∧ i = .int .i64 (k : Int) ∧ c = .int .i64 (S + Col.lineTo' j r k)) (fun _ i => r.length - (intOf i).toNat)
     case atStart => exact ⟨0, by omega, rfl, by simp [Col.lineTo']⟩
     case round =>
      obtain ⟨k, hk, rfl, rfl⟩ := hrel
      have hlk := HLB.out k (by omega)
      by_cases hkt : k < r.length
      ·have HW := Lib.hid (fun b => wraps_at b (k := k) (j := j) (S := S + Col.lineTo' j r k) (by omega) (by omega) (by omega) (by omega))
       have HL2 := Lib.hid (HLT.out k)
       go_wp2
       exact ⟨⟨k + 1, by omega, by go_num, by rw [HW.out, Col.byte_at, HL2.out]; congr 1; omega⟩, by simp [intOf]; omega⟩
      ·have e : k = r.length := by omega
       subst e
       rw [HLA.out] at hlk ⊢
       go_wp2
       exact ⟨⟨j + 1, by omega, by go_num, by rw [HS.out]⟩, by simp [intOf]; omega⟩
    ·have e : j = RL.length := by omega
     subst e
     have hs0 := HSB.out RL.length (by omega)
     have HCK := Lib.hid (Col.sumTo_all RL)
     generalize Col.sumTo RL RL.length = S at *
     have ia := Col.itoa_len (n := S % 233 / 100) (by omega)
     have ib := Col.itoa_len (n := S % 233 / 10 % 10) (by omega)
     have ic := Col.itoa_len (n := S % 233 % 10) (by omega)
     have HA := Lib.hid (HIT.out (S % 233 / 100) (by omega) (by omega))
     have HBI := Lib.hid (HIT.out (S % 233 / 10 % 10) (by omega) (by omega))
     have HC := Lib.hid (HIT.out (S % 233 % 10) (by omega) (by omega))
     have q1 : (9223372036854775807 < 4 + (Lib.itoa (S % 233 / 100)).length) = False := eq_false (by omega)
     have q2 : (9223372036854775807 < 4 + (Lib.itoa (S % 233 / 100)).length + (Lib.itoa (S % 233 / 10 % 10)).length) = False := eq_false (by omega)
     have q3 : (9223372036854775807 < 4 + (Lib.itoa (S % 233 / 100)).length + (Lib.itoa (S % 233 / 10 % 10)).length + (Lib.itoa (S % 233 % 10)).length) = False := eq_false (by omega)
     go_wp2_with fail
     refine (HA.out _ (below_box HB.out)).mono ?_
     rintro e w2 ⟨rfl, hb2⟩
     have HB2 := Aside0.mk (below_step0 HB.out hb2 hwr)
     have HV2 := Aside0.mk (Kd.R_below HV.out hb2)
     clear hb2 HA HV HB
     go_wp2_with fail
     refine (HBI.out _ (below_box HB2.out)).mono ?_
     rintro e w3 ⟨rfl, hb3⟩
     have HB3 := Aside0.mk (below_step0 HB2.out hb3 (by simpa using HB2.out.size))
     have HV3 := Aside0.mk (Kd.R_below HV2.out hb3)
     clear hb3 HBI HV2 HB2
     go_wp2_with fail
     refine (HC.out _ (below_box HB3.out)).mono ?_
     rintro e w4 ⟨rfl, hb4⟩
     have HB4 := Aside0.mk (below_step0 HB3.out hb4 (by simpa using HB3.out.size))
     have HV4 := Aside0.mk (Kd.R_below HV3.out hb4)
     clear hb4 HC HV3 HB3
     have hw4 : w.heap.size + 1 ≤ w4.heap.size := by simpa using HB4.out.size
     have hE : ((⟨#[101, 110, 100, 32]⟩ ++ ⟨(Lib.itoa (S % 233 / 100)).toArray⟩ ++ ⟨(Lib.itoa (S % 233 / 10 % 10)).toArray⟩ ++ ⟨(Lib.itoa (S % 233 % 10)).toArray⟩ : ByteArray)) = bys (Col.endLine (S % 233)) := by
      have h4 : (⟨#[101, 110, 100, 32]⟩ : ByteArray) = ⟨([101, 110, 100, 32] : List UInt8).toArray⟩ := rfl
      rw [h4, Col.bytes_append, Col.bytes_append, Col.bytes_append]
      rfl
     have HE := Lib.hid hE
     have heL : (Col.endLine (S % 233)).length ≤ 27 := by
      unfold Col.endLine
      simp only [List.length_append, List.length_cons, List.length_nil]
      omega
     have HEL := Lib.hid heL
     clear hE heL
     go_wp2_with (at_builtin; refine Kd.R_append Kd.string (w0 := w.alloc (.cells #[.slice A0_0 l0_0.length c0_0, .int .i64 a0_1, .int .i64 a0_2, .int .i64 a0_3] 26)) (w.heap.size + 1) rfl (.tmp 57) (.tmp 71) 112 9 (.string ⟨#[]⟩) 16 rfl Tryz.underlying112 info_str rfl (by decide) (by decide) _ (RL.map bys) (bys (Col.endLine (S % 233))) _ (fun _ => True) (fun _ => False) rfl rfl ?hp2 (fun _ h => h.elim) (fun _ _ => trivial) ?hO2 ?hB2 ?hb2 ?hl2 ?_)
     case hp2 => rw [HE.out]; rfl
     case hO2 => exact HV4.out
     case hB2 => exact HB4.out
     case hb2 => exact hw4
     case hl2 => rw [List.length_map]; omega
     intro v8 w8 ho hb hg hat
     have HB8 := Aside0.mk hb
     have hRS : RL.map bys ++ [bys (Col.endLine (S % 233))] = (RL ++ [Col.endLine (S % 233)]).map bys := by simp
     rw [hRS] at ho
     have HLE : Hid (∀ r ∈ RL ++ [Col.endLine (S % 233)], r.length ≤ 27) := Lib.hid (by
      intro r hr
      rcases List.mem_append.1 hr with hr | hr
      ·exact HLN.out r hr
      ·rw [List.mem_singleton.1 hr]; exact HEL.out)
     have HQ : Hid (RL ++ [Col.endLine (S % 233)] = RL ++ [Col.endLine (Col.checkOf RL)]) := Lib.hid (by rw [HCK.out])
     have hTL : (RL ++ [Col.endLine (S % 233)]).length = RL.length + 1 := by simp
     generalize RL ++ [Col.endLine (S % 233)] = TL at *
     have hml : (TL.map bys).length = RL.length + 1 := by rw [List.length_map]; exact hTL
     obtain ⟨inner, hown⟩ := Kd.R_own ho
     obtain ⟨g, cap, hge, hgb, hgl⟩ := World.ownsRow.form hown (by omega)
     obtain ⟨AR, cR, hAR, hcR, hCR⟩ := Kd.R_reads ho
     rw [hge] at hAR
     injection hAR with hA1 hA3 hA2
     subst hA1 hA2 hge
     have hbm : (TL.map bys).map (·.data.toList) = TL := by
      rw [List.map_map]
      conv => rhs; rw [← List.map_id TL]
      apply List.map_congr_left
      intro r _
      exact Col.bytes_list r
     have hjl : (Lib.join TL [10]).length ≤ 28 * 202 := Nat.le_trans (Col.join_len TL 27 HLE.out) (by rw [hTL]; omega)
     have HJ := Lib.hid (Tryz.strings_Join g 0 cap (TL.map bys) ⟨#[10]⟩ w8 (fun j x hx => by
      have hj := (List.getElem?_eq_some_iff.1 hx).1
      obtain ⟨ad, e, hc⟩ := Kd.at_string hCR (j : Int) (by omega) (by omega)
      cases e
      rw [Int.toNat_natCast, Addr.add_lit] at hc
      rw [hc]
      unfold rdOf
      rw [Int.toNat_natCast, List.getD_eq_getElem?_getD, hx]
      rfl) hgl (by omega) hcR (by
       rw [hbm]
       exact Nat.le_trans hjl (by decide)))
     rw [hbm, hml] at HJ
     rw [hml] at ho hCR hcR hown ⊢
     have hjs : (9223372036854775807 < (Lib.join TL [10]).length + 1) = False := eq_false (by omega)
     have HEnd := Lib.hid (show (⟨(Lib.join TL [10]).toArray⟩ : ByteArray) ++ ⟨#[10]⟩ = bys (Lib.join TL [10] ++ [10]) from Col.bytes_append _ [10])
     clear hbm hown inner hCR hcR ho hat hg HIT HEL ia ib ic q1 q2 q3 hw4 HB4 HV4 HSB HCV
     go_wp2_with fail
     refine HJ.out.mono ?_
     rintro e w9 ⟨rfl, hb9⟩
     have HB9 := Aside0.mk (below_step0 HB8.out hb9 (by simpa using HB8.out.size))
     clear hb9 HJ HB8
     have hJL := Lib.hid hjl
     go_wp2
     rw [HEnd.out, HQ.out, ← HRL.out]
     go_ret
     exact ⟨rfl, below_box HB9.out⟩
end Go.Proofs.YtohlmoppcmjknaaGreatDoor.P
end
