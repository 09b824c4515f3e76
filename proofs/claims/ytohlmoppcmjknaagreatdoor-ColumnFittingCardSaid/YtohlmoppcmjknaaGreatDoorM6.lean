/- Contracts of the program's functions, and the words that their proofs take (joined out of several texts). -/
import Derived.Defers
import Derived.Recover
import Derived.Laws.Pointers
import Derived.Laws.EntriesVeiled
import Derived.Test.YtohlmoppcmjknaaGreatDoorM2
import Derived.Test.YtohlmoppcmjknaaGreatDoorM3
import Derived.Test.YtohlmoppcmjknaaGreatDoorM4
import Derived.Test.YtohlmoppcmjknaaGreatDoorM5
section
namespace Go.Proofs.YtohlmoppcmjknaaGreatDoor.X
open Go.RowKit Go.Proofs.YtohlmoppcmjknaaGreatDoorW.PrintWords Go.Proofs.YtohlmoppcmjknaaGreatDoorW.PrintLast Go.Proofs.YtohlmoppcmjknaaGreatDoorW.PrintMore
set_option linter.unusedVariables false
set_option linter.unusedSimpArgs false
set_option maxRecDepth 100000 in
theorem catch_idle (p : Addr) (w : World) :
  CallsD Tryz.prog 104 #[.pointer (some p)] .returning w fun e u' w' => e = .returned (.tuple #[]) ∧ u' = .returning ∧ w' = w := by
 refine callsD_of_wpS Tryz.func104 rfl fun c₀ cs hu => ?_
 apply wpS_seq
 apply wpS_region
 simp [wpOpsS, go_sem, recoverD, hu, Tryz.ntmps104, Exit.thenS]
 have hq : ∀ W, (binOp BinOp.eql 20 .nilIface .nilIface).run Tryz.prog W = .ok (.bool true) W := fun _ => by kernel_rfl
 refine wpS_of_wp ?_
 go_wp2
 cases c₀
 simp_all [bodyPostS, results, Tryz.results104]
set_option maxRecDepth 100000 in
theorem catch_jump (b : Nat) (x i : Int) (w : World) (hb : w.heap[b]? = some (.cells #[.int .i64 x] 30 (0, 0))) :
  CallsD Tryz.prog 104 #[.pointer (some ⟨b, 0, none⟩)] (.panicking [{ v := .iface 129 (.agg #[.int .i64 i]), recovered := false }]) w fun e u' w' =>
   e = .returned (.tuple #[]) ∧ u' = .panicking [{ v := .iface 129 (.agg #[.int .i64 i]), recovered := true }] ∧ w' = (w.setCell ⟨b, 0, none⟩ (.int .i64 7)).alloc (.cells #[.int .i64 i] 129) := by
 refine callsD_of_wpS Tryz.func104 rfl fun c₀ cs hu => ?_
 apply wpS_seq
 apply wpS_region
 simp [wpOpsS, go_sem, recoverD, hu, Tryz.ntmps104, Exit.thenS]
 have hq : ∀ W, (binOp BinOp.eql 20 (.iface 129 (.agg #[.int .i64 i])) .nilIface).run Tryz.prog W = .ok (.bool false) W := fun _ => by kernel_rfl
 have hc := (blk_cell hb 0).trans rfl
 have hf := blk_frozen hb 0
 have hlt : b < w.heap.size := (Array.getElem?_eq_some_iff.1 hb).1
 have hta : ∀ W, (Instr.typeAssert (.iface 129 (.agg #[.int .i64 i])) 20 129 true).run Tryz.prog W = .ok (.tuple #[.agg #[.int .i64 i], .bool true]) W := fun _ => by kernel_rfl
 refine wpS_of_wp ?_
 simp only [Array.replicate_succ, Array.replicate_zero]
 go_wp2
 cases c₀
 simp_all [bodyPostS, results, Tryz.results104]
set_option maxRecDepth 100000 in
theorem catch_text (b : Nat) (x : Int) (s : ByteArray) (w : World) (hb : w.heap[b]? = some (.cells #[.int .i64 x] 30 (0, 0))) :
  CallsD Tryz.prog 104 #[.pointer (some ⟨b, 0, none⟩)] (.panicking [{ v := .iface 131 (.agg #[.string s]), recovered := false }]) w fun e u' w' =>
   e = .returned (.tuple #[]) ∧ u' = .panicking [{ v := .iface 131 (.agg #[.string s]), recovered := true }] ∧ w' = (w.setCell ⟨b, 0, none⟩ (.int .i64 4)).alloc (.cells #[.string s] 131) := by
 refine callsD_of_wpS Tryz.func104 rfl fun c₀ cs hu => ?_
 apply wpS_seq
 apply wpS_region
 simp [wpOpsS, go_sem, recoverD, hu, Tryz.ntmps104, Exit.thenS]
 have hq : ∀ W, (binOp BinOp.eql 20 (.iface 131 (.agg #[.string s])) .nilIface).run Tryz.prog W = .ok (.bool false) W := fun _ => by kernel_rfl
 have hc := (blk_cell hb 0).trans rfl
 have hf := blk_frozen hb 0
 have hlt : b < w.heap.size := (Array.getElem?_eq_some_iff.1 hb).1
 have hta : ∀ W, (Instr.typeAssert (.iface 131 (.agg #[.string s])) 20 129 true).run Tryz.prog W = .ok (.tuple #[.agg #[.int .i64 0], .bool false]) W := fun _ => by kernel_rfl
 have htb : ∀ W, (Instr.typeAssert (.iface 131 (.agg #[.string s])) 20 131 true).run Tryz.prog W = .ok (.tuple #[.agg #[.string s], .bool true]) W := fun _ => by kernel_rfl
 refine wpS_of_wp ?_
 simp only [Array.replicate_succ, Array.replicate_zero]
 go_wp2
 cases c₀
 simp_all [bodyPostS, results, Tryz.results104]
set_option maxRecDepth 100000 in

theorem attempt_ok (g : Nat) (first cap : Array Value) (eg : ∀ (args : Array Value) (W : World), (callFunc g args).run Tryz.prog W = .ok (.enter g args) W) (P : World → Prop) (w : World)
  (H : Calls Tryz.prog g (first ++ cap) (w.alloc (.cells #[.int .i64 0] 30)) fun e W => (∃ v, e = .returned v) ∧ W.heap[w.heap.size]? = some (.cells #[.int .i64 0] 30 (0, 0)) ∧ P (W.setCell ⟨w.heap.size, 0, none⟩ (.int .i64 0))) :
  Calls Tryz.prog 74 #[.func (.func g) first cap] w fun e w' => e = .returned (.int .i64 0) ∧ P w' := by
 have hmf : ∀ (fn : Fn) (first cap : Array Value) (w : World), (Instr.makeFunc fn first cap).run Tryz.prog w = .ok (.func fn first cap) w := fun _ _ _ _ => rfl
 have HH := Lib.hid H
 clear H
 go_enter_defers Tryz.func74, Tryz.ntmps74
 go_wp2_with fail
 refine HH.out.mono ?_
 rintro e W ⟨⟨v, rfl⟩, hb, hP⟩
 have hc := (blk_cell hb 0).trans rfl
 have hf := blk_frozen hb 0
 have hcs := (blk_cell (blk_put hb 0 (.int .i64 0) rfl) 0).trans rfl
 have HP := Aside0.mk hP
 clear hP HH
 go_wp2
 refine leaves_cons (f := 104) (args := #[.pointer (some ⟨w.heap.size, 0, none⟩)]) (by simp) (by simp [go_sem]) ?_
 refine (catch_idle ⟨w.heap.size, 0, none⟩ _).mono ?_
 rintro e u' w'' ⟨rfl, rfl, rfl⟩
 have hP := HP.out
 simp [Leaves, settle, results, Tryz.results74, go_sem, hcs, hP]
set_option maxRecDepth 100000 in

theorem attempt_jump (g : Nat) (first cap : Array Value) (eg : ∀ (args : Array Value) (W : World), (callFunc g args).run Tryz.prog W = .ok (.enter g args) W) (P : World → Prop) (w : World)
  (H : Calls Tryz.prog g (first ++ cap) (w.alloc (.cells #[.int .i64 0] 30)) fun e W => ∃ i : Int, e = .panicked [{ v := .iface 129 (.agg #[.int .i64 i]), recovered := false }] ∧ W.heap[w.heap.size]? = some (.cells #[.int .i64 0] 30 (0, 0)) ∧ P ((W.setCell ⟨w.heap.size, 0, none⟩ (.int .i64 7)).alloc (.cells #[.int .i64 i] 129))) :
  Calls Tryz.prog 74 #[.func (.func g) first cap] w fun e w' => e = .returned (.int .i64 7) ∧ P w' := by
 have hmf : ∀ (fn : Fn) (first cap : Array Value) (w : World), (Instr.makeFunc fn first cap).run Tryz.prog w = .ok (.func fn first cap) w := fun _ _ _ _ => rfl
 have HH := Lib.hid H
 clear H
 go_enter_defers Tryz.func74, Tryz.ntmps74
 go_wp2_with fail
 refine HH.out.mono ?_
 rintro e W ⟨i, rfl, hb, hP⟩
 have hcs := (blk_cell (blk_alloc (blk_put hb 0 (.int .i64 7) rfl) (.cells #[.int .i64 i] 129)) 0).trans rfl
 have HP := Aside0.mk hP
 clear hP HH
 go_wp2
 refine leaves_cons (f := 104) (args := #[.pointer (some ⟨w.heap.size, 0, none⟩)]) (by simp) (by simp [go_sem]) ?_
 refine (catch_jump w.heap.size 0 i _ hb).mono ?_
 rintro e u' w'' ⟨rfl, rfl, rfl⟩
 have hP := HP.out
 simp [Leaves, settle, results, Tryz.results74, go_sem, hcs, hP]
set_option maxRecDepth 100000 in

theorem attempt_text (g : Nat) (first cap : Array Value) (eg : ∀ (args : Array Value) (W : World), (callFunc g args).run Tryz.prog W = .ok (.enter g args) W) (P : World → Prop) (w : World)
  (H : Calls Tryz.prog g (first ++ cap) (w.alloc (.cells #[.int .i64 0] 30)) fun e W => ∃ s : ByteArray, e = .panicked [{ v := .iface 131 (.agg #[.string s]), recovered := false }] ∧ W.heap[w.heap.size]? = some (.cells #[.int .i64 0] 30 (0, 0)) ∧ P ((W.setCell ⟨w.heap.size, 0, none⟩ (.int .i64 4)).alloc (.cells #[.string s] 131))) :
  Calls Tryz.prog 74 #[.func (.func g) first cap] w fun e w' => e = .returned (.int .i64 4) ∧ P w' := by
 have hmf : ∀ (fn : Fn) (first cap : Array Value) (w : World), (Instr.makeFunc fn first cap).run Tryz.prog w = .ok (.func fn first cap) w := fun _ _ _ _ => rfl
 have HH := Lib.hid H
 clear H
 go_enter_defers Tryz.func74, Tryz.ntmps74
 go_wp2_with fail
 refine HH.out.mono ?_
 rintro e W ⟨s, rfl, hb, hP⟩
 have hcs := (blk_cell (blk_alloc (blk_put hb 0 (.int .i64 4) rfl) (.cells #[.string s] 131)) 0).trans rfl
 have HP := Aside0.mk hP
 clear hP HH
 go_wp2
 refine leaves_cons (f := 104) (args := #[.pointer (some ⟨w.heap.size, 0, none⟩)]) (by simp) (by simp [go_sem]) ?_
 refine (catch_text w.heap.size 0 s _ hb).mono ?_
 rintro e u' w'' ⟨rfl, rfl, rfl⟩
 have hP := HP.out
 simp [Leaves, settle, results, Tryz.results74, go_sem, hcs, hP]
end Go.Proofs.YtohlmoppcmjknaaGreatDoor.X
end
section
namespace Go.Proofs.YtohlmoppcmjknaaGreatDoor.X
open Go.RowKit Go.Proofs.YtohlmoppcmjknaaGreatDoorW.PrintWords Go.Proofs.YtohlmoppcmjknaaGreatDoorW.PrintLast Go.Proofs.YtohlmoppcmjknaaGreatDoorW.PrintMore
set_option linter.unusedVariables false
set_option linter.unusedSimpArgs false
theorem jumping_none {ws : List Int} {lo hi : Int} (h : ∀ j, j < ws.length → Col.jumpsAt ws lo hi j = false) : Col.jumping ws lo hi = [] := by
 unfold Col.jumping
 rw [List.map_eq_nil_iff, List.filter_eq_nil_iff]
 intro x hx
 rw [h x (List.mem_range.1 hx)]
 decide
theorem jumping_some {ws : List Int} {lo hi : Int} {k : Nat} (hk : k < ws.length) (h : Col.jumpsAt ws lo hi k = true) : Col.jumping ws lo hi ≠ [] := by
 unfold Col.jumping
 rw [Ne, List.map_eq_nil_iff, List.filter_eq_nil_iff]
 intro hc
 exact hc k (List.mem_range.2 hk) h
def mustEnd (ws : List Int) (lo hi : Int) (e : Ending) : Prop :=
 ((∃ v, e = .returned v) ∧ Col.jumping ws lo hi = []) ∨ ∃ i : Int, e = .panicked [{ v := .iface 129 (.agg #[.int .i64 i]), recovered := false }] ∧ Col.jumping ws lo hi ≠ []
set_option maxHeartbeats 2000000 in
set_option maxRecDepth 100000 in
theorem mustRun_calls (A : Option Addr) (n c : Nat) (o lo hi : Int) (AW : Option Addr) (cw b : Nat) (ws : List Int) (hl : ws.length ≤ 1000) (w : World) (hw : CI w AW ws) :
  Calls Tryz.prog 123 #[shV A n c o lo hi AW ws.length cw b] w fun e w' => mustEnd ws lo hi e ∧ Below w.heap.size w w' := by
 have HW := Aside0.mk hw
 clear hw
 go_enter Tryz.func123, Tryz.ntmps123
 go_wp2
 go_loopw [6] (fun i wr => ∃ k : Nat, k ≤ ws.length ∧ i = .int .i64 (k : Int) ∧ Aside0 (∀ j, j < k → Col.jumpsAt ws lo hi j = false) ∧ Aside0 (Below (w.heap.size + 1) (w.alloc (.cells #[.slice A n c, .int .i64 o, .int .i64 lo, .int .i64 hi, .slice AW ws.length cw, .map (some b)] 90)) wr)) (fun i _ => ws.length - (intOf i).toNat)
 case atStart => exact ⟨0, by omega, rfl, ⟨fun j hj => by omega⟩, ⟨Below.refl _ _⟩⟩
 case round =>
  obtain ⟨k, hk, rfl, HN, HB⟩ := hrel
  have hc0 := box_cell HB.out 0 rfl
  have hc1 := box_cell HB.out 1 rfl
  have hc2 := box_cell HB.out 2 rfl
  have hc3 := box_cell HB.out 3 rfl
  have hc4 := box_cell HB.out 4 rfl
  have hc5 := box_cell HB.out 5 rfl
  by_cases hlt : k < ws.length
  ·have HJ := Lib.hid (jumps_calls A n c o lo hi AW cw b ws k hlt)
   cases hx : Col.jumpsAt ws lo hi k with
   | true =>
    rw [hx] at HJ
    have HX := Lib.hid (jumping_some hlt hx)
    clear hx
    go_wp2_with fail
    refine (HJ.out _ (HW.out.below (below_box HB.out))).mono ?_
    rintro e w' ⟨rfl, hb⟩
    have HB' := Aside0.mk (below_thru HB.out hb)
    clear HB hb hc0 hc1 hc2 hc3 hc4 hc5
    go_wp2
    exact ⟨rfl, .inr ⟨_, rfl, HX.out⟩, below_box HB'.out⟩
   | false =>
    rw [hx] at HJ
    have HX := Lib.hid hx
    clear hx
    go_wp2_with fail
    refine (HJ.out _ (HW.out.below (below_box HB.out))).mono ?_
    rintro e w' ⟨rfl, hb⟩
    have HB' := Aside0.mk (below_thru HB.out hb)
    clear HB hb hc0 hc1 hc2 hc3 hc4 hc5
    go_wp2
    go_roundw
    case rel => exact ⟨k + 1, by omega, by go_num, ⟨fun j hj => by
     by_cases e : j = k
     ·rw [e]; exact HX.out
     ·exact HN.out j (by omega)⟩, HB'⟩
    case measure => simp [intOf]; omega
  ·have HX := Lib.hid (jumping_none (ws := ws) (lo := lo) (hi := hi) (fun j hj => HN.out j (by omega)))
   clear hc0 hc1 hc2 hc3 hc4 hc5
   go_wp2
   go_end0
   exact ⟨.inl ⟨⟨_, rfl⟩, HX.out⟩, below_box HB.out⟩
end Go.Proofs.YtohlmoppcmjknaaGreatDoor.X
namespace Go.Proofs.YtohlmoppcmjknaaGreatDoor.P
open Go.RowKit Go.Proofs.YtohlmoppcmjknaaGreatDoorW.PrintWords Go.Proofs.YtohlmoppcmjknaaGreatDoorW.PrintLast Go.Proofs.YtohlmoppcmjknaaGreatDoorW.PrintMore Go.Proofs.YtohlmoppcmjknaaGreatDoor.X
set_option linter.unusedVariables false
set_option linter.unusedSimpArgs false
set_option maxRecDepth 100000 in
theorem attempt_must (A : Option Addr) (n c : Nat) (o lo hi : Int) (AW : Option Addr) (cw b : Nat) (ws : List Int) (hl : ws.length ≤ 1000) (w : World) (hw : CI w AW ws) :
  Calls Tryz.prog 74 #[.func (.func 123) #[shV A n c o lo hi AW ws.length cw b] #[]] w fun e w' => e = .returned (.int .i64 (if (Col.jumping ws lo hi).isEmpty = true then 0 else 7)) ∧ Below w.heap.size w w' := by
 have eg : ∀ (args : Array Value) (W : World), (callFunc 123 args).run Tryz.prog W = .ok (.enter 123 args) W := fun args W => by kernel_rfl
 have h0 : Below w.heap.size w (w.alloc (.cells #[.int .i64 0] 30)) := (Below.refl _ _).alloc (Nat.le_refl _) _
 have hm := mustRun_calls A n c o lo hi AW cw b ws hl (w.alloc (.cells #[.int .i64 0] 30)) (hw.below h0)
 have hbx : ∀ W, Below (w.alloc (.cells #[.int .i64 0] 30)).heap.size (w.alloc (.cells #[.int .i64 0] 30)) W → W.heap[w.heap.size]? = some (.cells #[.int .i64 0] 30 (0, 0)) := fun W hb => (hb.block w.heap.size (by simp)).trans (blk_new w _)
 cases hj : Col.jumping ws lo hi with
 | nil =>
  refine attempt_ok _ _ _ eg (fun w' => Below w.heap.size w w') w (hm.mono ?_)
  rintro e W ⟨⟨hv, _⟩ | ⟨i, _, hne⟩, hb⟩
  ·exact ⟨hv, hbx W hb, (below_step h0 hb).setCell (p := ⟨w.heap.size, 0, none⟩) (Nat.le_refl _) _⟩
  ·exact absurd hj hne
 | cons x xs =>
  refine attempt_jump _ _ _ eg (fun w' => Below w.heap.size w w') w (hm.mono ?_)
  rintro e W ⟨⟨_, he⟩ | ⟨i, he, _⟩, hb⟩
  ·rw [hj] at he
   cases he
  ·have hB := (below_step h0 hb).setCell (p := ⟨w.heap.size, 0, none⟩) (Nat.le_refl _) (.int .i64 7)
   exact ⟨i, he, hbx W hb, hB.alloc hB.size _⟩
set_option maxHeartbeats 2000000 in
set_option maxRecDepth 100000 in
theorem column_runs.calls (A0_0 : Option Addr) (c0_0 : Nat) (l0_0 : List Int) (a0_1 : Int) (a0_2 : Int) (a0_3 : Int) (r : Bool) (w : World) (hr0_0 : Kd.C (Kd.int .i64) w A0_0 l0_0.length l0_0) (hc0_0 : l0_0.length ≤ c0_0) (h : column_runs.f l0_0 a0_1 a0_2 a0_3 = some r) :
  Calls Tryz.prog 87 #[.agg #[.slice A0_0 l0_0.length c0_0, .int .i64 a0_1, .int .i64 a0_2, .int .i64 a0_3]] w fun e w' => e = .returned (.bool r) ∧ Below w.heap.size w w' := by
 have hr : Col.fruns l0_0 a0_1 a0_2 a0_3 = some r := h
 unfold Col.fruns at hr
 by_cases hs : Col.small l0_0 a0_1 a0_2 a0_3 = true
 ·rw [if_pos hs] at hr
  obtain rfl := Option.some.inj hr
  obtain ⟨l1, l15, _⟩ := small_parts hs
  have hwl : (Col.wins l0_0 a0_1).length ≤ 1000 := Nat.le_trans (wins_length_le _ _) (by omega)
  have HO := Lib.hid (fun W (hb : Below w.heap.size w W) => sheetOf_calls A0_0 c0_0 l0_0 a0_1 a0_2 a0_3 W (CI.below hr0_0 hb) hc0_0 hs)
  have HM := Lib.hid (fun W AW cw b hw => attempt_must A0_0 l0_0.length c0_0 a0_1 a0_2 a0_3 AW cw b (Col.wins l0_0 a0_1) hwl W hw)
  have he : Col.runs l0_0 a0_1 a0_2 a0_3 = (Col.jumping (Col.wins l0_0 a0_1) a0_2 a0_3).isEmpty := rfl
  rw [he]
  have hmf : ∀ (fn : Fn) (first cap : Array Value) (w : World), (Instr.makeFunc fn first cap).run Tryz.prog w = .ok (.func fn first cap) w := fun _ _ _ _ => rfl
  clear hr h hs hr0_0 hc0_0 l1 l15 hwl he
  generalize (Col.jumping (Col.wins l0_0 a0_1) a0_2 a0_3).isEmpty = bb at *
  generalize Col.wins l0_0 a0_1 = ws at *
  go_enter Tryz.func87, Tryz.ntmps87
  go_wp2_with fail
  refine (HO.out _ ((Below.refl _ _).alloc (Nat.le_refl _) _)).mono ?_
  rintro e w2 ⟨AW, cw, b, rfl, hci, hmet, hcw, hb⟩
  have HB2 := Aside0.mk (below_step ((Below.refl w.heap.size w).alloc (Nat.le_refl _) _) hb)
  have HM2 := Lib.hid (HM.out w2 AW cw b hci)
  clear HO hb hci hmet hcw HM
  go_wp2_with fail
  refine HM2.out.mono ?_
  rintro e w3 ⟨rfl, hb⟩
  have HB3 := Aside0.mk (below_step HB2.out hb)
  clear hb HM2 HB2
  cases bb
  ·go_wp2
   go_ret
   exact ⟨rfl, HB3.out⟩
  ·go_wp2
   go_ret
   exact ⟨rfl, HB3.out⟩
 ·rw [if_neg hs] at hr
  cases hr
end Go.Proofs.YtohlmoppcmjknaaGreatDoor.P
end
section
namespace Go.Proofs.YtohlmoppcmjknaaGreatDoor.P
open Go.RowKit Go.Proofs.YtohlmoppcmjknaaGreatDoorW.PrintWords Go.Proofs.YtohlmoppcmjknaaGreatDoorW.PrintLast Go.Proofs.YtohlmoppcmjknaaGreatDoorW.PrintMore
attribute [local go_sem] max2_int min2_int max_two min_two max_three min_three max_four min_four
set_option linter.unusedVariables false
set_option linter.unusedSimpArgs false
def column_fixes.l0 : Nat → List (S70) → Int → Int → List Int → Int → Int → Int → Option ((List (S70)))
 | 0, _, _, _, _, _, _, _ => none
 | k + 1, x3, x8, x9, x366000, x366001, x366002, x366003 => if x9 < x8 then ((column_between.f x366000 x366001 x366002 x366003 x9).bind fun bt366 => (if bt366.1 ≤ bt366.2 then ((column_with.f x366000 x366001 x366002 x366003 x9 bt366.1).bind fun bt369 => ((column_runs.f bt369.1 bt369.2.1 bt369.2.2.1 bt369.2.2.2).bind fun t375 => (if t375 = true then (if x3.length < 5864062014805 then (column_fixes.l0 k (x3 ++ [(⟨x9, (⟨bt366.1, bt366.2⟩ : S24)⟩ : S70)]) x8 (wrap64 (x9 + 1)) x366000 x366001 x366002 x366003) else (none)) else (column_fixes.l0 k x3 x8 (wrap64 (x9 + 1)) x366000 x366001 x366002 x366003)))) else (column_fixes.l0 k x3 x8 (wrap64 (x9 + 1)) x366000 x366001 x366002 x366003))) else (some x3)
def column_fixes.f (k : Nat) (l0_0 : List Int) (a0_1 : Int) (a0_2 : Int) (a0_3 : Int) : Option ((List (S70))) := column_fixes.l0 k ([] : List (S70)) (l0_0.length : Int) 0 l0_0 a0_1 a0_2 a0_3
theorem column_fixes.mono_l : ∀ k, (∀ y0 y1 y2 y3 y4 y5 y6, LeO (column_fixes.l0 k y0 y1 y2 y3 y4 y5 y6) (column_fixes.l0 (k + 1) y0 y1 y2 y3 y4 y5 y6))
 | 0 => fun _ _ _ _ _ _ _ r h => by simp [column_fixes.l0] at h
 | k + 1 => by
  have ih0 := column_fixes.mono_l k
  ·intro y0 y1 y2 y3 y4 y5 y6
   unfold column_fixes.l0
   repeat' first
   | (with_reducible exact ih0 _ _ _ _ _ _ _)
   | (with_reducible exact LeO.refl _)
   | (with_reducible exact LeO.none _)
   | (with_reducible refine LeO.ite ?_ ?_)
   | (with_reducible refine LeO.bind ?_ (fun _ => ?_))
   | exact ih0 _ _ _ _ _ _ _
   | exact LeO.none _
   | refine LeO.ite ?_ ?_
   | refine LeO.bind ?_ (fun _ => ?_)
theorem column_fixes.mono : ∀ a0 a1 a2 a3 k, LeO (column_fixes.f k a0 a1 a2 a3) (column_fixes.f (k + 1) a0 a1 a2 a3) := by
 intro a0 a1 a2 a3 k
 have ih0 := column_fixes.mono_l k
 unfold column_fixes.f
 repeat' first
   | (with_reducible exact ih0 _ _ _ _ _ _ _)
   | (with_reducible exact LeO.refl _)
   | (with_reducible exact LeO.none _)
   | (with_reducible refine LeO.ite ?_ ?_)
   | (with_reducible refine LeO.bind ?_ (fun _ => ?_))
   | exact ih0 _ _ _ _ _ _ _
   | exact LeO.none _
   | refine LeO.ite ?_ ?_
   | refine LeO.bind ?_ (fun _ => ?_)
set_option maxHeartbeats 8000000 in
set_option maxRecDepth 100000 in
theorem column_fixes.calls (k : Nat) (A0_0 : Option Addr) (c0_0 : Nat) (l0_0 : List Int) (a0_1 : Int) (a0_2 : Int) (a0_3 : Int) (r : List (S70)) (w : World) (hr0_0 : Kd.C (Kd.int .i64) w A0_0 l0_0.length l0_0) (hc0_0 : l0_0.length ≤ c0_0) (h : column_fixes.f k l0_0 a0_1 a0_2 a0_3 = some r) :
  Calls Tryz.prog 84 #[.agg #[.slice A0_0 l0_0.length c0_0, .int .i64 a0_1, .int .i64 a0_2, .int .i64 a0_3]] w fun e w' => ∃ v0_ : Value, e = .returned (v0_) ∧ Kd.R k70 70 w' w.heap.size (fun _ => True) v0_ r ∧ Below w.heap.size w w' := by
 have hu26 := Tryz.underlying26
 have hu24 := Tryz.underlying24
 have hu70 := Tryz.underlying70
 have HR0_0 := Aside0.mk hr0_0
 have HC0_0 := Aside0.mk hc0_0
 clear hr0_0 hc0_0
 have HB := Aside0.mk (Below.refl w.heap.size w)
 have H : (column_fixes.l0 k ([] : List (S70)) (l0_0.length : Int) 0 l0_0 a0_1 a0_2 a0_3) = some r := h
 clear h
 have H' := Aside0.mk H
 clear H
 go_enter Tryz.func84, Tryz.ntmps84
 go_wp2_with (first | ((with_reducible refine gate_dst (N := 1) rfl ?_); refine box_event ?hg (N := 1) ?hd (cs := #[.slice A0_0 l0_0.length c0_0, .int .i64 a0_1, .int .i64 a0_2, .int .i64 a0_3]) (t := 26) ?hr ?_; (case hd => rfl); (case hg => rfl); (case hr => first | (go_simp; done) | (go_simp; rfl)); intro gb365 hg w2 hbox hb; have n0_ := Aside0.mk (below_step (wup HB.out) hb); have n1_ := Aside0.mk (hbox); have n2_ := Aside0.mk ((by rw [hg]; exact (below_size (wup HB.out)) : w.heap.size ≤ gb365)); have n3_ := Aside0.mk ((by rw [hg]; exact (below_size (wup HB.out)) : w.heap.size ≤ gb365)); clear HB; have HB := n0_; have BK365 := n1_; have GW365 := n2_; have GE365 := n3_; clear n0_ n1_ n2_ n3_; clear hb hbox hg; have hcz3_0 : w2.cell? ⟨gb365, 0, none⟩ = some (.slice A0_0 l0_0.length c0_0) := (blk_cell BK365.out 0).trans rfl; have hcz3_1 : w2.cell? ⟨gb365, 1, none⟩ = some (.int .i64 a0_1) := (blk_cell BK365.out 1).trans rfl; have hcz3_2 : w2.cell? ⟨gb365, 2, none⟩ = some (.int .i64 a0_2) := (blk_cell BK365.out 2).trans rfl; have hcz3_3 : w2.cell? ⟨gb365, 3, none⟩ = some (.int .i64 a0_3) := (blk_cell BK365.out 3).trans rfl; have hfz3_0 := blk_frozen BK365.out 0; have hfz3_1 := blk_frozen BK365.out 1; have hfz3_2 := blk_frozen BK365.out 2; have hfz3_3 := blk_frozen BK365.out 3))
 go_loopg [3, 9] k (fun kq v3 v9 w' => ∃ (x3_1 : List (S70)) (x9_1 : Int), v9 = .int .i64 x9_1 ∧ Aside0 (column_fixes.l0 kq x3_1 (l0_0.length : Int) x9_1 l0_0 a0_1 a0_2 a0_3 = some r) ∧ Aside0 (kq ≤ k) ∧ Aside0 (Kd.R k70 70 w' w.heap.size (fun _ => True) v3 x3_1) ∧ Aside0 (w'.heap[gb365]? = some (.cells #[(.slice A0_0 l0_0.length c0_0), .int .i64 a0_1, .int .i64 a0_2, .int .i64 a0_3] 26 (0, 0))) ∧ Aside0 (Below w.heap.size w w'))
 case atStart => exact ⟨(([] : List (S70))), (0), (by first | rfl | (simp; done) | (simp [*]; done)), H', ⟨Nat.le_refl _⟩, ⟨by first | exact Kd.R_nil _ _ _ _ _ | exact Kd.N_nil _ _ _ _ _ | exact Kd.V_nil _ _ _ _ _ | exact Kd.Q_nil _ _ _ _ _ | exact Kd.S_nil _ _ _ _ _⟩, ⟨bup BK365.out⟩, ⟨by repeat (first | (with_reducible first | exact HB.out | apply below_alloc | apply pw_below_drewN | apply below_drew1 | refine below_set ?_ GE365.out) | exact HB.out)⟩⟩
 case round =>
  clear H'
  obtain ⟨x3_1, x9_1, rfl, HA, HK1, HO_3, BK365, HB⟩ := hrel
  cases gk with
  | zero => exact absurd HA.out (by simp [column_fixes.l0])
  | succ k1 =>
   have H := HA.out
   clear HA
   simp only [column_fixes.l0] at H
   by_cases c4 : x9_1 < (l0_0.length : Int)
   ·rw [if_pos c4] at H
    have c4b0 : decide (x9_1 < (l0_0.length : Int)) = true := decide_eq_true c4
    clear c4
    replace H := Option.bind_eq_some_iff.mp H
    obtain ⟨⟨t366, t367⟩, A50, H⟩ := H
    replace H : (if t366 ≤ t367 then ((column_with.f l0_0 a0_1 a0_2 a0_3 x9_1 t366).bind fun bt369 => ((column_runs.f bt369.1 bt369.2.1 bt369.2.2.1 bt369.2.2.2).bind fun t375 => (if t375 = true then (if x3_1.length < 5864062014805 then (column_fixes.l0 k1 (x3_1 ++ [(⟨x9_1, (⟨t366, t367⟩ : S24)⟩ : S70)]) (l0_0.length : Int) (wrap64 (x9_1 + 1)) l0_0 a0_1 a0_2 a0_3) else (none)) else (column_fixes.l0 k1 x3_1 (l0_0.length : Int) (wrap64 (x9_1 + 1)) l0_0 a0_1 a0_2 a0_3)))) else (column_fixes.l0 k1 x3_1 (l0_0.length : Int) (wrap64 (x9_1 + 1)) l0_0 a0_1 a0_2 a0_3)) = some r := H
    have A5 := Aside0.mk A50
    clear A50
    by_cases c6 : t366 ≤ t367
    ·rw [if_pos c6] at H
     have c6b0 : decide (t366 ≤ t367) = true := decide_eq_true c6
     clear c6
     replace H := Option.bind_eq_some_iff.mp H
     obtain ⟨⟨t369, t372, t373, t374⟩, A70, H⟩ := H
     replace H : ((column_runs.f t369 t372 t373 t374).bind fun t375 => (if t375 = true then (if x3_1.length < 5864062014805 then (column_fixes.l0 k1 (x3_1 ++ [(⟨x9_1, (⟨t366, t367⟩ : S24)⟩ : S70)]) (l0_0.length : Int) (wrap64 (x9_1 + 1)) l0_0 a0_1 a0_2 a0_3) else (none)) else (column_fixes.l0 k1 x3_1 (l0_0.length : Int) (wrap64 (x9_1 + 1)) l0_0 a0_1 a0_2 a0_3))) = some r := H
     have A7 := Aside0.mk A70
     clear A70
     replace H := Option.bind_eq_some_iff.mp H
     obtain ⟨t375, A80, H⟩ := H
     replace H : (if t375 = true then (if x3_1.length < 5864062014805 then (column_fixes.l0 k1 (x3_1 ++ [(⟨x9_1, (⟨t366, t367⟩ : S24)⟩ : S70)]) (l0_0.length : Int) (wrap64 (x9_1 + 1)) l0_0 a0_1 a0_2 a0_3) else (none)) else (column_fixes.l0 k1 x3_1 (l0_0.length : Int) (wrap64 (x9_1 + 1)) l0_0 a0_1 a0_2 a0_3)) = some r := H
     have A8 := Aside0.mk A80
     clear A80
     by_cases c9 : t375 = true
     ·subst c9
      have H1 : (if x3_1.length < 5864062014805 then (column_fixes.l0 k1 (x3_1 ++ [(⟨x9_1, (⟨t366, t367⟩ : S24)⟩ : S70)]) (l0_0.length : Int) (wrap64 (x9_1 + 1)) l0_0 a0_1 a0_2 a0_3) else (none)) = some r := by rw [if_pos rfl] at H; exact H
      clear H
      have H := H1
      clear H1
      by_cases c10 : x3_1.length < 5864062014805
      ·rw [if_pos c10] at H
       have LMc10 := Aside0.mk c10
       clear c10
       obtain ⟨y376, hy376⟩ : ∃ y_ : List (S70), y_ = (x3_1 ++ [(⟨x9_1, (⟨t366, t367⟩ : S24)⟩ : S70)]) := ⟨_, rfl⟩
       replace H : (column_fixes.l0 k1 y376 (l0_0.length : Int) (wrap64 (x9_1 + 1)) l0_0 a0_1 a0_2 a0_3) = some r := by first | (rw [hy376]; with_reducible exact H) | (have H2_ := (Option.bind_some _ _).symm.trans H; rw [hy376]; with_reducible exact H2_) | (have H2_ := (Option.bind_some _ _).symm.trans H; with_reducible exact H2_) | with_reducible exact H | (rw [hy376]; exact H) | exact H
       have Ny376 := Aside0.mk hy376
       clear hy376
       have H' := Aside0.mk H
       clear H
       have hcz11_0 : wr.cell? ⟨gb365, 0, none⟩ = some (.slice A0_0 l0_0.length c0_0) := (blk_cell BK365.out 0).trans rfl
       have hcz11_1 : wr.cell? ⟨gb365, 1, none⟩ = some (.int .i64 a0_1) := (blk_cell BK365.out 1).trans rfl
       have hcz11_2 : wr.cell? ⟨gb365, 2, none⟩ = some (.int .i64 a0_2) := (blk_cell BK365.out 2).trans rfl
       have hcz11_3 : wr.cell? ⟨gb365, 3, none⟩ = some (.int .i64 a0_3) := (blk_cell BK365.out 3).trans rfl
       have hfz11_0 := blk_frozen BK365.out 0
       have hfz11_1 := blk_frozen BK365.out 1
       have hfz11_2 := blk_frozen BK365.out 2
       have hfz11_3 := blk_frozen BK365.out 3
       go_wp2_with (first | ((with_reducible refine gate_callee (f := 86) rfl ?_); refine goesL_ (some 14) rfl rfl Tryz.func86 (by kernel_rfl) rfl #[.agg #[.slice A0_0 l0_0.length c0_0, .int .i64 a0_1, .int .i64 a0_2, .int .i64 a0_3], .int .i64 x9_1] rfl (by (try simp only [List.map_toArray, List.map_cons, List.map_nil]); first | done | rfl | (simp only [List.length_drop, List.length_take]; rfl)) ?_; (with_reducible refine (column_between.calls _ _ l0_0 a0_1 a0_2 a0_3 x9_1 t366 t367 _ ?side1 ?side2 A5.out).mono ?_); (case side1 => repeat (first | exact (Kd.C_below HR0_0.out HB.out) | (with_reducible refine Kd.C_alloc ?_ _) | (with_reducible refine Kd.C_drewN ?_ _) | (with_reducible refine Kd.C_drew ?_))); (case side2 => exact HC0_0.out); rintro e w12 ⟨rfl, hb⟩; refine ⟨_, rfl, ?_⟩; have n0_ := Aside0.mk (Kd.R_below (rup HO_3.out) hb); have n1_ := Aside0.mk (blk_below (g := gb365) (o := .cells #[.slice A0_0 l0_0.length c0_0, .int .i64 a0_1, .int .i64 a0_2, .int .i64 a0_3] 26 (0, 0)) (bup BK365.out) hb); have n2_ := Aside0.mk (below_step (by repeat (first | (with_reducible first | exact HB.out | apply below_alloc | apply pw_below_drewN | apply below_drew1 | refine below_set ?_ GE365.out) | exact HB.out)) hb); clear HO_3; clear BK365; clear HB; have HO_3 := n0_; have BK365 := n1_; have HB := n2_; clear n0_ n1_ n2_; (try clear hb); (try clear hb2); (try clear hk); (try clear hi)) | ((with_reducible refine gate_dst (N := 5) rfl ?_); refine box_event ?hg (N := 5) ?hd (cs := #[.int .i64 0, .int .i64 0]) (t := 24) ?hr ?_; (case hd => rfl); (case hg => rfl); (case hr => first | (go_simp; done) | (go_simp; rfl)); intro gb368 hg w13 hbox hb; have n0_ := Aside0.mk (Kd.R_below (rup HO_3.out) hb); have n1_ := Aside0.mk (blk_below (g := gb365) (o := .cells #[.slice A0_0 l0_0.length c0_0, .int .i64 a0_1, .int .i64 a0_2, .int .i64 a0_3] 26 (0, 0)) (bup BK365.out) hb); have n2_ := Aside0.mk (below_step (by repeat (first | (with_reducible first | exact HB.out | apply below_alloc | apply pw_below_drewN | apply below_drew1 | refine below_set ?_ GE365.out) | exact HB.out)) hb); have n3_ := Aside0.mk (hbox); have n4_ := Aside0.mk ((by rw [hg]; exact (below_size (by repeat (first | (with_reducible first | exact HB.out | apply below_alloc | apply pw_below_drewN | apply below_drew1 | refine below_set ?_ GE365.out) | exact HB.out))) : w.heap.size ≤ gb368)); have n5_ := Aside0.mk ((by rw [hg]; exact (below_size (by repeat (first | (with_reducible first | exact HB.out | apply below_alloc | apply pw_below_drewN | apply below_drew1 | refine below_set ?_ GE365.out) | exact HB.out))) : w.heap.size ≤ gb368)); have n6_ := Aside0.mk ((by rw [hg]; exact Nat.ne_of_lt (blk_lt (g := gb365) (o := .cells #[.slice A0_0 l0_0.length c0_0, .int .i64 a0_1, .int .i64 a0_2, .int .i64 a0_3] 26 (0, 0)) (bup BK365.out)) : gb365 ≠ gb368)); have n7_ := Aside0.mk ((by rw [hg]; exact Nat.ne_of_gt (blk_lt (g := gb365) (o := .cells #[.slice A0_0 l0_0.length c0_0, .int .i64 a0_1, .int .i64 a0_2, .int .i64 a0_3] 26 (0, 0)) (bup BK365.out)) : gb368 ≠ gb365)); clear HO_3; clear BK365; clear HB; have HO_3 := n0_; have BK365 := n1_; have HB := n2_; have BK368 := n3_; have GW368 := n4_; have GE368 := n5_; have NB365_368 := n6_; have NB368_365 := n7_; clear n0_ n1_ n2_ n3_ n4_ n5_ n6_ n7_; clear hb hbox hg; have hnb14 := NB368_365.out; have hnc14 := NB365_368.out; have hcz15_0 : w13.cell? ⟨gb368, 0, none⟩ = some (.int .i64 0) := (blk_cell BK368.out 0).trans rfl; have hcz15_1 : w13.cell? ⟨gb368, 1, none⟩ = some (.int .i64 0) := (blk_cell BK368.out 1).trans rfl; have hfz15_0 := blk_frozen BK368.out 0; have hfz15_1 := blk_frozen BK368.out 1; have hcz16_0 : w13.cell? ⟨gb365, 0, none⟩ = some (.slice A0_0 l0_0.length c0_0) := (blk_cell BK365.out 0).trans rfl; have hcz16_1 : w13.cell? ⟨gb365, 1, none⟩ = some (.int .i64 a0_1) := (blk_cell BK365.out 1).trans rfl; have hcz16_2 : w13.cell? ⟨gb365, 2, none⟩ = some (.int .i64 a0_2) := (blk_cell BK365.out 2).trans rfl; have hcz16_3 : w13.cell? ⟨gb365, 3, none⟩ = some (.int .i64 a0_3) := (blk_cell BK365.out 3).trans rfl; have hfz16_0 := blk_frozen BK365.out 0; have hfz16_1 := blk_frozen BK365.out 1; have hfz16_2 := blk_frozen BK365.out 2; have hfz16_3 := blk_frozen BK365.out 3) | (go_at_call 90; (with_reducible refine (column_with.calls _ _ l0_0 a0_1 a0_2 a0_3 x9_1 t366 t369 t372 t373 t374 _ ?side1 ?side2 A7.out).mono ?_); (case side1 => exact Kd.C_below HR0_0.out (by repeat (first | (with_reducible first | exact HB.out | apply below_alloc | apply pw_below_drewN | apply below_drew1 | refine below_set ?_ GE365.out | refine below_set ?_ GE368.out) | exact HB.out))); (case side2 => exact HC0_0.out); rintro e w17 ⟨v370, rfl, ho0, hb⟩; have n0_ := Aside0.mk (Kd.R_below (rup (Kd.R_mono (Kd.R_far (p := ⟨gb368, 1, none⟩) (Kd.R_far (p := ⟨gb368, 0, none⟩) (Kd.R_types HO_3.out BK368.out (by decide)) (fun _ hk => hk.2) (.int .i64 t366)) (fun _ hk => hk.2) (.int .i64 t367)) (fun _ h_ => h_.1))) hb); have n1_ := Aside0.mk (Kd.R_lower ho0 (below_size (by repeat (first | (with_reducible first | exact HB.out | apply below_alloc | apply pw_below_drewN | apply below_drew1 | refine below_set ?_ GE365.out | refine below_set ?_ GE368.out) | exact HB.out)))); have n2_ := Aside0.mk (blk_below (g := gb365) (o := .cells #[.slice A0_0 l0_0.length c0_0, .int .i64 a0_1, .int .i64 a0_2, .int .i64 a0_3] 26 (0, 0)) (by (with_reducible repeat (first | refine blk_drewN ?_ _ | refine blk_drew ?_ | refine blk_alloc ?_ _)); refine blk_far ?_ NB365_368.out _; (with_reducible repeat (first | refine blk_drewN ?_ _ | refine blk_drew ?_ | refine blk_alloc ?_ _)); refine blk_far ?_ NB365_368.out _; (with_reducible repeat (first | refine blk_drewN ?_ _ | refine blk_drew ?_ | refine blk_alloc ?_ _)); exact BK365.out) hb); have n3_ := Aside0.mk (blk_below (g := gb368) (o := .cells #[.int .i64 t366, .int .i64 t367] 24 (0, 0)) (by (with_reducible repeat (first | refine blk_drewN ?_ _ | refine blk_drew ?_ | refine blk_alloc ?_ _)); refine blk_put (cs := #[.int .i64 t366, .int .i64 0]) ?_ 1 _ rfl; (with_reducible repeat (first | refine blk_drewN ?_ _ | refine blk_drew ?_ | refine blk_alloc ?_ _)); refine blk_put (cs := #[.int .i64 0, .int .i64 0]) ?_ 0 _ rfl; (with_reducible repeat (first | refine blk_drewN ?_ _ | refine blk_drew ?_ | refine blk_alloc ?_ _)); exact BK368.out) hb); have n4_ := Aside0.mk (below_step (by repeat (first | (with_reducible first | exact HB.out | apply below_alloc | apply pw_below_drewN | apply below_drew1 | refine below_set ?_ GE365.out | refine below_set ?_ GE368.out) | exact HB.out)) hb); clear HO_3; clear BK365; clear BK368; clear HB; have HO_3 := n0_; have HO371 := n1_; have BK365 := n2_; have BK368 := n3_; have HB := n4_; clear n0_ n1_ n2_ n3_ n4_; (try clear hb); (try clear hb2); (try clear hk); (try clear hi); (try clear ho0); obtain ⟨Ao18, co18, eo18⟩ := Kd.R_slice HO371.out; subst eo18) | (go_at_call 87; (with_reducible refine (column_runs.calls _ _ t369 t372 t373 t374 true _ ?side1 ?side2 A8.out).mono ?_); (case side1 => repeat (first | exact (Kd.R_reads' HO371.out).2.2 | (with_reducible refine Kd.C_alloc ?_ _) | (with_reducible refine Kd.C_drewN ?_ _) | (with_reducible refine Kd.C_drew ?_))); (case side2 => exact (Kd.R_reads' HO371.out).2.1); rintro e w19 ⟨rfl, hb⟩; have n0_ := Aside0.mk (Kd.R_below (rup HO_3.out) hb); have n1_ := Aside0.mk (Kd.R_below (rup HO371.out) hb); have n2_ := Aside0.mk (blk_below (g := gb365) (o := .cells #[.slice A0_0 l0_0.length c0_0, .int .i64 a0_1, .int .i64 a0_2, .int .i64 a0_3] 26 (0, 0)) (bup BK365.out) hb); have n3_ := Aside0.mk (blk_below (g := gb368) (o := .cells #[.int .i64 t366, .int .i64 t367] 24 (0, 0)) (bup BK368.out) hb); have n4_ := Aside0.mk (below_step (by repeat (first | (with_reducible first | exact HB.out | apply below_alloc | apply pw_below_drewN | apply below_drew1 | refine below_set ?_ GE365.out | refine below_set ?_ GE368.out) | exact HB.out)) hb); clear HO_3; clear HO371; clear BK365; clear BK368; clear HB; have HO_3 := n0_; have HO371 := n1_; have BK365 := n2_; have BK368 := n3_; have HB := n4_; clear n0_ n1_ n2_ n3_ n4_; (try clear hb); (try clear hb2); (try clear hk); (try clear hi); have hcz20_0 : w19.cell? ⟨gb368, 0, none⟩ = some (.int .i64 t366) := (blk_cell BK368.out 0).trans rfl; have hcz20_1 : w19.cell? ⟨gb368, 1, none⟩ = some (.int .i64 t367) := (blk_cell BK368.out 1).trans rfl; have hfz20_0 := blk_frozen BK368.out 0; have hfz20_1 := blk_frozen BK368.out 1) | ((with_reducible refine gate_builtin (b := .append) (xs := #[.tmp 28, .tmp 32]) rfl ?_); at_builtin; refine Kd.R_append k70 (w0 := w) w.heap.size rfl (.tmp 28) (.tmp 32) 66 70 (.agg #[(.int .i64 0), (.int .i64 0), (.int .i64 0)]) 24 rfl Tryz.underlying66 info70 rfl (by decide) (by omega) u3 x3_1 (⟨x9_1, (⟨t366, t367⟩ : S24)⟩ : S70) [.int .i64 x9_1, .int .i64 t366, .int .i64 t367] (fun _ => True) (fun _ => False) rfl rfl ?aP (fun _ hk => hk.elim) ?aF ?aO ?aB ?aS ?aL ?_; (case aP => exact k70_mkM _ _ _ (⟨x9_1, (⟨t366, t367⟩ : S24)⟩ : S70)); (case aB => exact (by repeat (first | (with_reducible first | exact HB.out | apply below_alloc | apply pw_below_drewN | apply below_drew1 | refine below_set ?_ GE365.out | refine below_set ?_ GE368.out) | exact HB.out))); (case aF => exact (fun _ _ => trivial)); (case aO => exact (rup HO_3.out)); (case aS => exact (below_size (by repeat (first | (with_reducible first | exact HB.out | apply below_alloc | apply pw_below_drewN | apply below_drew1 | refine below_set ?_ GE365.out | refine below_set ?_ GE368.out) | exact HB.out)))); (case aL => have := LMc10.out; omega); intro v377 w21 ho hb hg hat; rw [← Ny376.out] at ho; have n0_ := Aside0.mk (blk_grown (g := gb365) (o := .cells #[.slice A0_0 l0_0.length c0_0, .int .i64 a0_1, .int .i64 a0_2, .int .i64 a0_3] 26 (0, 0)) (bup BK365.out) hg (Kd.R_ne HO_3.out BK365.out (by decide))); have n1_ := Aside0.mk (blk_grown (g := gb368) (o := .cells #[.int .i64 t366, .int .i64 t367] 24 (0, 0)) (bup BK368.out) hg (Kd.R_ne HO_3.out BK368.out (by decide))); have n2_ := Aside0.mk (Kd.R_over' (rup HO371.out) (Kd.R_typed (rup HO_3.out)) (by decide) hg); have n3_ := Aside0.mk (hb); have n4_ := Aside0.mk (ho); clear BK365; clear BK368; clear HO371; clear HB; clear HO_3; have BK365 := n0_; have BK368 := n1_; have HO371 := n2_; have HB := n3_; have HO378 := n4_; clear n0_ n1_ n2_ n3_ n4_; clear ho hb hg hat))
       go_roundg k1
       case measure => have := HK1.out; omega
       case rel => exact ⟨(y376), (wrap64 (x9_1 + 1)), (by first | rfl | (simp; done) | (simp [*]; done)), H', ⟨by have := HK1.out; omega⟩, ⟨rup HO378.out⟩, ⟨bup BK365.out⟩, ⟨by repeat (first | (with_reducible first | exact HB.out | apply below_alloc | apply pw_below_drewN | apply below_drew1 | refine below_set ?_ GE365.out | refine below_set ?_ GE368.out) | exact HB.out)⟩⟩
      ·rw [if_neg c10] at H
       exact absurd H (by simp)
     ·replace c9 := Bool.eq_false_iff.mpr c9
      subst c9
      have H1 : (column_fixes.l0 k1 x3_1 (l0_0.length : Int) (wrap64 (x9_1 + 1)) l0_0 a0_1 a0_2 a0_3) = some r := by rw [if_neg (show ¬ (false = true) by decide)] at H; exact H
      clear H
      have H := H1
      clear H1
      have H' := Aside0.mk H
      clear H
      have hcz22_0 : wr.cell? ⟨gb365, 0, none⟩ = some (.slice A0_0 l0_0.length c0_0) := (blk_cell BK365.out 0).trans rfl
      have hcz22_1 : wr.cell? ⟨gb365, 1, none⟩ = some (.int .i64 a0_1) := (blk_cell BK365.out 1).trans rfl
      have hcz22_2 : wr.cell? ⟨gb365, 2, none⟩ = some (.int .i64 a0_2) := (blk_cell BK365.out 2).trans rfl
      have hcz22_3 : wr.cell? ⟨gb365, 3, none⟩ = some (.int .i64 a0_3) := (blk_cell BK365.out 3).trans rfl
      have hfz22_0 := blk_frozen BK365.out 0
      have hfz22_1 := blk_frozen BK365.out 1
      have hfz22_2 := blk_frozen BK365.out 2
      have hfz22_3 := blk_frozen BK365.out 3
      go_wp2_with (first | ((with_reducible refine gate_callee (f := 86) rfl ?_); refine goesL_ (some 14) rfl rfl Tryz.func86 (by kernel_rfl) rfl #[.agg #[.slice A0_0 l0_0.length c0_0, .int .i64 a0_1, .int .i64 a0_2, .int .i64 a0_3], .int .i64 x9_1] rfl (by (try simp only [List.map_toArray, List.map_cons, List.map_nil]); first | done | rfl | (simp only [List.length_drop, List.length_take]; rfl)) ?_; (with_reducible refine (column_between.calls _ _ l0_0 a0_1 a0_2 a0_3 x9_1 t366 t367 _ ?side1 ?side2 A5.out).mono ?_); (case side1 => repeat (first | exact (Kd.C_below HR0_0.out HB.out) | (with_reducible refine Kd.C_alloc ?_ _) | (with_reducible refine Kd.C_drewN ?_ _) | (with_reducible refine Kd.C_drew ?_))); (case side2 => exact HC0_0.out); rintro e w23 ⟨rfl, hb⟩; refine ⟨_, rfl, ?_⟩; have n0_ := Aside0.mk (Kd.R_below (rup HO_3.out) hb); have n1_ := Aside0.mk (blk_below (g := gb365) (o := .cells #[.slice A0_0 l0_0.length c0_0, .int .i64 a0_1, .int .i64 a0_2, .int .i64 a0_3] 26 (0, 0)) (bup BK365.out) hb); have n2_ := Aside0.mk (below_step (by repeat (first | (with_reducible first | exact HB.out | apply below_alloc | apply pw_below_drewN | apply below_drew1 | refine below_set ?_ GE365.out) | exact HB.out)) hb); clear HO_3; clear BK365; clear HB; have HO_3 := n0_; have BK365 := n1_; have HB := n2_; clear n0_ n1_ n2_; (try clear hb); (try clear hb2); (try clear hk); (try clear hi)) | ((with_reducible refine gate_dst (N := 5) rfl ?_); refine box_event ?hg (N := 5) ?hd (cs := #[.int .i64 0, .int .i64 0]) (t := 24) ?hr ?_; (case hd => rfl); (case hg => rfl); (case hr => first | (go_simp; done) | (go_simp; rfl)); intro gb368 hg w24 hbox hb; have n0_ := Aside0.mk (Kd.R_below (rup HO_3.out) hb); have n1_ := Aside0.mk (blk_below (g := gb365) (o := .cells #[.slice A0_0 l0_0.length c0_0, .int .i64 a0_1, .int .i64 a0_2, .int .i64 a0_3] 26 (0, 0)) (bup BK365.out) hb); have n2_ := Aside0.mk (below_step (by repeat (first | (with_reducible first | exact HB.out | apply below_alloc | apply pw_below_drewN | apply below_drew1 | refine below_set ?_ GE365.out) | exact HB.out)) hb); have n3_ := Aside0.mk (hbox); have n4_ := Aside0.mk ((by rw [hg]; exact (below_size (by repeat (first | (with_reducible first | exact HB.out | apply below_alloc | apply pw_below_drewN | apply below_drew1 | refine below_set ?_ GE365.out) | exact HB.out))) : w.heap.size ≤ gb368)); have n5_ := Aside0.mk ((by rw [hg]; exact (below_size (by repeat (first | (with_reducible first | exact HB.out | apply below_alloc | apply pw_below_drewN | apply below_drew1 | refine below_set ?_ GE365.out) | exact HB.out))) : w.heap.size ≤ gb368)); have n6_ := Aside0.mk ((by rw [hg]; exact Nat.ne_of_lt (blk_lt (g := gb365) (o := .cells #[.slice A0_0 l0_0.length c0_0, .int .i64 a0_1, .int .i64 a0_2, .int .i64 a0_3] 26 (0, 0)) (bup BK365.out)) : gb365 ≠ gb368)); have n7_ := Aside0.mk ((by rw [hg]; exact Nat.ne_of_gt (blk_lt (g := gb365) (o := .cells #[.slice A0_0 l0_0.length c0_0, .int .i64 a0_1, .int .i64 a0_2, .int .i64 a0_3] 26 (0, 0)) (bup BK365.out)) : gb368 ≠ gb365)); clear HO_3; clear BK365; clear HB; have HO_3 := n0_; have BK365 := n1_; have HB := n2_; have BK368 := n3_; have GW368 := n4_; have GE368 := n5_; have NB365_368 := n6_; have NB368_365 := n7_; clear n0_ n1_ n2_ n3_ n4_ n5_ n6_ n7_; clear hb hbox hg; have hnb25 := NB368_365.out; have hnc25 := NB365_368.out; have hcz26_0 : w24.cell? ⟨gb368, 0, none⟩ = some (.int .i64 0) := (blk_cell BK368.out 0).trans rfl; have hcz26_1 : w24.cell? ⟨gb368, 1, none⟩ = some (.int .i64 0) := (blk_cell BK368.out 1).trans rfl; have hfz26_0 := blk_frozen BK368.out 0; have hfz26_1 := blk_frozen BK368.out 1; have hcz27_0 : w24.cell? ⟨gb365, 0, none⟩ = some (.slice A0_0 l0_0.length c0_0) := (blk_cell BK365.out 0).trans rfl; have hcz27_1 : w24.cell? ⟨gb365, 1, none⟩ = some (.int .i64 a0_1) := (blk_cell BK365.out 1).trans rfl; have hcz27_2 : w24.cell? ⟨gb365, 2, none⟩ = some (.int .i64 a0_2) := (blk_cell BK365.out 2).trans rfl; have hcz27_3 : w24.cell? ⟨gb365, 3, none⟩ = some (.int .i64 a0_3) := (blk_cell BK365.out 3).trans rfl; have hfz27_0 := blk_frozen BK365.out 0; have hfz27_1 := blk_frozen BK365.out 1; have hfz27_2 := blk_frozen BK365.out 2; have hfz27_3 := blk_frozen BK365.out 3) | (go_at_call 90; (with_reducible refine (column_with.calls _ _ l0_0 a0_1 a0_2 a0_3 x9_1 t366 t369 t372 t373 t374 _ ?side1 ?side2 A7.out).mono ?_); (case side1 => exact Kd.C_below HR0_0.out (by repeat (first | (with_reducible first | exact HB.out | apply below_alloc | apply pw_below_drewN | apply below_drew1 | refine below_set ?_ GE365.out | refine below_set ?_ GE368.out) | exact HB.out))); (case side2 => exact HC0_0.out); rintro e w28 ⟨v370, rfl, ho0, hb⟩; have n0_ := Aside0.mk (Kd.R_below (rup (Kd.R_mono (Kd.R_far (p := ⟨gb368, 1, none⟩) (Kd.R_far (p := ⟨gb368, 0, none⟩) (Kd.R_types HO_3.out BK368.out (by decide)) (fun _ hk => hk.2) (.int .i64 t366)) (fun _ hk => hk.2) (.int .i64 t367)) (fun _ h_ => h_.1))) hb); have n1_ := Aside0.mk (Kd.R_lower ho0 (below_size (by repeat (first | (with_reducible first | exact HB.out | apply below_alloc | apply pw_below_drewN | apply below_drew1 | refine below_set ?_ GE365.out | refine below_set ?_ GE368.out) | exact HB.out)))); have n2_ := Aside0.mk (blk_below (g := gb365) (o := .cells #[.slice A0_0 l0_0.length c0_0, .int .i64 a0_1, .int .i64 a0_2, .int .i64 a0_3] 26 (0, 0)) (by (with_reducible repeat (first | refine blk_drewN ?_ _ | refine blk_drew ?_ | refine blk_alloc ?_ _)); refine blk_far ?_ NB365_368.out _; (with_reducible repeat (first | refine blk_drewN ?_ _ | refine blk_drew ?_ | refine blk_alloc ?_ _)); refine blk_far ?_ NB365_368.out _; (with_reducible repeat (first | refine blk_drewN ?_ _ | refine blk_drew ?_ | refine blk_alloc ?_ _)); exact BK365.out) hb); have n3_ := Aside0.mk (blk_below (g := gb368) (o := .cells #[.int .i64 t366, .int .i64 t367] 24 (0, 0)) (by (with_reducible repeat (first | refine blk_drewN ?_ _ | refine blk_drew ?_ | refine blk_alloc ?_ _)); refine blk_put (cs := #[.int .i64 t366, .int .i64 0]) ?_ 1 _ rfl; (with_reducible repeat (first | refine blk_drewN ?_ _ | refine blk_drew ?_ | refine blk_alloc ?_ _)); refine blk_put (cs := #[.int .i64 0, .int .i64 0]) ?_ 0 _ rfl; (with_reducible repeat (first | refine blk_drewN ?_ _ | refine blk_drew ?_ | refine blk_alloc ?_ _)); exact BK368.out) hb); have n4_ := Aside0.mk (below_step (by repeat (first | (with_reducible first | exact HB.out | apply below_alloc | apply pw_below_drewN | apply below_drew1 | refine below_set ?_ GE365.out | refine below_set ?_ GE368.out) | exact HB.out)) hb); clear HO_3; clear BK365; clear BK368; clear HB; have HO_3 := n0_; have HO371 := n1_; have BK365 := n2_; have BK368 := n3_; have HB := n4_; clear n0_ n1_ n2_ n3_ n4_; (try clear hb); (try clear hb2); (try clear hk); (try clear hi); (try clear ho0); obtain ⟨Ao29, co29, eo29⟩ := Kd.R_slice HO371.out; subst eo29) | (go_at_call 87; (with_reducible refine (column_runs.calls _ _ t369 t372 t373 t374 false _ ?side1 ?side2 A8.out).mono ?_); (case side1 => repeat (first | exact (Kd.R_reads' HO371.out).2.2 | (with_reducible refine Kd.C_alloc ?_ _) | (with_reducible refine Kd.C_drewN ?_ _) | (with_reducible refine Kd.C_drew ?_))); (case side2 => exact (Kd.R_reads' HO371.out).2.1); rintro e w30 ⟨rfl, hb⟩; have n0_ := Aside0.mk (Kd.R_below (rup HO_3.out) hb); have n1_ := Aside0.mk (Kd.R_below (rup HO371.out) hb); have n2_ := Aside0.mk (blk_below (g := gb365) (o := .cells #[.slice A0_0 l0_0.length c0_0, .int .i64 a0_1, .int .i64 a0_2, .int .i64 a0_3] 26 (0, 0)) (bup BK365.out) hb); have n3_ := Aside0.mk (blk_below (g := gb368) (o := .cells #[.int .i64 t366, .int .i64 t367] 24 (0, 0)) (bup BK368.out) hb); have n4_ := Aside0.mk (below_step (by repeat (first | (with_reducible first | exact HB.out | apply below_alloc | apply pw_below_drewN | apply below_drew1 | refine below_set ?_ GE365.out | refine below_set ?_ GE368.out) | exact HB.out)) hb); clear HO_3; clear HO371; clear BK365; clear BK368; clear HB; have HO_3 := n0_; have HO371 := n1_; have BK365 := n2_; have BK368 := n3_; have HB := n4_; clear n0_ n1_ n2_ n3_ n4_; (try clear hb); (try clear hb2); (try clear hk); (try clear hi)))
      go_roundg k1
      case measure => have := HK1.out; omega
      case rel => exact ⟨(x3_1), (wrap64 (x9_1 + 1)), (by first | rfl | (simp; done) | (simp [*]; done)), H', ⟨by have := HK1.out; omega⟩, ⟨rup HO_3.out⟩, ⟨bup BK365.out⟩, ⟨by repeat (first | (with_reducible first | exact HB.out | apply below_alloc | apply pw_below_drewN | apply below_drew1 | refine below_set ?_ GE365.out | refine below_set ?_ GE368.out) | exact HB.out)⟩⟩
    ·rw [if_neg c6] at H
     have c6b0 : decide (t366 ≤ t367) = false := decide_eq_false c6
     clear c6
     have H' := Aside0.mk H
     clear H
     have hcz31_0 : wr.cell? ⟨gb365, 0, none⟩ = some (.slice A0_0 l0_0.length c0_0) := (blk_cell BK365.out 0).trans rfl
     have hcz31_1 : wr.cell? ⟨gb365, 1, none⟩ = some (.int .i64 a0_1) := (blk_cell BK365.out 1).trans rfl
     have hcz31_2 : wr.cell? ⟨gb365, 2, none⟩ = some (.int .i64 a0_2) := (blk_cell BK365.out 2).trans rfl
     have hcz31_3 : wr.cell? ⟨gb365, 3, none⟩ = some (.int .i64 a0_3) := (blk_cell BK365.out 3).trans rfl
     have hfz31_0 := blk_frozen BK365.out 0
     have hfz31_1 := blk_frozen BK365.out 1
     have hfz31_2 := blk_frozen BK365.out 2
     have hfz31_3 := blk_frozen BK365.out 3
     go_wp2_with (first | ((with_reducible refine gate_callee (f := 86) rfl ?_); refine goesL_ (some 14) rfl rfl Tryz.func86 (by kernel_rfl) rfl #[.agg #[.slice A0_0 l0_0.length c0_0, .int .i64 a0_1, .int .i64 a0_2, .int .i64 a0_3], .int .i64 x9_1] rfl (by (try simp only [List.map_toArray, List.map_cons, List.map_nil]); first | done | rfl | (simp only [List.length_drop, List.length_take]; rfl)) ?_; (with_reducible refine (column_between.calls _ _ l0_0 a0_1 a0_2 a0_3 x9_1 t366 t367 _ ?side1 ?side2 A5.out).mono ?_); (case side1 => repeat (first | exact (Kd.C_below HR0_0.out HB.out) | (with_reducible refine Kd.C_alloc ?_ _) | (with_reducible refine Kd.C_drewN ?_ _) | (with_reducible refine Kd.C_drew ?_))); (case side2 => exact HC0_0.out); rintro e w32 ⟨rfl, hb⟩; refine ⟨_, rfl, ?_⟩; have n0_ := Aside0.mk (Kd.R_below (rup HO_3.out) hb); have n1_ := Aside0.mk (blk_below (g := gb365) (o := .cells #[.slice A0_0 l0_0.length c0_0, .int .i64 a0_1, .int .i64 a0_2, .int .i64 a0_3] 26 (0, 0)) (bup BK365.out) hb); have n2_ := Aside0.mk (below_step (by repeat (first | (with_reducible first | exact HB.out | apply below_alloc | apply pw_below_drewN | apply below_drew1 | refine below_set ?_ GE365.out) | exact HB.out)) hb); clear HO_3; clear BK365; clear HB; have HO_3 := n0_; have BK365 := n1_; have HB := n2_; clear n0_ n1_ n2_; (try clear hb); (try clear hb2); (try clear hk); (try clear hi)) | ((with_reducible refine gate_dst (N := 5) rfl ?_); refine box_event ?hg (N := 5) ?hd (cs := #[.int .i64 0, .int .i64 0]) (t := 24) ?hr ?_; (case hd => rfl); (case hg => rfl); (case hr => first | (go_simp; done) | (go_simp; rfl)); intro gb368 hg w33 hbox hb; have n0_ := Aside0.mk (Kd.R_below (rup HO_3.out) hb); have n1_ := Aside0.mk (blk_below (g := gb365) (o := .cells #[.slice A0_0 l0_0.length c0_0, .int .i64 a0_1, .int .i64 a0_2, .int .i64 a0_3] 26 (0, 0)) (bup BK365.out) hb); have n2_ := Aside0.mk (below_step (by repeat (first | (with_reducible first | exact HB.out | apply below_alloc | apply pw_below_drewN | apply below_drew1 | refine below_set ?_ GE365.out) | exact HB.out)) hb); have n3_ := Aside0.mk (hbox); have n4_ := Aside0.mk ((by rw [hg]; exact (below_size (by repeat (first | (with_reducible first | exact HB.out | apply below_alloc | apply pw_below_drewN | apply below_drew1 | refine below_set ?_ GE365.out) | exact HB.out))) : w.heap.size ≤ gb368)); have n5_ := Aside0.mk ((by rw [hg]; exact (below_size (by repeat (first | (with_reducible first | exact HB.out | apply below_alloc | apply pw_below_drewN | apply below_drew1 | refine below_set ?_ GE365.out) | exact HB.out))) : w.heap.size ≤ gb368)); have n6_ := Aside0.mk ((by rw [hg]; exact Nat.ne_of_lt (blk_lt (g := gb365) (o := .cells #[.slice A0_0 l0_0.length c0_0, .int .i64 a0_1, .int .i64 a0_2, .int .i64 a0_3] 26 (0, 0)) (bup BK365.out)) : gb365 ≠ gb368)); have n7_ := Aside0.mk ((by rw [hg]; exact Nat.ne_of_gt (blk_lt (g := gb365) (o := .cells #[.slice A0_0 l0_0.length c0_0, .int .i64 a0_1, .int .i64 a0_2, .int .i64 a0_3] 26 (0, 0)) (bup BK365.out)) : gb368 ≠ gb365)); clear HO_3; clear BK365; clear HB; have HO_3 := n0_; have BK365 := n1_; have HB := n2_; have BK368 := n3_; have GW368 := n4_; have GE368 := n5_; have NB365_368 := n6_; have NB368_365 := n7_; clear n0_ n1_ n2_ n3_ n4_ n5_ n6_ n7_; clear hb hbox hg; have hnb34 := NB368_365.out; have hnc34 := NB365_368.out; have hcz35_0 : w33.cell? ⟨gb368, 0, none⟩ = some (.int .i64 0) := (blk_cell BK368.out 0).trans rfl; have hcz35_1 : w33.cell? ⟨gb368, 1, none⟩ = some (.int .i64 0) := (blk_cell BK368.out 1).trans rfl; have hfz35_0 := blk_frozen BK368.out 0; have hfz35_1 := blk_frozen BK368.out 1))
     go_roundg k1
     case measure => have := HK1.out; omega
     case rel => exact ⟨(x3_1), (wrap64 (x9_1 + 1)), (by first | rfl | (simp; done) | (simp [*]; done)), H', ⟨by have := HK1.out; omega⟩, ⟨rup (Kd.R_mono (Kd.R_far (p := ⟨gb368, 1, none⟩) (Kd.R_far (p := ⟨gb368, 0, none⟩) (Kd.R_types HO_3.out BK368.out (by decide)) (fun _ hk => hk.2) (.int .i64 t366)) (fun _ hk => hk.2) (.int .i64 t367)) (fun _ hk => trivial))⟩, ⟨by (with_reducible repeat (first | refine blk_drewN ?_ _ | refine blk_drew ?_ | refine blk_alloc ?_ _)); refine blk_far ?_ NB365_368.out _; (with_reducible repeat (first | refine blk_drewN ?_ _ | refine blk_drew ?_ | refine blk_alloc ?_ _)); refine blk_far ?_ NB365_368.out _; (with_reducible repeat (first | refine blk_drewN ?_ _ | refine blk_drew ?_ | refine blk_alloc ?_ _)); exact BK365.out⟩, ⟨by repeat (first | (with_reducible first | exact HB.out | apply below_alloc | apply pw_below_drewN | apply below_drew1 | refine below_set ?_ GE365.out | refine below_set ?_ GE368.out) | exact HB.out)⟩⟩
   ·rw [if_neg c4] at H
    have c4b0 : decide (x9_1 < (l0_0.length : Int)) = false := decide_eq_false c4
    clear c4
    obtain rfl := Option.some.inj H
    go_wp2
    go_ret
    exact ⟨_, by first | rfl | (simp [errW_none, errW_some] <;> rfl) | (simp [*, errW_none, errW_some] <;> rfl), by (with_reducible repeat (first | apply Kd.R_alloc | apply Kd.R_drewN | apply Kd.R_drew)); exact HO_3.out, by repeat (first | (with_reducible first | exact HB.out | apply below_alloc | apply pw_below_drewN | apply below_drew1 | refine below_set ?_ GE365.out) | exact HB.out)⟩
end Go.Proofs.YtohlmoppcmjknaaGreatDoor.P
end
section
namespace Go.Proofs.YtohlmoppcmjknaaGreatDoor.P
open Go.RowKit Go.Proofs.YtohlmoppcmjknaaGreatDoorW.PrintWords Go.Proofs.YtohlmoppcmjknaaGreatDoorW.PrintLast Go.Proofs.YtohlmoppcmjknaaGreatDoorW.PrintMore
attribute [local go_sem] max2_int min2_int max_two min_two max_three min_three max_four min_four
set_option linter.unusedVariables false
set_option linter.unusedSimpArgs false
def column_Single.f (k : Nat) (l0_0 : List Int) (a0_1 : Int) (a0_2 : Int) (a0_3 : Int) : Option ((List (S70)) × Int) := (column_isSheet.f l0_0 a0_1 a0_2 a0_3).bind fun t380 => (if t380 = true then ((column_fixes.f k l0_0 a0_1 a0_2 a0_3).bind fun t381 => (some (t381, 0))) else (some (([] : List (S70)), 2)))
theorem column_Single.mono : ∀ a0 a1 a2 a3 k, LeO (column_Single.f k a0 a1 a2 a3) (column_Single.f (k + 1) a0 a1 a2 a3) := by
 intro a0 a1 a2 a3 k
 unfold column_Single.f
 repeat' first
   | (with_reducible exact column_fixes.mono _ _ _ _ _)
   | (with_reducible exact LeO.refl _)
   | (with_reducible exact LeO.none _)
   | (with_reducible refine LeO.ite ?_ ?_)
   | (with_reducible refine LeO.bind ?_ (fun _ => ?_))
   | exact column_fixes.mono _ _ _ _ _
   | exact LeO.none _
   | refine LeO.ite ?_ ?_
   | refine LeO.bind ?_ (fun _ => ?_)
set_option maxHeartbeats 8000000 in
set_option maxRecDepth 100000 in
theorem column_Single.calls (k : Nat) (A0_0 : Option Addr) (c0_0 : Nat) (l0_0 : List Int) (a0_1 : Int) (a0_2 : Int) (a0_3 : Int) (r1 : List (S70)) (r2 : Int) (w : World) (hr0_0 : Kd.C (Kd.int .i64) w A0_0 l0_0.length l0_0) (hc0_0 : l0_0.length ≤ c0_0) (h : column_Single.f k l0_0 a0_1 a0_2 a0_3 = some (r1, r2)) :
  Calls Tryz.prog 42 #[.agg #[.slice A0_0 l0_0.length c0_0, .int .i64 a0_1, .int .i64 a0_2, .int .i64 a0_3]] w fun e w' => ∃ v0_ : Value, e = .returned (.tuple #[v0_, .int .i64 r2]) ∧ Kd.R k70 70 w' w.heap.size (fun _ => True) v0_ r1 ∧ Below w.heap.size w w' := by
 have hu26 := Tryz.underlying26
 have HR0_0 := Aside0.mk hr0_0
 have HC0_0 := Aside0.mk hc0_0
 clear hr0_0 hc0_0
 have HB := Aside0.mk (Below.refl w.heap.size w)
 have H : ((column_isSheet.f l0_0 a0_1 a0_2 a0_3).bind fun t380 => (if t380 = true then ((column_fixes.f k l0_0 a0_1 a0_2 a0_3).bind fun t381 => (some (t381, 0))) else (some (([] : List (S70)), 2)))) = some (r1, r2) := h
 clear h
 replace H := Option.bind_eq_some_iff.mp H
 obtain ⟨t380, A20, H⟩ := H
 replace H : (if t380 = true then ((column_fixes.f k l0_0 a0_1 a0_2 a0_3).bind fun t381 => (some (t381, 0))) else (some (([] : List (S70)), 2))) = some (r1, r2) := H
 have A2 := Aside0.mk A20
 clear A20
 by_cases c3 : t380 = true
 ·subst c3
  have H1 : ((column_fixes.f k l0_0 a0_1 a0_2 a0_3).bind fun t381 => (some (t381, 0))) = some (r1, r2) := by rw [if_pos rfl] at H; exact H
  clear H
  have H := H1
  clear H1
  replace H := Option.bind_eq_some_iff.mp H
  obtain ⟨t381, A40, H⟩ := H
  replace H : (some (t381, 0)) = some (r1, r2) := H
  have A4 := Aside0.mk A40
  clear A40
  simp only [Option.some.injEq, Prod.mk.injEq] at H
  obtain ⟨rfl, rfl⟩ := H
  go_enter Tryz.func42, Tryz.ntmps42
  go_wp2_with (first | ((with_reducible refine gate_dst (N := 1) rfl ?_); refine box_event ?hg (N := 1) ?hd (cs := #[.slice A0_0 l0_0.length c0_0, .int .i64 a0_1, .int .i64 a0_2, .int .i64 a0_3]) (t := 26) ?hr ?_; (case hd => rfl); (case hg => rfl); (case hr => first | (go_simp; done) | (go_simp; rfl)); intro gb379 hg w5 hbox hb; have n0_ := Aside0.mk (below_step (wup HB.out) hb); have n1_ := Aside0.mk (hbox); have n2_ := Aside0.mk ((by rw [hg]; exact (below_size (wup HB.out)) : w.heap.size ≤ gb379)); have n3_ := Aside0.mk ((by rw [hg]; exact (below_size (wup HB.out)) : w.heap.size ≤ gb379)); clear HB; have HB := n0_; have BK379 := n1_; have GW379 := n2_; have GE379 := n3_; clear n0_ n1_ n2_ n3_; clear hb hbox hg; have hcz6_0 : w5.cell? ⟨gb379, 0, none⟩ = some (.slice A0_0 l0_0.length c0_0) := (blk_cell BK379.out 0).trans rfl; have hcz6_1 : w5.cell? ⟨gb379, 1, none⟩ = some (.int .i64 a0_1) := (blk_cell BK379.out 1).trans rfl; have hcz6_2 : w5.cell? ⟨gb379, 2, none⟩ = some (.int .i64 a0_2) := (blk_cell BK379.out 2).trans rfl; have hcz6_3 : w5.cell? ⟨gb379, 3, none⟩ = some (.int .i64 a0_3) := (blk_cell BK379.out 3).trans rfl; have hfz6_0 := blk_frozen BK379.out 0; have hfz6_1 := blk_frozen BK379.out 1; have hfz6_2 := blk_frozen BK379.out 2; have hfz6_3 := blk_frozen BK379.out 3) | ((with_reducible refine gate_callee (f := 63) rfl ?_); refine goesL_ (some 5) rfl rfl Tryz.func63 (by kernel_rfl) rfl #[.agg #[.slice A0_0 l0_0.length c0_0, .int .i64 a0_1, .int .i64 a0_2, .int .i64 a0_3]] rfl (by (try simp only [List.map_toArray, List.map_cons, List.map_nil]); first | done | rfl | (simp only [List.length_drop, List.length_take]; rfl)) ?_; (with_reducible refine (column_isSheet.calls _ _ l0_0 a0_1 a0_2 a0_3 true _ ?side1 ?side2 A2.out).mono ?_); (case side1 => repeat (first | exact (Kd.C_below HR0_0.out HB.out) | (with_reducible refine Kd.C_alloc ?_ _) | (with_reducible refine Kd.C_drewN ?_ _) | (with_reducible refine Kd.C_drew ?_))); (case side2 => exact HC0_0.out); rintro e w7 ⟨rfl, hb⟩; refine ⟨_, rfl, ?_⟩; have n0_ := Aside0.mk (blk_below (g := gb379) (o := .cells #[.slice A0_0 l0_0.length c0_0, .int .i64 a0_1, .int .i64 a0_2, .int .i64 a0_3] 26 (0, 0)) (bup BK379.out) hb); have n1_ := Aside0.mk (below_step (by repeat (first | (with_reducible first | exact HB.out | apply below_alloc | apply pw_below_drewN | apply below_drew1 | refine below_set ?_ GE379.out) | exact HB.out)) hb); clear BK379; clear HB; have BK379 := n0_; have HB := n1_; clear n0_ n1_; (try clear hb); (try clear hb2); (try clear hk); (try clear hi); have hcz8_0 : w7.cell? ⟨gb379, 0, none⟩ = some (.slice A0_0 l0_0.length c0_0) := (blk_cell BK379.out 0).trans rfl; have hcz8_1 : w7.cell? ⟨gb379, 1, none⟩ = some (.int .i64 a0_1) := (blk_cell BK379.out 1).trans rfl; have hcz8_2 : w7.cell? ⟨gb379, 2, none⟩ = some (.int .i64 a0_2) := (blk_cell BK379.out 2).trans rfl; have hcz8_3 : w7.cell? ⟨gb379, 3, none⟩ = some (.int .i64 a0_3) := (blk_cell BK379.out 3).trans rfl; have hfz8_0 := blk_frozen BK379.out 0; have hfz8_1 := blk_frozen BK379.out 1; have hfz8_2 := blk_frozen BK379.out 2; have hfz8_3 := blk_frozen BK379.out 3) | ((with_reducible refine gate_callee (f := 84) rfl ?_); refine goesL_ (some 8) rfl rfl Tryz.func84 (by kernel_rfl) rfl #[.agg #[.slice A0_0 l0_0.length c0_0, .int .i64 a0_1, .int .i64 a0_2, .int .i64 a0_3]] rfl (by (try simp only [List.map_toArray, List.map_cons, List.map_nil]); first | done | rfl | (simp only [List.length_drop, List.length_take]; rfl)) ?_; (with_reducible refine (column_fixes.calls k _ _ l0_0 a0_1 a0_2 a0_3 t381 _ ?side1 ?side2 A4.out).mono ?_); (case side1 => repeat (first | exact (Kd.C_below HR0_0.out HB.out) | (with_reducible refine Kd.C_alloc ?_ _) | (with_reducible refine Kd.C_drewN ?_ _) | (with_reducible refine Kd.C_drew ?_))); (case side2 => exact HC0_0.out); rintro e w9 ⟨v382, rfl, ho0, hb⟩; refine ⟨_, rfl, ?_⟩; have n0_ := Aside0.mk (Kd.R_lower ho0 (below_size (by repeat (first | (with_reducible first | exact HB.out | apply below_alloc | apply pw_below_drewN | apply below_drew1 | refine below_set ?_ GE379.out) | exact HB.out)))); have n1_ := Aside0.mk (blk_below (g := gb379) (o := .cells #[.slice A0_0 l0_0.length c0_0, .int .i64 a0_1, .int .i64 a0_2, .int .i64 a0_3] 26 (0, 0)) (bup BK379.out) hb); have n2_ := Aside0.mk (below_step (by repeat (first | (with_reducible first | exact HB.out | apply below_alloc | apply pw_below_drewN | apply below_drew1 | refine below_set ?_ GE379.out) | exact HB.out)) hb); clear BK379; clear HB; have HO383 := n0_; have BK379 := n1_; have HB := n2_; clear n0_ n1_ n2_; (try clear hb); (try clear hb2); (try clear hk); (try clear hi); (try clear ho0)))
  go_ret2
  exact ⟨_, by first | rfl | (simp [errW_none, errW_some] <;> rfl) | (simp [*, errW_none, errW_some] <;> rfl), by (with_reducible repeat (first | apply Kd.R_alloc | apply Kd.R_drewN | apply Kd.R_drew)); exact HO383.out, by repeat (first | (with_reducible first | exact HB.out | apply below_alloc | apply pw_below_drewN | apply below_drew1 | refine below_set ?_ GE379.out) | exact HB.out)⟩
 ·replace c3 := Bool.eq_false_iff.mpr c3
  subst c3
  have H1 : (some (([] : List (S70)), 2)) = some (r1, r2) := by rw [if_neg (show ¬ (false = true) by decide)] at H; exact H
  clear H
  have H := H1
  clear H1
  simp only [Option.some.injEq, Prod.mk.injEq] at H
  obtain ⟨rfl, rfl⟩ := H
  go_enter Tryz.func42, Tryz.ntmps42
  go_wp2_with (first | ((with_reducible refine gate_dst (N := 1) rfl ?_); refine box_event ?hg (N := 1) ?hd (cs := #[.slice A0_0 l0_0.length c0_0, .int .i64 a0_1, .int .i64 a0_2, .int .i64 a0_3]) (t := 26) ?hr ?_; (case hd => rfl); (case hg => rfl); (case hr => first | (go_simp; done) | (go_simp; rfl)); intro gb379 hg w10 hbox hb; have n0_ := Aside0.mk (below_step (wup HB.out) hb); have n1_ := Aside0.mk (hbox); have n2_ := Aside0.mk ((by rw [hg]; exact (below_size (wup HB.out)) : w.heap.size ≤ gb379)); have n3_ := Aside0.mk ((by rw [hg]; exact (below_size (wup HB.out)) : w.heap.size ≤ gb379)); clear HB; have HB := n0_; have BK379 := n1_; have GW379 := n2_; have GE379 := n3_; clear n0_ n1_ n2_ n3_; clear hb hbox hg; have hcz11_0 : w10.cell? ⟨gb379, 0, none⟩ = some (.slice A0_0 l0_0.length c0_0) := (blk_cell BK379.out 0).trans rfl; have hcz11_1 : w10.cell? ⟨gb379, 1, none⟩ = some (.int .i64 a0_1) := (blk_cell BK379.out 1).trans rfl; have hcz11_2 : w10.cell? ⟨gb379, 2, none⟩ = some (.int .i64 a0_2) := (blk_cell BK379.out 2).trans rfl; have hcz11_3 : w10.cell? ⟨gb379, 3, none⟩ = some (.int .i64 a0_3) := (blk_cell BK379.out 3).trans rfl; have hfz11_0 := blk_frozen BK379.out 0; have hfz11_1 := blk_frozen BK379.out 1; have hfz11_2 := blk_frozen BK379.out 2; have hfz11_3 := blk_frozen BK379.out 3) | ((with_reducible refine gate_callee (f := 63) rfl ?_); refine goesL_ (some 5) rfl rfl Tryz.func63 (by kernel_rfl) rfl #[.agg #[.slice A0_0 l0_0.length c0_0, .int .i64 a0_1, .int .i64 a0_2, .int .i64 a0_3]] rfl (by (try simp only [List.map_toArray, List.map_cons, List.map_nil]); first | done | rfl | (simp only [List.length_drop, List.length_take]; rfl)) ?_; (with_reducible refine (column_isSheet.calls _ _ l0_0 a0_1 a0_2 a0_3 false _ ?side1 ?side2 A2.out).mono ?_); (case side1 => repeat (first | exact (Kd.C_below HR0_0.out HB.out) | (with_reducible refine Kd.C_alloc ?_ _) | (with_reducible refine Kd.C_drewN ?_ _) | (with_reducible refine Kd.C_drew ?_))); (case side2 => exact HC0_0.out); rintro e w12 ⟨rfl, hb⟩; refine ⟨_, rfl, ?_⟩; have n0_ := Aside0.mk (blk_below (g := gb379) (o := .cells #[.slice A0_0 l0_0.length c0_0, .int .i64 a0_1, .int .i64 a0_2, .int .i64 a0_3] 26 (0, 0)) (bup BK379.out) hb); have n1_ := Aside0.mk (below_step (by repeat (first | (with_reducible first | exact HB.out | apply below_alloc | apply pw_below_drewN | apply below_drew1 | refine below_set ?_ GE379.out) | exact HB.out)) hb); clear BK379; clear HB; have BK379 := n0_; have HB := n1_; clear n0_ n1_; (try clear hb); (try clear hb2); (try clear hk); (try clear hi)))
  go_ret2
  exact ⟨_, by first | rfl | (simp [errW_none, errW_some] <;> rfl) | (simp [*, errW_none, errW_some] <;> rfl), by first | exact Kd.R_nil _ _ _ _ _ | exact Kd.N_nil _ _ _ _ _ | exact Kd.V_nil _ _ _ _ _ | exact Kd.Q_nil _ _ _ _ _ | exact Kd.S_nil _ _ _ _ _, by repeat (first | (with_reducible first | exact HB.out | apply below_alloc | apply pw_below_drewN | apply below_drew1 | refine below_set ?_ GE379.out) | exact HB.out)⟩
end Go.Proofs.YtohlmoppcmjknaaGreatDoor.P
end
section
namespace Go.Proofs.YtohlmoppcmjknaaGreatDoor.Col
open Go.RowKit Go.Proofs.YtohlmoppcmjknaaGreatDoorW.PrintWords Go.Proofs.YtohlmoppcmjknaaGreatDoorW.PrintLast Go.Proofs.YtohlmoppcmjknaaGreatDoorW.PrintMore Go.Proofs.YtohlmoppcmjknaaGreatDoor.P
set_option linter.unusedVariables false
theorem small_of {l : List Int} {o lo hi : Int} (h1 : 1 ≤ l.length) (h2 : l.length ≤ 15) (h3 : 1 ≤ o) (h4 : o ≤ 3) (h5 : -99999 ≤ lo) (h6 : lo ≤ 99999) (h7 : -99999 ≤ hi) (h8 : hi ≤ 99999) (h9 : Bd l 9999) : small l o lo hi = true := by
 unfold small
 simp only [Bool.and_eq_true, inr, decide_eq_true_eq, List.all_eq_true]
 exact ⟨⟨⟨⟨by omega, by omega⟩, ⟨h3, h4⟩⟩, ⟨h5, h6⟩⟩, ⟨h7, h8⟩⟩ |> fun h => ⟨h, fun x hx => h9 x hx⟩
theorem small_take {l : List Int} {o lo hi : Int} (h : small l o lo hi = true) : 1 ≤ l.length ∧ l.length ≤ 15 ∧ 1 ≤ o ∧ o ≤ 3 ∧ -99999 ≤ lo ∧ lo ≤ 99999 ∧ -99999 ≤ hi ∧ hi ≤ 99999 ∧ Bd l 9999 := by
 unfold small at h
 simp only [Bool.and_eq_true] at h
 obtain ⟨⟨⟨⟨h1, h2⟩, h3⟩, h4⟩, h5⟩ := h
 simp only [inr, Bool.and_eq_true, decide_eq_true_eq] at h1 h2 h3 h4
 exact ⟨by omega, by omega, h2.1, h2.2, h3.1, h3.2, h4.1, h4.2, bd_of_all h5⟩
theorem Bd.set {l : List Int} {b : Int} (h : Bd l b) (r : Nat) {v : Int} (h1 : -b ≤ v) (h2 : v ≤ b) : Bd (l.set r v) b := by
 intro x hx
 rcases List.mem_or_eq_of_mem_set hx with hx | rfl
 ·exact h x hx
 ·exact ⟨h1, h2⟩
theorem small_set {l : List Int} {o lo hi : Int} (h : small l o lo hi = true) (r : Nat) {v : Int} (h1 : -9999 ≤ v) (h2 : v ≤ 9999) : small (l.set r v) o lo hi = true := by
 obtain ⟨a1, a2, a3, a4, a5, a6, a7, a8, a9⟩ := small_take h
 exact small_of (by rw [List.length_set]; exact a1) (by rw [List.length_set]; exact a2) a3 a4 a5 a6 a7 a8 (a9.set r h1 h2)
theorem narrow_within (l : List Int) (o lo hi row : Int) : ∀ (ws : List Nat) (s : Int × Int), s.1 ≤ (ws.foldl (narrow l o lo hi row) s).1 ∧ (ws.foldl (narrow l o lo hi row) s).2 ≤ s.2
 | [], s => ⟨Int.le_refl _, Int.le_refl _⟩
 | w :: ws, s => by
  rw [List.foldl_cons]
  have h := narrow_within l o lo hi row ws (narrow l o lo hi row s w)
  have h2 : s.1 ≤ (narrow l o lo hi row s w).1 ∧ (narrow l o lo hi row s w).2 ≤ s.2 := by
   unfold narrow
   split
   ·exact ⟨Int.le_max_left _ _, Int.min_le_left _ _⟩
   ·exact ⟨Int.le_refl _, Int.le_refl _⟩
  exact ⟨Int.le_trans h2.1 h.1, Int.le_trans h.2 h2.2⟩
theorem between_within (l : List Int) (o lo hi row : Int) : -9999 ≤ (between l o lo hi row).1 ∧ (between l o lo hi row).2 ≤ 9999 := narrow_within l o lo hi row _ (-9999, 9999)
def toFix (x : Int × Int × Int) : S70 := ⟨x.1, ⟨x.2.1, x.2.2⟩⟩
def fixesTo (l : List Int) (o lo hi : Int) (j : Nat) : List (Int × Int × Int) := (List.range j).flatMap (fixAt l o lo hi)
theorem fixesTo_succ (l : List Int) (o lo hi : Int) (j : Nat) : fixesTo l o lo hi (j + 1) = fixesTo l o lo hi j ++ fixAt l o lo hi j := by simp [fixesTo, List.range_succ]
theorem fixAt_length (l : List Int) (o lo hi : Int) (r : Nat) : (fixAt l o lo hi r).length ≤ 1 := by
 unfold fixAt
 simp only []
 split <;> simp
theorem fixesTo_length (l : List Int) (o lo hi : Int) : ∀ j, (fixesTo l o lo hi j).length ≤ j
 | 0 => by simp [fixesTo]
 | j + 1 => by
  rw [fixesTo_succ, List.length_append]
  have := fixesTo_length l o lo hi j
  have := fixAt_length l o lo hi j
  omega
theorem fbetween_small {l : List Int} {o lo hi row : Int} (h : small l o lo hi = true) : column_between.f l o lo hi row = some (between l o lo hi row) := by
 show fbetween l o lo hi row = _
 unfold fbetween
 rw [if_pos h]
theorem fruns_small {l : List Int} {o lo hi : Int} (h : small l o lo hi = true) : column_runs.f l o lo hi = some (runs l o lo hi) := by
 show fruns l o lo hi = _
 unfold fruns
 rw [if_pos h]
theorem fwith {l : List Int} {o lo hi v : Int} {r : Nat} (hl : l.length ≤ 1000) (hr : r < l.length) : column_with.f l o lo hi (r : Int) v = some (l.set r v, o, lo, hi) := by
 unfold column_with.f slices_Clone_int_int.f
 rw [if_pos (by omega)]
 simp only [Option.bind_some]
 rw [if_pos (by omega), if_pos (by omega), Int.toNat_natCast]
theorem wrap_one {i : Int} (h0 : 0 ≤ i) (h1 : i ≤ 1000000) : wrap64 (i + 1) = i + 1 := by unfold wrap64; omega
theorem wrap_nat {j : Nat} (h : j ≤ 1000000) : wrap64 ((j : Int) + 1) = ((j + 1 : Nat) : Int) := by rw [wrap_one (by omega) (by omega)]; omega
theorem map_len_lt {α β : Type} (l : List α) (f : α → β) {n N : Nat} (h : l.length ≤ n) (hn : n < N) : (l.map f).length < N := by rw [List.length_map]; exact Nat.lt_of_le_of_lt h hn
theorem fixes_l0 {l : List Int} {o lo hi : Int} (h : small l o lo hi = true) : ∀ (d j k : Nat), j + d = l.length → d < k →
  column_fixes.l0 k ((fixesTo l o lo hi j).map toFix) (l.length : Int) (j : Int) l o lo hi = some ((fixes l o lo hi).map toFix) := by
 obtain ⟨a1, a2, a3, a4, a5, a6, a7, a8, a9⟩ := small_take h
 intro d
 induction d with
 | zero =>
  intro j k hj hk
  obtain ⟨k, rfl⟩ : ∃ m, k = m + 1 := ⟨k - 1, by omega⟩
  have e : j = l.length := by omega
  subst e
  simp only [column_fixes.l0]
  rw [if_neg (by omega)]
  rfl
 | succ d ih =>
  intro j k hj hk
  obtain ⟨k, rfl⟩ : ∃ m, k = m + 1 := ⟨k - 1, by omega⟩
  have ih' := ih (j + 1) k (by omega) (by omega)
  have hlen := fixesTo_length l o lo hi j
  have hbw := between_within l o lo hi (j : Int)
  have hj15 : j ≤ 1000000 := by omega
  have hml : ((fixesTo l o lo hi j).map toFix).length < 5864062014805 := map_len_lt _ _ (Nat.le_trans hlen (show j ≤ 1000 by omega)) (by decide)
  rw [fixesTo_succ] at ih'
  unfold fixAt at ih'
  simp only [column_fixes.l0]
  rw [if_pos (by omega), fbetween_small h]
  simp only [Option.bind_some]
  rw [wrap_nat hj15]
  by_cases hc : (between l o lo hi (j : Int)).1 ≤ (between l o lo hi (j : Int)).2
  ·rw [if_pos hc, fwith (by omega) (by omega)]
   simp only [Option.bind_some]
   rw [fruns_small (small_set h j (by omega) (by omega))]
   simp only [Option.bind_some]
   by_cases hr : runs (l.set j (between l o lo hi (j : Int)).1) o lo hi = true
   ·rw [if_pos hr, if_pos hml]
    simp only [] at ih'
    rw [if_pos ⟨hc, hr⟩, List.map_append] at ih'
    exact ih'
   ·rw [if_neg hr]
    simp only [] at ih'
    rw [if_neg (fun hh => hr hh.2), List.append_nil] at ih'
    exact ih'
  ·rw [if_neg hc]
   simp only [] at ih'
   rw [if_neg (fun hh => hc hh.1), List.append_nil] at ih'
   exact ih'
theorem ffixes {l : List Int} {o lo hi : Int} (h : small l o lo hi = true) {k : Nat} (hk : l.length < k) : column_fixes.f k l o lo hi = some ((fixes l o lo hi).map toFix) := by
 unfold column_fixes.f
 exact fixes_l0 h l.length 0 k (by omega) hk
end Go.Proofs.YtohlmoppcmjknaaGreatDoor.Col
end
section
namespace Go.Proofs.YtohlmoppcmjknaaGreatDoor.X
open Go.RowKit Go.Proofs.YtohlmoppcmjknaaGreatDoorW.PrintWords Go.Proofs.YtohlmoppcmjknaaGreatDoorW.PrintLast Go.Proofs.YtohlmoppcmjknaaGreatDoorW.PrintMore
open Go.Proofs.YtohlmoppcmjknaaGreatDoor.Col (nth)
set_option linter.unusedVariables false
set_option linter.unusedSimpArgs false
abbrev Ch := Int × Int × Int
def kch : Kd Ch := Kd.pair (Kd.int .i64) (Kd.pair (Kd.int .i64) (Kd.int .i64))
theorem kch_open {w : World} {x : Ch} {cs : List Value} (h : kch.K w x cs) : cs = [.int .i64 x.1, .int .i64 x.2.1, .int .i64 x.2.2] := by
 obtain ⟨_, _, rfl, rfl, _, _, rfl, rfl, rfl⟩ := h
 exact rfl
theorem kch_mkM (w : World) (base : Nat) (ok : Nat → Prop) (x : Ch) : kch.M w base ok x [.int .i64 x.1, .int .i64 x.2.1, .int .i64 x.2.2] := ⟨[.int .i64 x.1], [.int .i64 x.2.1, .int .i64 x.2.2], rfl, rfl, [.int .i64 x.2.1], [.int .i64 x.2.2], rfl, rfl, rfl⟩
theorem at_ch {w : World} {A : Option Addr} {n : Nat} {xs : List Ch} (h : Kd.C kch w A n xs) (j : Nat) (hj : j < n) : ∃ ad, A = some ad ∧ w.cell? (ad.add (j * 3)) = some (.int .i64 (xs.getD j (0, 0, 0)).1) ∧ w.cell? ⟨(ad.add (j * 3)).block, (ad.add (j * 3)).off + 1, none⟩ = some (.int .i64 (xs.getD j (0, 0, 0)).2.1) ∧ w.cell? ⟨(ad.add (j * 3)).block, (ad.add (j * 3)).off + 2, none⟩ = some (.int .i64 (xs.getD j (0, 0, 0)).2.2) := by
 obtain ⟨ad, c, e, _, hK, hc0⟩ := Kd.C_get h (0, 0, 0) (j : Int) (by omega) (by omega)
 rw [Int.toNat_natCast] at hK hc0
 have hc : ∀ i u, c[i]? = some u → w.cell? (ad.add (j * 3 + i)) = some u := hc0
 obtain rfl := kch_open hK
 exact ⟨ad, e, hc 0 _ rfl, by rw [← add_field _ _ 1 (by omega)]; exact hc 1 _ rfl, by rw [← add_field _ _ 2 (by omega)]; exact hc 2 _ rfl⟩
def bestOf (l : List Ch) : Ch := (Col.bestChange l).getD (0, 0, 0)
theorem bestOf_one (x : Ch) : bestOf [x] = x := rfl
theorem bestOf_snoc {l : List Ch} (h : l ≠ []) (x : Ch) : bestOf (l ++ [x]) = if x.2.2 < (bestOf l).2.2 then x else bestOf l := by
 cases l with
 | nil => exact absurd rfl h
 | cons a l =>
  show ((a :: (l ++ [x])) |> fun l => bestOf l) = _
  simp only [bestOf, Col.bestChange, Option.getD_some, List.foldl_append]
  rfl
theorem take_snoc_ch {l : List Ch} {j : Nat} (hj : j < l.length) : l.take (j + 1) = l.take j ++ [l.getD j (0, 0, 0)] := by
 rw [List.take_succ_eq_append_getElem hj]
 simp [List.getD_eq_getElem?_getD, hj]
set_option maxRecDepth 100000 in
theorem least1_calls (a b : Ch) (w : World) :
  Calls Tryz.prog 89 #[.agg #[.int .i64 a.1, .int .i64 a.2.1, .int .i64 a.2.2], .agg #[.int .i64 b.1, .int .i64 b.2.1, .int .i64 b.2.2]] w fun e w' => e = .returned (.bool (decide (a.2.2 < b.2.2))) ∧ Below w.heap.size w w' := by
 go_enter Tryz.func89, Tryz.ntmps89
 go_wp2
 go_ret
 exact ⟨by simp, ((Below.refl _ _).alloc (Nat.le_refl _) _).alloc (by simp) _⟩
theorem newbox_below {w w2 : World} {o : Obj} (h : Below (w.alloc o).heap.size (w.alloc o) w2) : Below w.heap.size w w2 := ((Below.refl _ _).alloc (Nat.le_refl _) _).trans (h.mono (by simp))
theorem newbox_at {w w2 : World} {o : Obj} (h : Below (w.alloc o).heap.size (w.alloc o) w2) : w2.heap[w.heap.size]? = some o := blk_below (blk_new w o) h
structure BSt (w wr : World) (x : Ch) : Prop where
 b0 : wr.heap[w.heap.size]? = some (.cells #[.int .i64 0, .int .i64 0, .int .i64 0] 106 (0, 0))
 b1 : wr.heap[w.heap.size + 1]? = some (.cells #[.int .i64 x.1, .int .i64 x.2.1, .int .i64 x.2.2] 106 (0, 0))
 below : Below w.heap.size w wr
theorem BSt.step {w wr w' : World} {x : Ch} (h : BSt w wr x) (hb : Below wr.heap.size wr w') : BSt w w' x := ⟨blk_below h.b0 hb, blk_below h.b1 hb, below_step h.below hb⟩
theorem BSt.put {w wr : World} {x : Ch} (h : BSt w wr x) (y : Ch) : BSt w (((wr.setCell ⟨w.heap.size + 1, 0, none⟩ (.int .i64 y.1)).setCell ⟨w.heap.size + 1, 1, none⟩ (.int .i64 y.2.1)).setCell ⟨w.heap.size + 1, 2, none⟩ (.int .i64 y.2.2)) y := by
 refine ⟨blk_far (blk_far (blk_far h.b0 (by simp) _) (by simp) _) (by simp) _, blk_put (blk_put (blk_put h.b1 0 _ rfl) 1 _ rfl) 2 _ rfl, ?_⟩
 exact ((h.below.setCell (p := ⟨w.heap.size + 1, 0, none⟩) (by simp) _).setCell (p := ⟨w.heap.size + 1, 1, none⟩) (by simp) _).setCell (p := ⟨w.heap.size + 1, 2, none⟩) (by simp) _
set_option maxHeartbeats 4000000 in
set_option maxRecDepth 100000 in
theorem bestc_calls (A : Option Addr) (c : Nat) (xs : List Ch) (w : World) (hl : xs.length ≤ 1000) (hx : Kd.C kch w A xs.length xs) :
  Calls Tryz.prog 88 #[.slice A xs.length c, .func (.func 89) #[] #[]] w fun e w' =>
   e = .returned (.tuple #[.agg #[.int .i64 (bestOf xs).1, .int .i64 (bestOf xs).2.1, .int .i64 (bestOf xs).2.2], .bool (decide (0 < xs.length))]) ∧ Below w.heap.size w w' := by
 have eg : ∀ (args : Array Value) (W : World), (callFunc 89 args).run Tryz.prog W = .ok (.enter 89 args) W := fun args W => by kernel_rfl
 have HX := Aside0.mk hx
 clear hx
 go_enter Tryz.func88, Tryz.ntmps88
 go_wp2_with fail
 refine world_two (G := fun W => Code.wp _ _ _ _ W) ?_
 intro W0 g0 g1 hB0 hsz
 have hst : Aside0 (BSt w W0 (bestOf (xs.take 0))) := ⟨⟨g0, g1, hB0⟩⟩
 clear g0 g1 hB0 hsz
 go_loopw [11] (fun i wr => ∃ j : Nat, j ≤ xs.length ∧ i = .int .i64 (j : Int) ∧ Aside0 (BSt w wr (bestOf (xs.take j)))) (fun i _ => xs.length - (intOf i).toNat)
 case atStart => exact ⟨0, by omega, rfl, hst⟩
 case round =>
  clear hst
  obtain ⟨j, hj, rfl, HS⟩ := hrel
  by_cases hlt : j < xs.length
  ·obtain ⟨ad, rfl, hc0, hc1, hc2⟩ := at_ch (Kd.C_below HX.out HS.out.below) j hlt
   have HT := Lib.hid (take_snoc_ch hlt)
   generalize xs.getD j (0, 0, 0) = x at *
   have hsz := (Array.getElem?_eq_some_iff.1 HS.out.b1).1
   by_cases hj0 : j = 0
   ·subst hj0
    have HB : Hid (bestOf (xs.take 1) = x) := Lib.hid (by rw [show (1 : Nat) = 0 + 1 from rfl, HT.out]; rfl)
    have he : (((0 : Nat) : Int) == 0) = true := rfl
    have ej : (0 * 3 : Nat) = 0 := rfl
    have hb0 := (blk_cell HS.out.b1 0).trans rfl
    have hb1 := (blk_cell HS.out.b1 1).trans rfl
    have hb2 := (blk_cell HS.out.b1 2).trans rfl
    have hf0 := blk_frozen HS.out.b1 0
    have hf1 := blk_frozen HS.out.b1 1
    have hf2 := blk_frozen HS.out.b1 2
    rw [ej, Addr.add_zero'] at hc0 hc1 hc2
    clear ej
    go_wp2
    exact ⟨⟨1, by omega, by go_num, ⟨by rw [HB.out]; exact (HS.out.put x).step ((Below.refl _ _).alloc (Nat.le_refl _) _)⟩⟩, by simp [intOf]; omega⟩
   ·have HB : Hid (bestOf (xs.take (j + 1)) = if x.2.2 < (bestOf (xs.take j)).2.2 then x else bestOf (xs.take j)) := Lib.hid (by rw [HT.out]; exact bestOf_snoc (by intro h; have := congrArg List.length h; rw [List.length_take, List.length_nil] at this; omega) x)
    have he : ((j : Int) == 0) = false := by rw [beq_eq_false_iff_ne]; omega
    have HC := Lib.hid (fun W => least1_calls x (bestOf (xs.take j)) W)
    have HP := Lib.hid (fun (W : World) (hW : Below wr.heap.size wr W) => (⟨(blk_cell (HS.out.step hW).b1 0).trans rfl, (blk_cell (HS.out.step hW).b1 1).trans rfl, (blk_cell (HS.out.step hW).b1 2).trans rfl, blk_frozen (HS.out.step hW).b1 0, blk_frozen (HS.out.step hW).b1 1, blk_frozen (HS.out.step hW).b1 2⟩ : _ ∧ _ ∧ _ ∧ _ ∧ _ ∧ _))
    obtain ⟨hb0, hb1, hb2, _⟩ := HP.out wr (Below.refl _ _)
    generalize bestOf (xs.take j) = y at *
    go_wp2_with fail
    refine (HC.out _).mono ?_
    rintro e w' ⟨rfl, hb⟩
    have hbw := newbox_below hb
    have hg8 := newbox_at hb
    have hx0 := (blk_cell hg8 0).trans rfl
    have hx1 := (blk_cell hg8 1).trans rfl
    have hx2 := (blk_cell hg8 2).trans rfl
    clear hb0 hb1 hb2
    obtain ⟨hb0, hb1, hb2, hf0, hf1, hf2⟩ := HP.out w' hbw
    have HBW := Aside0.mk hbw
    clear hbw hg8 hb hc0 hc1 hc2 HC
    by_cases hlt2 : x.2.2 < y.2.2
    ·have HL := Lib.hid hlt2
     have hd : decide (x.2.2 < y.2.2) = true := decide_eq_true hlt2
     rw [hd]
     clear hlt2 hd
     go_wp2
     exact ⟨⟨j + 1, by omega, by go_num, ⟨by rw [HB.out, if_pos HL.out]; exact (HS.out.step HBW.out).put x⟩⟩, by simp [intOf]; omega⟩
    ·have HL := Lib.hid hlt2
     have hd : decide (x.2.2 < y.2.2) = false := decide_eq_false hlt2
     rw [hd]
     clear hlt2 hd
     go_wp2
     exact ⟨⟨j + 1, by omega, by go_num, ⟨by rw [HB.out, if_neg (by have := HL.out; omega)]; exact HS.out.step HBW.out⟩⟩, by simp [intOf]; omega⟩
  ·have e : j = xs.length := by omega
   subst e
   rw [List.take_length] at HS
   generalize hy : bestOf xs = y at *
   have HY := Lib.hid hy
   clear hy
   have hb0 := (blk_cell HS.out.b1 0).trans rfl
   have hb1 := (blk_cell HS.out.b1 1).trans rfl
   have hb2 := (blk_cell HS.out.b1 2).trans rfl
   have hc0 := (blk_cell HS.out.b0 0).trans rfl
   have hc1 := (blk_cell HS.out.b0 1).trans rfl
   have hc2 := (blk_cell HS.out.b0 2).trans rfl
   have hf0 := blk_frozen HS.out.b0 0
   have hf1 := blk_frozen HS.out.b0 1
   have hf2 := blk_frozen HS.out.b0 2
   go_wp2
   refine bodyPost_ret (results_ct rfl _ _ w.heap.size 106 #[.int .i64 y.1, .int .i64 y.2.1, .int .i64 y.2.2] (0, 0) _ rfl (blk_put (blk_put (blk_put HS.out.b0 0 _ rfl) 1 _ rfl) 2 _ rfl) Tryz.underlying106 rfl (by kernel_rfl)) rfl ?_
   rw [HY.out]
   exact ⟨rfl, ((HS.out.below.setCell (p := ⟨w.heap.size, 0, none⟩) (by simp) _).setCell (p := ⟨w.heap.size, 1, none⟩) (by simp) _).setCell (p := ⟨w.heap.size, 2, none⟩) (by simp) _⟩
end Go.Proofs.YtohlmoppcmjknaaGreatDoor.X
namespace Go.Proofs.YtohlmoppcmjknaaGreatDoor.P
open Go.RowKit Go.Proofs.YtohlmoppcmjknaaGreatDoorW.PrintWords Go.Proofs.YtohlmoppcmjknaaGreatDoorW.PrintLast Go.Proofs.YtohlmoppcmjknaaGreatDoorW.PrintMore Go.Proofs.YtohlmoppcmjknaaGreatDoor.X
open Go.Proofs.YtohlmoppcmjknaaGreatDoor.Col (nth toFix)
set_option linter.unusedVariables false
set_option linter.unusedSimpArgs false
theorem info_ch : (Tryz.prog.info? 106).map (fun i => (i.zero, i.size, i.bytes)) = some (some (.agg #[(.int .i64 0), (.int .i64 0), (.int .i64 0)]), 3, 24) := by kernel_rfl
theorem fixes_mem {l : List Int} {o lo hi : Int} {x : Int × Int × Int} (h : x ∈ Col.fixes l o lo hi) : ∃ r : Nat, x.1 = (r : Int) ∧ r < l.length ∧ x.2.1 = (Col.between l o lo hi r).1 ∧ x.2.2 = (Col.between l o lo hi r).2 ∧ x.2.1 ≤ x.2.2 := by
 unfold Col.fixes at h
 obtain ⟨r, hr, hx⟩ := List.mem_flatMap.1 h
 unfold Col.fixAt at hx
 simp only [] at hx
 split at hx
 ·rename_i hc
  rw [List.mem_singleton] at hx
  subst hx
  exact ⟨r, rfl, List.mem_range.1 hr, rfl, rfl, hc.1⟩
 ·cases hx
theorem fixes_bd {l : List Int} {o lo hi : Int} {x : Int × Int × Int} (h : x ∈ Col.fixes l o lo hi) : -9999 ≤ x.2.1 ∧ x.2.1 ≤ x.2.2 ∧ x.2.2 ≤ 9999 := by
 obtain ⟨r, h1, h2, h3, h4, h5⟩ := fixes_mem h
 have := Col.between_within l o lo hi (r : Int)
 rw [h3, h4] at *
 omega
theorem fixes_length (l : List Int) (o lo hi : Int) : (Col.fixes l o lo hi).length ≤ l.length := Col.fixesTo_length l o lo hi l.length
attribute [local go_sem] max2_m min2_m max_two min_two
set_option maxHeartbeats 8000000 in
set_option maxRecDepth 100000 in
theorem column_Least.calls (A0_0 : Option Addr) (c0_0 : Nat) (l0_0 : List Int) (a0_1 : Int) (a0_2 : Int) (a0_3 : Int) (r1 : Int) (r2 : Int) (r3 : Int) (w : World) (hr0_0 : Kd.C (Kd.int .i64) w A0_0 l0_0.length l0_0) (hc0_0 : l0_0.length ≤ c0_0) (h : column_Least.f l0_0 a0_1 a0_2 a0_3 = some (r1, r2, r3)) :
  Calls Tryz.prog 48 #[.agg #[.slice A0_0 l0_0.length c0_0, .int .i64 a0_1, .int .i64 a0_2, .int .i64 a0_3]] w fun e w' => e = .returned (.tuple #[.int .i64 r1, .int .i64 r2, .int .i64 r3]) ∧ Below w.heap.size w w' := by
 have hr : Col.fLeast l0_0 a0_1 a0_2 a0_3 = some (r1, r2, r3) := h
 unfold Col.fLeast at hr
 have HS := Lib.hid (fun W (hb : Below w.heap.size w W) => column_isSheet.calls A0_0 c0_0 l0_0 a0_1 a0_2 a0_3 (Col.isSheet l0_0 a0_1 a0_2 a0_3) W (CI.below hr0_0 hb) hc0_0 rfl)
 cases hs : Col.isSheet l0_0 a0_1 a0_2 a0_3 with
 | false =>
  rw [hs] at HS hr
  simp only [Bool.false_eq_true, if_false, Option.some.injEq, Prod.mk.injEq] at hr
  obtain ⟨rfl, rfl, rfl⟩ := hr
  clear h hs hr0_0 hc0_0
  go_enter Tryz.func48, Tryz.ntmps48
  go_wp2_with fail
  refine (HS.out _ ((Below.refl _ _).alloc (Nat.le_refl _) _)).mono ?_
  rintro e w' ⟨rfl, hb⟩
  have HB := Aside0.mk (box_of hb)
  clear hb HS
  go_wp2
  go_ret3
  exact ⟨rfl, below_box HB.out⟩
 | true =>
  have hsm := small_of_sheet hs
  obtain ⟨l1, l15, ho1, ho3, _, _, _, _, hbd⟩ := small_parts hsm
  rw [hs] at HS hr
  have HR := Lib.hid (fun W (hb : Below w.heap.size w W) => column_runs.calls A0_0 c0_0 l0_0 a0_1 a0_2 a0_3 (Col.runs l0_0 a0_1 a0_2 a0_3) W (CI.below hr0_0 hb) hc0_0 (Col.fruns_small hsm))
  simp only [if_true] at hr
  cases hru : Col.runs l0_0 a0_1 a0_2 a0_3 with
  | true =>
   rw [hru] at HR hr
   simp only [if_true, Option.some.injEq, Prod.mk.injEq] at hr
   obtain ⟨rfl, rfl, rfl⟩ := hr
   clear h hs hr0_0 hc0_0 hsm hru hbd
   go_enter Tryz.func48, Tryz.ntmps48
   go_wp2_with fail
   refine (HS.out _ ((Below.refl _ _).alloc (Nat.le_refl _) _)).mono ?_
   rintro e w' ⟨rfl, hb⟩
   have HB := Aside0.mk (box_of hb)
   have hc0 := box_cell HB.out 0 rfl
   have hc1 := box_cell HB.out 1 rfl
   have hc2 := box_cell HB.out 2 rfl
   have hc3 := box_cell HB.out 3 rfl
   clear hb HS
   go_wp2_with fail
   refine (HR.out _ (below_box HB.out)).mono ?_
   rintro e w2 ⟨rfl, hb⟩
   have HB2 := Aside0.mk (below_step (below_box HB.out) hb)
   clear hb HR HB hc0 hc1 hc2 hc3
   go_wp2
   go_ret3
   exact ⟨rfl, HB2.out⟩
  | false =>
   rw [hru] at HR hr
   have HF := Lib.hid (fun W (hb : Below w.heap.size w W) => column_fixes.calls (l0_0.length + 1) A0_0 c0_0 l0_0 a0_1 a0_2 a0_3 _ W (CI.below hr0_0 hb) hc0_0 (Col.ffixes hsm (Nat.lt_succ_self _)))
   have HFB := Lib.hid (fun x (hx : x ∈ Col.fixes l0_0 a0_1 a0_2 a0_3) => fixes_bd hx)
   have HFM := Lib.hid (fun x (hx : x ∈ Col.fixes l0_0 a0_1 a0_2 a0_3) => fixes_mem hx)
   have hFl := fixes_length l0_0 a0_1 a0_2 a0_3
   have HL : Aside0 (CI w A0_0 l0_0) := ⟨hr0_0⟩
   have HBD := Aside0.mk hbd
   generalize Col.fixes l0_0 a0_1 a0_2 a0_3 = F at *
   clear h hs hr0_0 hsm hru hbd
   have HH := Lib.hid hr
   clear hr
   go_enter Tryz.func48, Tryz.ntmps48
   go_wp2_with fail
   refine (HS.out _ ((Below.refl _ _).alloc (Nat.le_refl _) _)).mono ?_
   rintro e w' ⟨rfl, hb⟩
   have HB := Aside0.mk (box_of hb)
   have hc0 := box_cell HB.out 0 rfl
   have hc1 := box_cell HB.out 1 rfl
   have hc2 := box_cell HB.out 2 rfl
   have hc3 := box_cell HB.out 3 rfl
   clear hb HS
   go_wp2_with fail
   refine (HR.out _ (below_box HB.out)).mono ?_
   rintro e w2 ⟨rfl, hb⟩
   have HB2 := Aside0.mk (below_thru HB.out hb)
   clear hb HR HB hc0 hc1 hc2 hc3
   have hc0 := box_cell HB2.out 0 rfl
   have hc1 := box_cell HB2.out 1 rfl
   have hc2 := box_cell HB2.out 2 rfl
   have hc3 := box_cell HB2.out 3 rfl
   go_wp2_with fail
   refine (HF.out _ (below_box HB2.out)).mono ?_
   rintro e w3 ⟨v3, rfl, hv3, hb⟩
   have HB3 := Aside0.mk (below_thru HB2.out hb)
   obtain ⟨AF, cF, rfl, hcF, hCF⟩ := Kd.R_reads hv3
   have HCF := Aside0.mk hCF
   rw [List.length_map] at HCF
   rw [List.length_map]
   clear hb HF HB2 hc0 hc1 hc2 hc3 hv3 hCF hcF
   go_wp2
   go_loopw [5, 20] (fun v i wr => ∃ j : Nat, j ≤ F.length ∧ i = .int .i64 (j : Int) ∧ Aside0 (Kd.R kch 106 wr w3.heap.size (fun _ => True) v ((F.map (Col.change l0_0)).take j)) ∧ Aside0 (Below w3.heap.size w3 wr)) (fun _ i _ => F.length - (intOf i).toNat)
   case atStart => exact ⟨0, by omega, rfl, ⟨Kd.R_nil _ _ _ _ _⟩, ⟨Below.refl _ _⟩⟩
   case round =>
    obtain ⟨j, hj, rfl, HV, HBr⟩ := hrel
    by_cases hlt : j < F.length
    ·obtain ⟨x, hx⟩ : ∃ x, F[j]? = some x := ⟨_, List.getElem?_eq_getElem hlt⟩
     have hxm := List.mem_of_getElem? hx
     obtain ⟨hb1, hb2, hb3⟩ := HFB.out x hxm
     obtain ⟨r, hr1, hr2, hr3⟩ := HFM.out x hxm
     clear hr3
     obtain ⟨ad, rfl, hcx0, hcx1, hcx2⟩ := at_T70 (Kd.C_below HCF.out HBr.out) (j : Int) (by omega) (by omega)
     have hrd : rd_T70 (F.map toFix) (j : Int) = toFix x := by
      unfold rd_T70
      rw [Int.toNat_natCast, List.getD_eq_getElem?_getD, List.getElem?_map, hx]
      rfl
     rw [hrd, Int.toNat_natCast] at hcx0 hcx1 hcx2
     have HT : Hid ((F.map (Col.change l0_0)).take (j + 1) = (F.map (Col.change l0_0)).take j ++ [Col.change l0_0 x]) := Lib.hid (by
      rw [take_snoc_ch (by rw [List.length_map]; exact hlt), List.getD_eq_getElem?_getD, List.getElem?_map, hx]
      rfl)
     obtain ⟨x1, a, b⟩ := x
     simp only at hr1 hb1 hb2 hb3
     subst hr1
     simp only [toFix] at hcx0 hcx1 hcx2
     obtain ⟨ad2, rfl, hco⟩ := (HL.out.below (below_step (below_box HB3.out) HBr.out)).at_ r hr2
     have hob := HBD.out.nth (by decide) r
     have hc0 := box_cell (below_thru HB3.out HBr.out) 0 rfl
     have HCH : Hid (Col.change l0_0 ((r : Int), a, b) = ((r : Int), max a (min b (nth l0_0 r)), max (max a (min b (nth l0_0 r)) - nth l0_0 r) (nth l0_0 r - max a (min b (nth l0_0 r))))) := Lib.hid (by
      unfold Col.change
      simp only [Int.toNat_natCast]
      rfl)
     generalize nth l0_0 r = old at *
     have hn1 : -9999 ≤ max a (min b old) := by omega
     have hn2 : max a (min b old) ≤ 9999 := by omega
     generalize hnear : max a (min b old) = near at *
     have hw3 : w.heap.size < wr.heap.size := by have h1 := HBr.out.size; have h2 := HB3.out.size; simp at h2; omega
     have had2 := World.block_lt_of_cell? _ _ hco
     clear hrd hx hxm HFB HFM
     go_wp2_with (at_builtin; refine Kd.R_append kch (w0 := w3) w3.heap.size rfl (.tmp 39) (.tmp 51) 104 106 (.agg #[(.int .i64 0), (.int .i64 0), (.int .i64 0)]) 24 rfl Tryz.underlying104 info_ch rfl (by decide) (by decide) _ ((F.map (Col.change l0_0)).take j) ((r : Int), near, max (near - old) (old - near)) _ (fun _ => True) (fun _ => False) rfl (by first | rfl | (simp; done) | (simp [Act.eval]; done) | (show Value.slice (some ⟨wr.heap.size + 1, 0, none⟩) 1 1 = _; simp)) ?hp (fun _ h => h.elim) (fun _ _ => trivial) ?hO ?hB ?hb ?hl ?_)
     case hp => exact kch_mkM _ _ _ _
     case hO => exact Kd.R_below HV.out ((Below.refl _ _).alloc (Nat.le_refl _) _)
     case hB => exact HBr.out.alloc HBr.out.size _
     case hb => exact (HBr.out.alloc HBr.out.size _).size
     case hl => simp; omega
     intro v1 w7 ho hb hg hat
     have HV7 : Aside0 (Kd.R kch 106 w7 w3.heap.size (fun _ => True) v1 ((F.map (Col.change l0_0)).take (j + 1))) := ⟨by rw [HT.out, HCH.out]; exact ho⟩
     have HB7 := Aside0.mk hb
     clear ho hb hg hat HV HBr hcx0 hcx1 hcx2 hco hc0 had2 hnear HCH
     go_wp2
     go_roundw
     case rel => exact ⟨j + 1, by omega, by go_num, HV7, HB7⟩
     case measure => simp [intOf]; omega
    ·have e : j = F.length := by omega
     subst e
     rw [List.take_of_length_le (by rw [List.length_map]; exact Nat.le_refl _)] at HV
     obtain ⟨AV, cV, rfl, hcV, hCV⟩ := Kd.R_reads HV.out
     have hcl : (F.map (Col.change l0_0)).length = F.length := List.length_map _
     have HBE := Lib.hid (bestc_calls AV cV (F.map (Col.change l0_0)) wr (by omega) hCV)
     have HBW := Aside0.mk (below_step (below_box HB3.out) HBr.out)
     have HNE : Hid (F.map (Col.change l0_0) = [] ∨ ∃ y, Col.bestChange (F.map (Col.change l0_0)) = some y) := Lib.hid (by
      cases F.map (Col.change l0_0) with
      | nil => exact .inl rfl
      | cons a l => exact .inr ⟨_, rfl⟩)
     clear hcV hCV HV hcl HFB HFM HL HBD
     generalize F.map (Col.change l0_0) = G at *
     go_wp2_with fail
     refine HBE.out.mono ?_
     rintro e w5 ⟨rfl, hb⟩
     have HB5 := Aside0.mk (below_step HBW.out hb)
     clear hb HBE
     rcases HNE.out with hg | ⟨y, hy⟩
     ·have HHr := HH.out
      subst hg
      simp only [Col.bestChange, Bool.false_eq_true, if_false, Option.some.injEq, Prod.mk.injEq] at HHr
      obtain ⟨rfl, rfl, rfl⟩ := HHr
      clear HH HNE
      go_wp2
      go_ret3
      exact ⟨rfl, HB5.out.alloc HB5.out.size _⟩
     ·have HHr := HH.out
      have hne : 0 < G.length := by
       cases G with
       | nil => simp [Col.bestChange] at hy
       | cons a l => simp
      have hd : decide (0 < G.length) = true := decide_eq_true hne
      have hbo : bestOf G = y := by unfold bestOf; rw [hy]; rfl
      rw [hy] at HHr
      simp only [Bool.false_eq_true, if_false, Option.some.injEq, Prod.mk.injEq] at HHr
      obtain ⟨rfl, rfl, rfl⟩ := HHr
      rw [hbo, hd]
      clear HH HNE hy hne hd hbo
      go_wp2
      go_quiet (fail)
      go_wp2
      go_ret3
      exact ⟨rfl, pw_below_drewN (HB5.out.alloc HB5.out.size _) _⟩
end Go.Proofs.YtohlmoppcmjknaaGreatDoor.P
end
section
namespace Go.Proofs.YtohlmoppcmjknaaGreatDoor.Col
def swapped (l : List Int) (j : Nat) : List Int := (l.set j (l.getD (j + 1) 0)).set (j + 1) (l.getD j 0)
def swaps (l : List Int) (o lo hi : Int) : List Int := ((List.range (l.length - 1)).filter fun j => runs (swapped l j) o lo hi).map fun n : Nat => (n : Int)
def fSwaps (l : List Int) (o lo hi : Int) : Option (List Int × Int) := some (if isSheet l o lo hi = true then (swaps l o lo hi, 0) else ([], 2))
end Go.Proofs.YtohlmoppcmjknaaGreatDoor.Col
namespace Go.Proofs.YtohlmoppcmjknaaGreatDoor.P
open Go.RowKit Go.Proofs.YtohlmoppcmjknaaGreatDoorW.PrintWords Go.Proofs.YtohlmoppcmjknaaGreatDoorW.PrintLast Go.Proofs.YtohlmoppcmjknaaGreatDoorW.PrintMore Go.Proofs.YtohlmoppcmjknaaGreatDoor.X
open Go.Proofs.YtohlmoppcmjknaaGreatDoor.Col (nth)
set_option linter.unusedVariables false
set_option linter.unusedSimpArgs false
theorem ne_sheetS : ∀ q, q ∈ 3 :: (Kd.int .i64).E → q ≠ 26 := by
 intro q hq
 rcases List.mem_cons.1 hq with rfl | h
 ·decide
 ·cases h
def swTo (l : List Int) (o lo hi : Int) (j : Nat) : List Int := ((List.range j).filter fun j => Col.runs (Col.swapped l j) o lo hi).map fun n : Nat => (n : Int)
theorem swTo_yes {l : List Int} {o lo hi : Int} {j : Nat} (h : Col.runs (Col.swapped l j) o lo hi = true) : swTo l o lo hi (j + 1) = swTo l o lo hi j ++ [(j : Int)] := by
 simp [swTo, List.range_succ, List.filter_append, h]
theorem swTo_no {l : List Int} {o lo hi : Int} {j : Nat} (h : Col.runs (Col.swapped l j) o lo hi = false) : swTo l o lo hi (j + 1) = swTo l o lo hi j := by
 simp [swTo, List.range_succ, List.filter_append, h]
theorem swTo_length (l : List Int) (o lo hi : Int) (j : Nat) : (swTo l o lo hi j).length ≤ j := by
 have := List.length_filter_le (fun j => Col.runs (Col.swapped l j) o lo hi) (List.range j)
 simpa [swTo] using this
set_option maxHeartbeats 2000000 in
set_option maxRecDepth 100000 in
theorem column_Swaps.calls (A0_0 : Option Addr) (c0_0 : Nat) (l0_0 : List Int) (a0_1 : Int) (a0_2 : Int) (a0_3 : Int) (r1 : List Int) (r2 : Int) (w : World) (hr0_0 : Kd.C (Kd.int .i64) w A0_0 l0_0.length l0_0) (hc0_0 : l0_0.length ≤ c0_0) (h : column_Swaps.f l0_0 a0_1 a0_2 a0_3 = some (r1, r2)) :
  Calls Tryz.prog 50 #[.agg #[.slice A0_0 l0_0.length c0_0, .int .i64 a0_1, .int .i64 a0_2, .int .i64 a0_3]] w fun e w' => ∃ v0_ : Value, e = .returned (.tuple #[v0_, .int .i64 r2]) ∧ Kd.R (Kd.int .i64) 3 w' w.heap.size (fun _ => True) v0_ r1 ∧ Below w.heap.size w w' := by
 have hr : Col.fSwaps l0_0 a0_1 a0_2 a0_3 = some (r1, r2) := h
 unfold Col.fSwaps at hr
 have HS := Lib.hid (fun W (hb : Below w.heap.size w W) => column_isSheet.calls A0_0 c0_0 l0_0 a0_1 a0_2 a0_3 (Col.isSheet l0_0 a0_1 a0_2 a0_3) W (CI.below hr0_0 hb) hc0_0 rfl)
 cases hs : Col.isSheet l0_0 a0_1 a0_2 a0_3 with
 | false =>
  rw [hs] at HS hr
  obtain ⟨rfl, rfl⟩ := Prod.mk.inj (Option.some.inj hr)
  clear hr h hs hr0_0 hc0_0
  go_enter Tryz.func50, Tryz.ntmps50
  go_wp2_with fail
  refine (HS.out _ ((Below.refl _ _).alloc (Nat.le_refl _) _)).mono ?_
  rintro e w' ⟨rfl, hb⟩
  have HB := Aside0.mk (box_of hb)
  clear hb HS
  go_wp2
  go_ret2
  exact ⟨_, rfl, Kd.R_nil _ _ _ _ _, below_box HB.out⟩
 | true =>
  have hsm := small_of_sheet hs
  obtain ⟨l1, l15, ho1, ho3, _, _, _, _, hbd⟩ := small_parts hsm
  rw [hs] at HS hr
  obtain ⟨rfl, rfl⟩ := Prod.mk.inj (Option.some.inj hr)
  have HL : Aside0 (CI w A0_0 l0_0) := ⟨hr0_0⟩
  have hfin : Col.swaps l0_0 a0_1 a0_2 a0_3 = swTo l0_0 a0_1 a0_2 a0_3 (l0_0.length - 1) := rfl
  have HBD := Lib.hid hbd
  have HSM := Lib.hid hsm
  show Calls _ _ _ w fun e w' => ∃ v0_ : Value, e = .returned (.tuple #[v0_, .int .i64 0]) ∧ RI w' w.heap.size v0_ (Col.swaps l0_0 a0_1 a0_2 a0_3) ∧ Below w.heap.size w w'
  rw [hfin]
  clear hr h hs hr0_0 hsm hbd hfin
  go_enter Tryz.func50, Tryz.ntmps50
  go_wp2_with fail
  refine (HS.out _ ((Below.refl _ _).alloc (Nat.le_refl _) _)).mono ?_
  rintro e w' ⟨rfl, hb⟩
  have HB := Aside0.mk (box_of hb)
  have hc0 := box_cell HB.out 0 rfl
  clear hb HS
  go_wp2
  clear hc0
  go_loopw [4, 16] (fun v i wr => ∃ j : Nat, j ≤ l0_0.length - 1 ∧ i = .int .i64 (j : Int) ∧ Aside0 (RI wr (w.heap.size + 1) v (swTo l0_0 a0_1 a0_2 a0_3 j)) ∧ Aside0 (Below (w.heap.size + 1) (w.alloc (.cells #[.slice A0_0 l0_0.length c0_0, .int .i64 a0_1, .int .i64 a0_2, .int .i64 a0_3] 26)) wr)) (fun _ i _ => l0_0.length - 1 - (intOf i).toNat)
  case atStart => exact ⟨0, by omega, rfl, ⟨Kd.R_nil _ _ _ _ _⟩, HB⟩
  case round =>
   clear HB
   obtain ⟨j, hj, rfl, HV, HB⟩ := hrel
   have hwr : w.heap.size + 1 ≤ wr.heap.size := by simpa using HB.out.size
   by_cases hlt : j < l0_0.length - 1
   ·have hlti : (j : Int) < (l0_0.length : Int) - 1 := by omega
    obtain ⟨ad, rfl, he1⟩ := (HL.out.below (below_box HB.out)).at_ (j + 1) (by omega)
    obtain ⟨ji, hji⟩ : ∃ x : Int, x = (j : Int) + 1 := ⟨_, rfl⟩
    have hjt : ji.toNat = j + 1 := by omega
    have HST := Lib.hid (fun W (hW : Below wr.heap.size wr W) => (⟨⟨box_cell (HB.out.trans (hW.mono (by omega))) 0 rfl, box_cell (HB.out.trans (hW.mono (by omega))) 1 rfl, box_cell (HB.out.trans (hW.mono (by omega))) 2 rfl, box_cell (HB.out.trans (hW.mono (by omega))) 3 rfl⟩, by
     obtain ⟨ad', e, hx⟩ := (HL.out.below ((below_box HB.out).trans (hW.mono (by omega)))).at_ (j + 1) (by omega)
     cases e; rw [hjt]; exact hx⟩ : (W.cell? ⟨w.heap.size, 0, none⟩ = some (.slice (some ad) l0_0.length c0_0) ∧ W.cell? ⟨w.heap.size, 1, none⟩ = some (.int .i64 a0_1) ∧ W.cell? ⟨w.heap.size, 2, none⟩ = some (.int .i64 a0_2) ∧ W.cell? ⟨w.heap.size, 3, none⟩ = some (.int .i64 a0_3)) ∧ W.cell? (ad.add ji.toNat) = some (.int .i64 (nth l0_0 (j + 1)))))
    obtain ⟨L1, hL1⟩ : ∃ L, L = l0_0.set j (nth l0_0 (j + 1)) := ⟨_, rfl⟩
    have HW1 := Lib.hid (fun W (hW : Below wr.heap.size wr W) => column_with.calls (some ad) c0_0 l0_0 a0_1 a0_2 a0_3 (j : Int) (nth l0_0 (j + 1)) L1 a0_1 a0_2 a0_3 W (HL.out.below ((below_box HB.out).trans (hW.mono (by omega)))) hc0_0 (by rw [hL1]; exact Col.fwith (by omega) (by omega)))
    have HL1 := Lib.hid hL1
    clear hL1
    have hP0 : Below wr.heap.size wr wr.drew := (Below.refl _ _).drew
    have HJI := Lib.hid hji
    have HJT := Lib.hid hjt
    have hp1 : (0 : Int) ≤ ji := by omega
    have hp2 : ji < (l0_0.length : Int) := by omega
    clear hji hjt
    go_upto_region 7 with (fail)
    go_cut [6] (fun v6 w1 => ∃ (g1 : Nat) (A1 : Option Addr) (c1 : Nat), v6 = .pointer (some ⟨g1, 0, none⟩) ∧ Aside0 (w1.heap[g1]? = some (.cells #[.slice A1 L1.length c1, .int .i64 a0_1, .int .i64 a0_2, .int .i64 a0_3] 26 (0, 0))) ∧ Aside0 (CI w1 A1 L1) ∧ L1.length ≤ c1 ∧ Aside0 (Below wr.heap.size wr w1))
    case first =>
     obtain ⟨⟨hc0, hc1, hc2, hc3⟩, he1⟩ := HST.out _ hP0
     have he0 := he1
     have hwr1 : IntKind.i64.wrap ((j : Int) + 1) = ji := by rw [HJI.out]; exact IntWalk.i64_in _ (by omega)
     have hwr2 : wrap64 ((j : Int) + 1) = ji := by rw [HJI.out]; unfold wrap64; omega
     refine start_ (n := 11) (S := fun W => (W.cell? ⟨w.heap.size, 0, none⟩ = some (.slice (some ad) l0_0.length c0_0) ∧ W.cell? ⟨w.heap.size, 1, none⟩ = some (.int .i64 a0_1) ∧ W.cell? ⟨w.heap.size, 2, none⟩ = some (.int .i64 a0_2) ∧ W.cell? ⟨w.heap.size, 3, none⟩ = some (.int .i64 a0_3)) ∧ W.cell? (ad.add ji.toNat) = some (.int .i64 (nth l0_0 (j + 1)))) (ds := [10]) #[false,false,false,false,false,false,false,false,false,false,false] (by kernel_rfl) rfl rfl ⟨⟨hc0, hc1, hc2, hc3⟩, he1⟩ (fun hHeld => ?_)
     clear hc0 hc1 hc2 hc3 he0 he1
     refine pure_ (i := 1) (N := some 20) (v := ?_) (a' := ?_) #[false,true,false,false,false,false,false,false,false,false,false] rfl rfl (by kernel_rfl) (fun _ _ _ h => h) (Or.inl ⟨by rfl, ?_⟩) ?_ ?_
     rotate_left
     ·intro w'
      go_simp
      with_reducible rfl
     rotate_left
     ·simp only [Act.put, List.setIfInBounds_toArray, List.set_cons_zero, List.set_cons_succ, i64_w, i32_w]
      rfl
     refine pure_ (i := 2) (N := some 21) (v := ?_) (a' := ?_) #[false,true,true,false,false,false,false,false,false,false,false] rfl rfl (by kernel_rfl) (fun _ _ _ h => h) (Or.inl ⟨by rfl, ?_⟩) ?_ ?_
     rotate_left
     ·intro w'
      go_simp
      with_reducible rfl
     rotate_left
     ·simp only [Act.put, List.setIfInBounds_toArray, List.set_cons_zero, List.set_cons_succ, i64_w, i32_w]
      rfl
     refine pure_ (i := 4) (N := some 23) (v := ?_) (a' := ?_) #[false,true,true,false,true,false,false,false,false,false,false] rfl rfl (by kernel_rfl) (fun _ _ _ h => h) (Or.inl ⟨by rfl, ?_⟩) ?_ ?_
     rotate_left
     ·intro w'
      go_simp
      with_reducible rfl
     rotate_left
     ·simp only [Act.put, List.setIfInBounds_toArray, List.set_cons_zero, List.set_cons_succ, i64_w, i32_w]
      rfl
     refine pure_ (i := 5) (N := some 24) (v := ?_) (a' := ?_) #[false,true,true,false,true,true,false,false,false,false,false] rfl rfl (by kernel_rfl) (fun _ _ _ h => h) (Or.inl ⟨by rfl, ?_⟩) ?_ ?_
     rotate_left
     ·intro w'
      go_simp
      with_reducible rfl
     rotate_left
     ·simp only [Act.put, List.setIfInBounds_toArray, List.set_cons_zero, List.set_cons_succ, i64_w, i32_w]
      rfl
     refine take_ (i := 0) (N := some 19) (v := ?_) (a' := ?_) #[true,true,true,false,true,true,false,false,false,false,false] rfl rfl (by kernel_rfl) (fun _ _ _ h => h) (Or.inl ⟨by rfl, ?_⟩) hHeld ?_ ?_
     rotate_left
     ·rintro w' ⟨⟨s0, s1, s2, s3⟩, s4⟩
      go_simp
      with_reducible rfl
     rotate_left
     ·simp only [Act.put, List.setIfInBounds_toArray, List.set_cons_zero, List.set_cons_succ, i64_w, i32_w]
      rfl
     refine take_ (i := 3) (N := some 22) (v := ?_) (a' := ?_) #[true,true,true,true,true,true,false,false,false,false,false] rfl rfl (by kernel_rfl) (fun _ _ _ h => h) (Or.inl ⟨by rfl, ?_⟩) hHeld ?_ ?_
     rotate_left
     ·rintro w' ⟨⟨s0, s1, s2, s3⟩, s4⟩
      go_simp
      with_reducible rfl
     rotate_left
     ·simp only [Act.put, List.setIfInBounds_toArray, List.set_cons_zero, List.set_cons_succ, i64_w, i32_w]
      rfl
     refine pure_ (i := 6) (N := some 25) (v := ?_) (a' := ?_) #[true,true,true,true,true,true,true,false,false,false,false] rfl rfl (by kernel_rfl) (fun _ _ _ h => h) (Or.inl ⟨by rfl, ?_⟩) ?_ ?_
     rotate_left
     ·intro w'
      go_simp
      with_reducible rfl
     rotate_left
     ·simp only [Act.put, List.setIfInBounds_toArray, List.set_cons_zero, List.set_cons_succ, i64_w, i32_w]
      rfl
     refine take_ (i := 7) (N := some 26) (v := ?_) (a' := ?_) #[true,true,true,true,true,true,true,true,false,false,false] rfl rfl (by kernel_rfl) (fun _ _ _ h => h) (Or.inl ⟨by rfl, ?_⟩) hHeld ?_ ?_
     rotate_left
     ·rintro w' ⟨⟨s0, s1, s2, s3⟩, s4⟩
      go_simp
      with_reducible rfl
     rotate_left
     ·simp only [Act.put, List.setIfInBounds_toArray, List.set_cons_zero, List.set_cons_succ, i64_w, i32_w]
      rfl
     refine two_ (i := 8) (j := 9) (Ni := some 27) (Nj := some 6) #[true,true,true,true,true,true,true,true,true,false,false] #[true,true,true,true,true,true,true,true,false,true,false] rfl rfl rfl rfl (by kernel_rfl) (by decide) (by decide) (fun K hK => ?_) (fun K hK => ?_)
     ·go_simp
      refine (HW1.out _ hP0).mono ?_
      rintro e wB ⟨vB, rfl, hvB, hbB⟩
      have hP1 := below_step hP0 hbB
      refine hK.out _ _ (HST.out _ hP1) (fun hHeld => ?_)
      clear hK K
      try simp only [Act.put, List.setIfInBounds_toArray, List.set_cons_zero, List.set_cons_succ, i64_w, i32_w]
      refine one_ (i := 9) (N := some 6) #[true,true,true,true,true,true,true,true,true,true,false] rfl rfl (by kernel_rfl) (by decide) (fun K hK => ?_)
      refine box_step ?hg (N := 6) ?hd (cs := #[.slice none 0 0, .int .i64 0, .int .i64 0, .int .i64 0]) (t := 26) ?hr ?_
      case hd => rfl
      case hg => rfl
      case hr => first | (go_simp; done) | (go_simp; rfl)
      intro g hg wC hbox hbC
      have hgw : wr.heap.size ≤ g := by rw [hg]; have := hP1.size; simpa using this
      clear hg
      have hP2 := below_step hP1 hbC
      refine hK.out _ _ (HST.out _ hP2) (fun hHeld => ?_)
      clear hK K
      try simp only [Act.put, List.setIfInBounds_toArray, List.set_cons_zero, List.set_cons_succ, i64_w, i32_w]
      have hvC := Kd.R_below hvB hbC
      clear hbC hbB hvB
      obtain ⟨A, c, hvv⟩ := Kd.R_slice hvC
      subst hvv
      obtain ⟨A', c', e', hcc, hcC⟩ := Kd.R_reads hvC
      injection e' with e1 e2 e3
      subst e1 e3
      have hz0 := (blk_cell hbox 0).trans rfl
      have hz1 := (blk_cell hbox 1).trans rfl
      have hz2 := (blk_cell hbox 2).trans rfl
      have hz3 := (blk_cell hbox 3).trans rfl
      have hf0 := blk_frozen hbox 0
      have hf1 := blk_frozen hbox 1
      have hf2 := blk_frozen hbox 2
      have hf3 := blk_frozen hbox 3
      refine last_ (i := 10) (N := none) #[true,true,true,true,true,true,true,true,true,true,true] rfl rfl (by kernel_rfl) (by decide) (fun K hK => ?_)
      go_simp
      refine hK.out _ _ ?_
      clear hK K hz0 hz1 hz2 hz3 hf0 hf1 hf2 hf3
      try simp only [Act.put, List.setIfInBounds_toArray, List.set_cons_zero, List.set_cons_succ, i64_w, i32_w]
      refine done_ (by kernel_rfl) ?_
      try go_wp2
      go_meet
      have p1 := blk_put hbox 0 (.slice A L1.length c) rfl
      have p2 := blk_put p1 1 (.int .i64 a0_1) rfl
      have p3 := blk_put p2 2 (.int .i64 a0_2) rfl
      have p4 := blk_put p3 3 (.int .i64 a0_3) rfl
      have q4 := Kd.R_set (Kd.R_set (Kd.R_set (Kd.R_set hvC hbox ne_sheetS 0 (.slice A L1.length c)) p1 ne_sheetS 1 (.int .i64 a0_1)) p2 ne_sheetS 2 (.int .i64 a0_2)) p3 ne_sheetS 3 (.int .i64 a0_3)
      have hB4 := (((hP2.setCell (p := ⟨g, 0, none⟩) hgw (.slice A L1.length c)).setCell (p := ⟨g, 1, none⟩) hgw (.int .i64 a0_1)).setCell (p := ⟨g, 2, none⟩) hgw (.int .i64 a0_2)).setCell (p := ⟨g, 3, none⟩) hgw (.int .i64 a0_3)
      obtain ⟨A2, c2, e2, hc2, hC2⟩ := Kd.R_reads q4
      injection e2 with f1 f2 f3
      subst f1 f3
      case rel => exact ⟨g, A, c, rfl, ⟨p4⟩, ⟨hC2⟩, hc2, ⟨hB4⟩⟩
     ·refine box_step ?hg (N := 6) ?hd (cs := #[.slice none 0 0, .int .i64 0, .int .i64 0, .int .i64 0]) (t := 26) ?hr ?_
      case hd => rfl
      case hg => rfl
      case hr => first | (go_simp; done) | (go_simp; rfl)
      intro g hg wA hboxA hbA
      have hgw : wr.heap.size ≤ g := by rw [hg]; exact hP0.size
      clear hg
      have hP1 := below_step hP0 hbA
      refine hK.out _ _ (HST.out _ hP1) (fun hHeld => ?_)
      clear hK K
      try simp only [Act.put, List.setIfInBounds_toArray, List.set_cons_zero, List.set_cons_succ, i64_w, i32_w]
      refine one_ (i := 8) (N := some 27) #[true,true,true,true,true,true,true,true,true,true,false] rfl rfl (by kernel_rfl) (by decide) (fun K hK => ?_)
      go_simp
      refine (HW1.out _ hP1).mono ?_
      rintro e wC ⟨vB, rfl, hvB, hbC⟩
      have hP2 := below_step hP1 hbC
      have hbox := blk_below hboxA hbC
      refine hK.out _ _ (HST.out _ hP2) (fun hHeld => ?_)
      clear hK K
      try simp only [Act.put, List.setIfInBounds_toArray, List.set_cons_zero, List.set_cons_succ, i64_w, i32_w]
      have hvC := hvB
      clear hbC hbA hvB hboxA
      obtain ⟨A, c, hvv⟩ := Kd.R_slice hvC
      subst hvv
      obtain ⟨A', c', e', hcc, hcC⟩ := Kd.R_reads hvC
      injection e' with e1 e2 e3
      subst e1 e3
      have hz0 := (blk_cell hbox 0).trans rfl
      have hz1 := (blk_cell hbox 1).trans rfl
      have hz2 := (blk_cell hbox 2).trans rfl
      have hz3 := (blk_cell hbox 3).trans rfl
      have hf0 := blk_frozen hbox 0
      have hf1 := blk_frozen hbox 1
      have hf2 := blk_frozen hbox 2
      have hf3 := blk_frozen hbox 3
      refine last_ (i := 10) (N := none) #[true,true,true,true,true,true,true,true,true,true,true] rfl rfl (by kernel_rfl) (by decide) (fun K hK => ?_)
      go_simp
      refine hK.out _ _ ?_
      clear hK K hz0 hz1 hz2 hz3 hf0 hf1 hf2 hf3
      try simp only [Act.put, List.setIfInBounds_toArray, List.set_cons_zero, List.set_cons_succ, i64_w, i32_w]
      refine done_ (by kernel_rfl) ?_
      try go_wp2
      go_meet
      have p1 := blk_put hbox 0 (.slice A L1.length c) rfl
      have p2 := blk_put p1 1 (.int .i64 a0_1) rfl
      have p3 := blk_put p2 2 (.int .i64 a0_2) rfl
      have p4 := blk_put p3 3 (.int .i64 a0_3) rfl
      have q4 := Kd.R_set (Kd.R_set (Kd.R_set (Kd.R_set hvC hbox ne_sheetS 0 (.slice A L1.length c)) p1 ne_sheetS 1 (.int .i64 a0_1)) p2 ne_sheetS 2 (.int .i64 a0_2)) p3 ne_sheetS 3 (.int .i64 a0_3)
      have hB4 := (((hP2.setCell (p := ⟨g, 0, none⟩) hgw (.slice A L1.length c)).setCell (p := ⟨g, 1, none⟩) hgw (.int .i64 a0_1)).setCell (p := ⟨g, 2, none⟩) hgw (.int .i64 a0_2)).setCell (p := ⟨g, 3, none⟩) hgw (.int .i64 a0_3)
      obtain ⟨A2, c2, e2, hc2, hC2⟩ := Kd.R_reads q4
      injection e2 with f1 f2 f3
      subst f1 f3
      case rel => exact ⟨g, A, c, rfl, ⟨p4⟩, ⟨hC2⟩, hc2, ⟨hB4⟩⟩
    case rest =>
     generalize wc = w1 at *
     obtain ⟨g1, A1, c1, rfl, HG1, HC1, hcl1, HB1⟩ := hcut
     have hLL1 : L1.length = l0_0.length := by rw [HL1.out, List.length_set]
     obtain ⟨L2, hL2⟩ : ∃ L, L = L1.set (j + 1) (nth l0_0 j) := ⟨_, rfl⟩
     have HW2 := Lib.hid (fun W (hW : Below w1.heap.size w1 W) => column_with.calls A1 c1 L1 a0_1 a0_2 a0_3 ji (nth l0_0 j) L2 a0_1 a0_2 a0_3 W (HC1.out.below hW) hcl1 (by rw [hL2, HJI.out, show (j : Int) + 1 = ((j + 1 : Nat) : Int) by omega]; exact Col.fwith (by omega) (by omega)))
     have HST2 := Lib.hid (fun W (hW : Below w1.heap.size w1 W) => (⟨⟨(blk_cell (blk_below HG1.out hW) 0).trans rfl, (blk_cell (blk_below HG1.out hW) 1).trans rfl, (blk_cell (blk_below HG1.out hW) 2).trans rfl, (blk_cell (blk_below HG1.out hW) 3).trans rfl⟩, (HST.out _ (HB1.out.trans (hW.mono HB1.out.size))).1.1, by
      obtain ⟨ad', e, hx⟩ := (HL.out.below (((below_box HB.out).trans (HB1.out.mono (by omega))).trans (hW.mono (by have := HB1.out.size; omega)))).at_ j (by omega)
      cases e; exact hx⟩ : (W.cell? ⟨g1, 0, none⟩ = some (.slice A1 L1.length c1) ∧ W.cell? ⟨g1, 1, none⟩ = some (.int .i64 a0_1) ∧ W.cell? ⟨g1, 2, none⟩ = some (.int .i64 a0_2) ∧ W.cell? ⟨g1, 3, none⟩ = some (.int .i64 a0_3)) ∧ W.cell? ⟨w.heap.size, 0, none⟩ = some (.slice (some ad) l0_0.length c0_0) ∧ W.cell? (ad.add j) = some (.int .i64 (nth l0_0 j))))
     have hP0 : Below w1.heap.size w1 w1.drew := (Below.refl _ _).drew
     have hjl : (j : Int) < (l0_0.length : Int) := by omega
     have hSML : Col.small L2 a0_1 a0_2 a0_3 = true := by
      rw [hL2, HL1.out]
      have b1 := HBD.out.nth (by omega) (j + 1)
      have b0 := HBD.out.nth (by omega) j
      exact Col.small_set (Col.small_set HSM.out j b1.1 b1.2) (j + 1) b0.1 b0.2
     have hSW : Col.swapped l0_0 j = L2 := by rw [hL2, HL1.out]; rfl
     have HYES := Lib.hid (fun hb => swTo_yes (l := l0_0) (o := a0_1) (lo := a0_2) (hi := a0_3) (j := j) (by rw [hSW]; exact hb))
     have HNO := Lib.hid (fun hb => swTo_no (l := l0_0) (o := a0_1) (lo := a0_2) (hi := a0_3) (j := j) (by rw [hSW]; exact hb))
     have HRN := Lib.hid (Col.fruns_small hSML)
     have HTL := Lib.hid (swTo_length l0_0 a0_1 a0_2 a0_3 j)
     clear hL2 hSML hSW hLL1
     go_upto_region 8 with (fail)
     go_cut [7] (fun v7 wc => ∃ (g1 : Nat) (A1 : Option Addr) (c1 : Nat), v7 = .pointer (some ⟨g1, 0, none⟩) ∧ Aside0 (wc.heap[g1]? = some (.cells #[.slice A1 L2.length c1, .int .i64 a0_1, .int .i64 a0_2, .int .i64 a0_3] 26 (0, 0))) ∧ Aside0 (CI wc A1 L2) ∧ L2.length ≤ c1 ∧ Aside0 (Below w1.heap.size w1 wc))
     case first =>
      obtain ⟨⟨hc0, hc1, hc2, hc3⟩, hcs, he0⟩ := HST2.out _ hP0
      have hwr1 : IntKind.i64.wrap ((j : Int) + 1) = ji := by rw [HJI.out]; exact IntWalk.i64_in _ (by omega)
      have hwr2 : wrap64 ((j : Int) + 1) = ji := by rw [HJI.out]; unfold wrap64; omega
      refine start_ (n := 11) (S := fun W => (W.cell? ⟨g1, 0, none⟩ = some (.slice A1 L1.length c1) ∧ W.cell? ⟨g1, 1, none⟩ = some (.int .i64 a0_1) ∧ W.cell? ⟨g1, 2, none⟩ = some (.int .i64 a0_2) ∧ W.cell? ⟨g1, 3, none⟩ = some (.int .i64 a0_3)) ∧ W.cell? ⟨w.heap.size, 0, none⟩ = some (.slice (some ad) l0_0.length c0_0) ∧ W.cell? (ad.add j) = some (.int .i64 (nth l0_0 j))) (ds := [10]) #[false,false,false,false,false,false,false,false,false,false,false] (by kernel_rfl) rfl rfl ⟨⟨hc0, hc1, hc2, hc3⟩, hcs, he0⟩ (fun hHeld => ?_)
      clear hc0 hc1 hc2 hc3 hcs he0
      refine pure_ (i := 1) (N := some 29) (v := ?_) (a' := ?_) #[false,true,false,false,false,false,false,false,false,false,false] rfl rfl (by kernel_rfl) (fun _ _ _ h => h) (Or.inl ⟨by rfl, ?_⟩) ?_ ?_
      rotate_left
      ·intro w'
       go_simp
       with_reducible rfl
      rotate_left
      ·simp only [Act.put, List.setIfInBounds_toArray, List.set_cons_zero, List.set_cons_succ, i64_w, i32_w]
       rfl
      refine pure_ (i := 2) (N := some 30) (v := ?_) (a' := ?_) #[false,true,true,false,false,false,false,false,false,false,false] rfl rfl (by kernel_rfl) (fun _ _ _ h => h) (Or.inl ⟨by rfl, ?_⟩) ?_ ?_
      rotate_left
      ·intro w'
       go_simp
       with_reducible rfl
      rotate_left
      ·simp only [Act.put, List.setIfInBounds_toArray, List.set_cons_zero, List.set_cons_succ, i64_w, i32_w]
       rfl
      refine pure_ (i := 3) (N := some 31) (v := ?_) (a' := ?_) #[false,true,true,true,false,false,false,false,false,false,false] rfl rfl (by kernel_rfl) (fun _ _ _ h => h) (Or.inl ⟨by rfl, ?_⟩) ?_ ?_
      rotate_left
      ·intro w'
       go_simp
       with_reducible rfl
      rotate_left
      ·simp only [Act.put, List.setIfInBounds_toArray, List.set_cons_zero, List.set_cons_succ, i64_w, i32_w]
       rfl
      refine pure_ (i := 5) (N := some 33) (v := ?_) (a' := ?_) #[false,true,true,true,false,true,false,false,false,false,false] rfl rfl (by kernel_rfl) (fun _ _ _ h => h) (Or.inl ⟨by rfl, ?_⟩) ?_ ?_
      rotate_left
      ·intro w'
       go_simp
       with_reducible rfl
      rotate_left
      ·simp only [Act.put, List.setIfInBounds_toArray, List.set_cons_zero, List.set_cons_succ, i64_w, i32_w]
       rfl
      refine take_ (i := 0) (N := some 28) (v := ?_) (a' := ?_) #[true,true,true,true,false,true,false,false,false,false,false] rfl rfl (by kernel_rfl) (fun _ _ _ h => h) (Or.inl ⟨by rfl, ?_⟩) hHeld ?_ ?_
      rotate_left
      ·rintro w' ⟨⟨s0, s1, s2, s3⟩, s4, s5⟩
       go_simp
       with_reducible rfl
      rotate_left
      ·simp only [Act.put, List.setIfInBounds_toArray, List.set_cons_zero, List.set_cons_succ, i64_w, i32_w]
       rfl
      refine take_ (i := 4) (N := some 32) (v := ?_) (a' := ?_) #[true,true,true,true,true,true,false,false,false,false,false] rfl rfl (by kernel_rfl) (fun _ _ _ h => h) (Or.inl ⟨by rfl, ?_⟩) hHeld ?_ ?_
      rotate_left
      ·rintro w' ⟨⟨s0, s1, s2, s3⟩, s4, s5⟩
       go_simp
       with_reducible rfl
      rotate_left
      ·simp only [Act.put, List.setIfInBounds_toArray, List.set_cons_zero, List.set_cons_succ, i64_w, i32_w]
       rfl
      refine pure_ (i := 6) (N := some 34) (v := ?_) (a' := ?_) #[true,true,true,true,true,true,true,false,false,false,false] rfl rfl (by kernel_rfl) (fun _ _ _ h => h) (Or.inl ⟨by rfl, ?_⟩) ?_ ?_
      rotate_left
      ·intro w'
       go_simp
       with_reducible rfl
      rotate_left
      ·simp only [Act.put, List.setIfInBounds_toArray, List.set_cons_zero, List.set_cons_succ, i64_w, i32_w]
       rfl
      refine take_ (i := 7) (N := some 35) (v := ?_) (a' := ?_) #[true,true,true,true,true,true,true,true,false,false,false] rfl rfl (by kernel_rfl) (fun _ _ _ h => h) (Or.inl ⟨by rfl, ?_⟩) hHeld ?_ ?_
      rotate_left
      ·rintro w' ⟨⟨s0, s1, s2, s3⟩, s4, s5⟩
       go_simp
       with_reducible rfl
      rotate_left
      ·simp only [Act.put, List.setIfInBounds_toArray, List.set_cons_zero, List.set_cons_succ, i64_w, i32_w]
       rfl
      refine two_ (i := 8) (j := 9) (Ni := some 36) (Nj := some 7) #[true,true,true,true,true,true,true,true,true,false,false] #[true,true,true,true,true,true,true,true,false,true,false] rfl rfl rfl rfl (by kernel_rfl) (by decide) (by decide) (fun K hK => ?_) (fun K hK => ?_)
      ·go_simp
       refine (HW2.out _ hP0).mono ?_
       rintro e wB ⟨vB, rfl, hvB, hbB⟩
       have hP1 := below_step hP0 hbB
       refine hK.out _ _ (HST2.out _ hP1) (fun hHeld => ?_)
       clear hK K
       try simp only [Act.put, List.setIfInBounds_toArray, List.set_cons_zero, List.set_cons_succ, i64_w, i32_w]
       refine one_ (i := 9) (N := some 7) #[true,true,true,true,true,true,true,true,true,true,false] rfl rfl (by kernel_rfl) (by decide) (fun K hK => ?_)
       refine box_step ?hg (N := 7) ?hd (cs := #[.slice none 0 0, .int .i64 0, .int .i64 0, .int .i64 0]) (t := 26) ?hr ?_
       case hd => rfl
       case hg => rfl
       case hr => first | (go_simp; done) | (go_simp; rfl)
       intro g hg wC hbox hbC
       have hgw : w1.heap.size ≤ g := by rw [hg]; have := hP1.size; simpa using this
       clear hg
       have hP2 := below_step hP1 hbC
       refine hK.out _ _ (HST2.out _ hP2) (fun hHeld => ?_)
       clear hK K
       try simp only [Act.put, List.setIfInBounds_toArray, List.set_cons_zero, List.set_cons_succ, i64_w, i32_w]
       have hvC := Kd.R_below hvB hbC
       clear hbC hbB hvB
       obtain ⟨A, c, hvv⟩ := Kd.R_slice hvC
       subst hvv
       obtain ⟨A', c', e', hcc, hcC⟩ := Kd.R_reads hvC
       injection e' with e1 e2 e3
       subst e1 e3
       have hz0 := (blk_cell hbox 0).trans rfl
       have hz1 := (blk_cell hbox 1).trans rfl
       have hz2 := (blk_cell hbox 2).trans rfl
       have hz3 := (blk_cell hbox 3).trans rfl
       have hf0 := blk_frozen hbox 0
       have hf1 := blk_frozen hbox 1
       have hf2 := blk_frozen hbox 2
       have hf3 := blk_frozen hbox 3
       refine last_ (i := 10) (N := none) #[true,true,true,true,true,true,true,true,true,true,true] rfl rfl (by kernel_rfl) (by decide) (fun K hK => ?_)
       go_simp
       refine hK.out _ _ ?_
       clear hK K hz0 hz1 hz2 hz3 hf0 hf1 hf2 hf3
       try simp only [Act.put, List.setIfInBounds_toArray, List.set_cons_zero, List.set_cons_succ, i64_w, i32_w]
       refine done_ (by kernel_rfl) ?_
       try go_wp2
       go_meet
       have p1 := blk_put hbox 0 (.slice A L2.length c) rfl
       have p2 := blk_put p1 1 (.int .i64 a0_1) rfl
       have p3 := blk_put p2 2 (.int .i64 a0_2) rfl
       have p4 := blk_put p3 3 (.int .i64 a0_3) rfl
       have q4 := Kd.R_set (Kd.R_set (Kd.R_set (Kd.R_set hvC hbox ne_sheetS 0 (.slice A L2.length c)) p1 ne_sheetS 1 (.int .i64 a0_1)) p2 ne_sheetS 2 (.int .i64 a0_2)) p3 ne_sheetS 3 (.int .i64 a0_3)
       have hB4 := (((hP2.setCell (p := ⟨g, 0, none⟩) hgw (.slice A L2.length c)).setCell (p := ⟨g, 1, none⟩) hgw (.int .i64 a0_1)).setCell (p := ⟨g, 2, none⟩) hgw (.int .i64 a0_2)).setCell (p := ⟨g, 3, none⟩) hgw (.int .i64 a0_3)
       obtain ⟨A2, c2, e2, hc2, hC2⟩ := Kd.R_reads q4
       injection e2 with f1 f2 f3
       subst f1 f3
       case rel => exact ⟨g, A, c, rfl, ⟨p4⟩, ⟨hC2⟩, hc2, ⟨hB4⟩⟩
      ·refine box_step ?hg (N := 7) ?hd (cs := #[.slice none 0 0, .int .i64 0, .int .i64 0, .int .i64 0]) (t := 26) ?hr ?_
       case hd => rfl
       case hg => rfl
       case hr => first | (go_simp; done) | (go_simp; rfl)
       intro g hg wA hboxA hbA
       have hgw : w1.heap.size ≤ g := by rw [hg]; exact hP0.size
       clear hg
       have hP1 := below_step hP0 hbA
       refine hK.out _ _ (HST2.out _ hP1) (fun hHeld => ?_)
       clear hK K
       try simp only [Act.put, List.setIfInBounds_toArray, List.set_cons_zero, List.set_cons_succ, i64_w, i32_w]
       refine one_ (i := 8) (N := some 36) #[true,true,true,true,true,true,true,true,true,true,false] rfl rfl (by kernel_rfl) (by decide) (fun K hK => ?_)
       go_simp
       refine (HW2.out _ hP1).mono ?_
       rintro e wC ⟨vB, rfl, hvB, hbC⟩
       have hP2 := below_step hP1 hbC
       have hbox := blk_below hboxA hbC
       refine hK.out _ _ (HST2.out _ hP2) (fun hHeld => ?_)
       clear hK K
       try simp only [Act.put, List.setIfInBounds_toArray, List.set_cons_zero, List.set_cons_succ, i64_w, i32_w]
       have hvC := hvB
       clear hbC hbA hvB hboxA
       obtain ⟨A, c, hvv⟩ := Kd.R_slice hvC
       subst hvv
       obtain ⟨A', c', e', hcc, hcC⟩ := Kd.R_reads hvC
       injection e' with e1 e2 e3
       subst e1 e3
       have hz0 := (blk_cell hbox 0).trans rfl
       have hz1 := (blk_cell hbox 1).trans rfl
       have hz2 := (blk_cell hbox 2).trans rfl
       have hz3 := (blk_cell hbox 3).trans rfl
       have hf0 := blk_frozen hbox 0
       have hf1 := blk_frozen hbox 1
       have hf2 := blk_frozen hbox 2
       have hf3 := blk_frozen hbox 3
       refine last_ (i := 10) (N := none) #[true,true,true,true,true,true,true,true,true,true,true] rfl rfl (by kernel_rfl) (by decide) (fun K hK => ?_)
       go_simp
       refine hK.out _ _ ?_
       clear hK K hz0 hz1 hz2 hz3 hf0 hf1 hf2 hf3
       try simp only [Act.put, List.setIfInBounds_toArray, List.set_cons_zero, List.set_cons_succ, i64_w, i32_w]
       refine done_ (by kernel_rfl) ?_
       try go_wp2
       go_meet
       have p1 := blk_put hbox 0 (.slice A L2.length c) rfl
       have p2 := blk_put p1 1 (.int .i64 a0_1) rfl
       have p3 := blk_put p2 2 (.int .i64 a0_2) rfl
       have p4 := blk_put p3 3 (.int .i64 a0_3) rfl
       have q4 := Kd.R_set (Kd.R_set (Kd.R_set (Kd.R_set hvC hbox ne_sheetS 0 (.slice A L2.length c)) p1 ne_sheetS 1 (.int .i64 a0_1)) p2 ne_sheetS 2 (.int .i64 a0_2)) p3 ne_sheetS 3 (.int .i64 a0_3)
       have hB4 := (((hP2.setCell (p := ⟨g, 0, none⟩) hgw (.slice A L2.length c)).setCell (p := ⟨g, 1, none⟩) hgw (.int .i64 a0_1)).setCell (p := ⟨g, 2, none⟩) hgw (.int .i64 a0_2)).setCell (p := ⟨g, 3, none⟩) hgw (.int .i64 a0_3)
       obtain ⟨A2, c2, e2, hc2, hC2⟩ := Kd.R_reads q4
       injection e2 with f1 f2 f3
       subst f1 f3
       case rel => exact ⟨g, A, c, rfl, ⟨p4⟩, ⟨hC2⟩, hc2, ⟨hB4⟩⟩
     case rest =>
      obtain ⟨g2, A2, c2, rfl, HG2, HC2, hcl2, HB2⟩ := hcut
      rename_i w2_
      have hRU := column_runs.calls A2 c2 L2 a0_1 a0_2 a0_3 (Col.runs L2 a0_1 a0_2 a0_3) _ HC2.out hcl2 HRN.out
      have HRU := Lib.hid hRU
      have hz0 := (blk_cell HG2.out 0).trans rfl
      have hz1 := (blk_cell HG2.out 1).trans rfl
      have hz2 := (blk_cell HG2.out 2).trans rfl
      have hz3 := (blk_cell HG2.out 3).trans rfl
      have HBA := Aside0.mk (HB1.out.trans (HB2.out.mono HB1.out.size))
      clear hRU HRN HST HST2 HW1 HW2 HB1 HG1 HC1
      cases hbb : Col.runs L2 a0_1 a0_2 a0_3 with
      | true =>
       rw [hbb] at HRU
       have HS1 := Lib.hid (HYES.out hbb)
       clear hbb HYES HNO
       go_wp2_with fail
       refine HRU.out.mono ?_
       rintro e w7 ⟨rfl, hb7⟩
       have HB7 := Aside0.mk (below_step HBA.out hb7)
       clear hb7 HRU hz0 hz1 hz2 hz3 HG2 HC2 HB2
       go_wp2_with (at_builtin; refine Kd.R_append (Kd.int .i64) (w0 := w.alloc (.cells #[.slice (some ad) l0_0.length c0_0, .int .i64 a0_1, .int .i64 a0_2, .int .i64 a0_3] 26)) (w.heap.size + 1) rfl (.tmp 40) (.tmp 42) 22 3 (.int .i64 0) 8 rfl Tryz.underlying22 info_int rfl (by decide) (by decide) _ (swTo l0_0 a0_1 a0_2 a0_3 j) (j : Int) [.int .i64 (j : Int)] (fun _ => True) (fun _ => False) rfl rfl rfl (fun _ h => h.elim) (fun _ _ => trivial) ?hO ?hB ?hb ?hl ?_)
       case hO => exact Kd.R_below HV.out HB7.out
       case hB => exact HB.out.trans (HB7.out.mono hwr)
       case hb => have := HB7.out.size; omega
       case hl => have := HTL.out; omega
       intro v8 w8 ho hb hg hat
       have HV8 : Aside0 (RI w8 (w.heap.size + 1) v8 (swTo l0_0 a0_1 a0_2 a0_3 (j + 1))) := ⟨by rw [HS1.out]; exact ho⟩
       have HB8 := Aside0.mk hb
       clear ho hb hg hat HV HB
       go_wp2
       go_roundw
       case rel => exact ⟨j + 1, by omega, by go_num, HV8, HB8⟩
       case measure => simp [intOf]; omega
      | false =>
       rw [hbb] at HRU
       have HS1 := Lib.hid (HNO.out hbb)
       clear hbb HYES HNO
       go_wp2_with fail
       refine HRU.out.mono ?_
       rintro e w7 ⟨rfl, hb7⟩
       have HB7 := Aside0.mk (below_step HBA.out hb7)
       clear hb7 HRU hz0 hz1 hz2 hz3 HG2 HC2 HB2
       go_wp2
       exact ⟨⟨j + 1, by omega, by go_num, ⟨by rw [HS1.out]; exact Kd.R_below HV.out HB7.out⟩, ⟨HB.out.trans (HB7.out.mono hwr)⟩⟩, by simp [intOf]; omega⟩
   ·have e : j = l0_0.length - 1 := by omega
    subst e
    go_wp2
    go_ret2
    exact ⟨_, rfl, Kd.R_lower HV.out (Nat.le_succ _), below_box HB.out⟩
end Go.Proofs.YtohlmoppcmjknaaGreatDoor.P
end
