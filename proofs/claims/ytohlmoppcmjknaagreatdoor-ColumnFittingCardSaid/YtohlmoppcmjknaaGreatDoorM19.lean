/- Contracts of the program's functions, and the words that their proofs take (joined out of several texts). -/
import Derived.Test.YtohlmoppcmjknaaGreatDoorM2
import Derived.Test.YtohlmoppcmjknaaGreatDoorM5
import Derived.Test.YtohlmoppcmjknaaGreatDoorM6
import Derived.Test.YtohlmoppcmjknaaGreatDoorM18
section
namespace Go.Proofs.YtohlmoppcmjknaaGreatDoor.P
open Go.RowKit Go.Proofs.YtohlmoppcmjknaaGreatDoorW.PrintWords Go.Proofs.YtohlmoppcmjknaaGreatDoorW.PrintLast Go.Proofs.YtohlmoppcmjknaaGreatDoorW.PrintMore Go.Proofs.YtohlmoppcmjknaaGreatDoor.X
open Go.Proofs.YtohlmoppcmjknaaGreatDoor.Col (nth toFix)
set_option linter.unusedVariables false
set_option linter.unusedSimpArgs false
def insTo (l : List Int) (o lo hi : Int) (j : Nat) : List (Int × Int × Int) := (List.range j).flatMap fun r => Col.fixAt (l.take r ++ 0 :: l.drop r) o lo hi r
theorem insTo_succ (l : List Int) (o lo hi : Int) (j : Nat) : insTo l o lo hi (j + 1) = insTo l o lo hi j ++ Col.fixAt (l.take j ++ 0 :: l.drop j) o lo hi j := by simp [insTo, List.range_succ]
theorem insTo_length (l : List Int) (o lo hi : Int) : ∀ j, (insTo l o lo hi j).length ≤ j
 | 0 => by simp [insTo]
 | j + 1 => by
  rw [insTo_succ, List.length_append]
  have := insTo_length l o lo hi j
  have := Col.fixAt_length (l.take j ++ 0 :: l.drop j) o lo hi j
  omega
theorem longer_length (l : List Int) (j : Nat) (hj : j ≤ l.length) : (l.take j ++ 0 :: l.drop j).length = l.length + 1 := by simp; omega
theorem longer_small {l : List Int} {o lo hi : Int} (h : Col.isSheet l o lo hi = true) {j : Nat} (hj : j ≤ l.length) : Col.small (l.take j ++ 0 :: l.drop j) o lo hi = true := by
 have h14 : l.length ≤ 14 := by
  unfold Col.isSheet at h
  simp only [Bool.and_eq_true, Col.inr, decide_eq_true_eq] at h
  omega
 obtain ⟨a1, a2, a3, a4, a5, a6, a7, a8, a9⟩ := small_parts (small_of_sheet h)
 refine Col.small_of (by rw [longer_length l j hj]; omega) (by rw [longer_length l j hj]; omega) a3 a4 a5 a6 a7 a8 ?_
 intro x hx
 rcases List.mem_append.1 hx with hx | hx
 ·exact a9 x (List.mem_of_mem_take hx)
 ·rcases List.mem_cons.1 hx with rfl | hx
  ·decide
  ·exact a9 x (List.mem_of_mem_drop hx)
theorem info_fix : (Tryz.prog.info? 70).map (fun i => (i.zero, i.size, i.bytes)) = some (some (.agg #[(.int .i64 0), (.int .i64 0), (.int .i64 0)]), 3, 24) := by kernel_rfl
set_option maxHeartbeats 8000000 in
set_option maxRecDepth 100000 in
theorem column_Insert.calls (A0_0 : Option Addr) (c0_0 : Nat) (l0_0 : List Int) (a0_1 : Int) (a0_2 : Int) (a0_3 : Int) (r1 : List (S70)) (r2 : Int) (w : World) (hr0_0 : Kd.C (Kd.int .i64) w A0_0 l0_0.length l0_0) (hc0_0 : l0_0.length ≤ c0_0) (h : column_Insert.f l0_0 a0_1 a0_2 a0_3 = some (r1, r2)) :
  Calls Tryz.prog 52 #[.agg #[.slice A0_0 l0_0.length c0_0, .int .i64 a0_1, .int .i64 a0_2, .int .i64 a0_3]] w fun e w' => ∃ v0_ : Value, e = .returned (.tuple #[v0_, .int .i64 r2]) ∧ Kd.R k70 70 w' w.heap.size (fun _ => True) v0_ r1 ∧ Below w.heap.size w w' := by
 have hr : some ((Col.fInsert l0_0 a0_1 a0_2 a0_3).1.map toFix, (Col.fInsert l0_0 a0_1 a0_2 a0_3).2) = some (r1, r2) := h
 unfold Col.fInsert at hr
 have HS := Lib.hid (fun W (hb : Below w.heap.size w W) => column_isSheet.calls A0_0 c0_0 l0_0 a0_1 a0_2 a0_3 (Col.isSheet l0_0 a0_1 a0_2 a0_3) W (CI.below hr0_0 hb) hc0_0 rfl)
 cases hs : Col.isSheet l0_0 a0_1 a0_2 a0_3 with
 | false =>
  rw [hs] at HS hr
  obtain ⟨rfl, rfl⟩ := Prod.mk.inj (Option.some.inj hr)
  clear hr h hs hr0_0 hc0_0
  go_enter Tryz.func52, Tryz.ntmps52
  go_wp2_with fail
  refine (HS.out _ ((Below.refl _ _).alloc (Nat.le_refl _) _)).mono ?_
  rintro e w' ⟨rfl, hb⟩
  have HB := Aside0.mk (box_of hb)
  clear hb HS
  go_wp2
  go_ret2
  exact ⟨_, rfl, Kd.R_nil _ _ _ _ _, below_box HB.out⟩
 | true =>
  have hsm := small_of_sheet hs
  obtain ⟨l1, l15, ho1, ho3, _, _, _, _, hbd⟩ := small_parts hsm
  rw [hs] at HS hr
  obtain ⟨rfl, rfl⟩ := Prod.mk.inj (Option.some.inj hr)
  have HLS := Lib.hid (fun (j : Nat) (hj : j ≤ l0_0.length) => longer_small hs hj)
  have HL : Aside0 (CI w A0_0 l0_0) := ⟨hr0_0⟩
  have hfin : Col.insertFixes l0_0 a0_1 a0_2 a0_3 = insTo l0_0 a0_1 a0_2 a0_3 (l0_0.length + 1) := rfl
  show Calls _ _ _ w fun e w' => ∃ v0_ : Value, e = .returned (.tuple #[v0_, .int .i64 0]) ∧ Kd.R k70 70 w' w.heap.size (fun _ => True) v0_ ((Col.insertFixes l0_0 a0_1 a0_2 a0_3).map toFix) ∧ Below w.heap.size w w'
  rw [hfin]
  clear hr h hs hr0_0 hsm hbd hfin
  go_enter Tryz.func52, Tryz.ntmps52
  go_wp2_with fail
  refine (HS.out _ ((Below.refl _ _).alloc (Nat.le_refl _) _)).mono ?_
  rintro e w' ⟨rfl, hb⟩
  have HB := Aside0.mk (box_of hb)
  have hc0 := box_cell HB.out 0 rfl
  clear hb HS
  go_wp2
  clear hc0
  go_loopw [4, 15] (fun v i wr => ∃ j : Nat, j ≤ l0_0.length + 1 ∧ i = .int .i64 (j : Int) ∧ Aside0 (Kd.R k70 70 wr (w.heap.size + 1) (fun _ => True) v ((insTo l0_0 a0_1 a0_2 a0_3 j).map toFix)) ∧ Aside0 (Below (w.heap.size + 1) (w.alloc (.cells #[.slice A0_0 l0_0.length c0_0, .int .i64 a0_1, .int .i64 a0_2, .int .i64 a0_3] 26)) wr)) (fun _ i _ => l0_0.length + 1 - (intOf i).toNat)
  case atStart => exact ⟨0, by omega, rfl, ⟨Kd.R_nil _ _ _ _ _⟩, HB⟩
  case round =>
   clear HB
   obtain ⟨j, hj, rfl, HV, HB⟩ := hrel
   have hwr : w.heap.size + 1 ≤ wr.heap.size := by simpa using HB.out.size
   by_cases hlt : j < l0_0.length + 1
   ·have hlti : (j : Int) < (l0_0.length : Int) + 1 := by omega
    have hw3 : w.heap.size < wr.heap.size := by omega
    have hc0 := box_cell HB.out 0 rfl
    have hc1 := box_cell HB.out 1 rfl
    have hc2 := box_cell HB.out 2 rfl
    have hc3 := box_cell HB.out 3 rfl
    have HC := Lib.hid (fun W (hW : Below w.heap.size w W) => slices_Clone_int_int.calls A0_0 c0_0 l0_0 l0_0 W (HL.out.below hW) hc0_0 (by unfold slices_Clone_int_int.f; rw [if_pos (by omega)]))
    have hLs := Lib.hid (HLS.out j (by omega))
    have HLL := Lib.hid (longer_length l0_0 j (by omega))
    have HI := Lib.hid (fun base v2 w2 vb (hr : RI w2 base v2 l0_0) hbs hvb hne => insert_calls base v2 l0_0 j vb 0 w2 hr hbs (by omega) (by omega) (by omega) hvb hne)
    have HT := Lib.hid (insTo_succ l0_0 a0_1 a0_2 a0_3 j)
    have HTL := Lib.hid (insTo_length l0_0 a0_1 a0_2 a0_3 j)
    generalize hL : l0_0.take j ++ 0 :: l0_0.drop j = L at *
    clear hL
    go_wp2_with fail
    refine (HC.out _ (below_alloc (below_box HB.out) _)).mono ?_
    rintro e w2 ⟨v2, rfl, hv2, hb2⟩
    have g2 := blk_below (blk_new wr _) hb2
    have HB2 : Below wr.heap.size wr w2 := ((Below.refl _ _).alloc (Nat.le_refl _) _).trans (hb2.mono (by simp))
    have hbase : (wr.alloc (.cells #[.slice A0_0 l0_0.length c0_0, .int .i64 a0_1, .int .i64 a0_2, .int .i64 a0_3] 26)).heap.size = wr.heap.size + 1 := by simp
    rw [hbase] at hv2
    have hsz2 : wr.heap.size + 1 ≤ w2.heap.size := by have := hb2.size; rw [hbase] at this; exact this
    have hv2' : RI (w2.alloc (.cells #[.int .i64 0] 3)) (wr.heap.size + 1) v2 l0_0 := Kd.R_below hv2 ((Below.refl _ _).alloc (Nat.le_refl _) _)
    have hne2 : some w2.heap.size ≠ v2.ownBlock := fun e => by have := own_lt (RI.own hv2) _ e.symm; omega
    have HI2 := Lib.hid (HI.out (wr.heap.size + 1) v2 (w2.alloc (.cells #[.int .i64 0] 3)) w2.heap.size hv2' (by simp; omega) (blk_new w2 _) hne2)
    have HG2 := Aside0.mk g2
    have HBB2 := Aside0.mk HB2
    clear hv2 hv2' hb2 HB2 g2 hbase hne2 HI HC hc0 hc1 hc2 hc3
    go_wp2_with fail
    refine HI2.out.mono ?_
    rintro e w3 ⟨v3, rfl, hv3, hb3⟩
    have g3 := (hb3.block wr.heap.size (by omega)).trans (blk_alloc HG2.out _)
    have HB3 : Below wr.heap.size wr w3 := (HBB2.out.alloc (by omega) _).trans (hb3.mono (by omega))
    obtain ⟨A3, c3, rfl, hc3, hci3, hfar⟩ := RI.reads_far hv3
    have hcv3 := hci3
    have gS : (w3.setCell ⟨wr.heap.size, 0, none⟩ (.slice A3 L.length c3)).heap[wr.heap.size]? = some (.cells #[.slice A3 L.length c3, .int .i64 a0_1, .int .i64 a0_2, .int .i64 a0_3] 26 (0, 0)) := blk_put g3 0 _ rfl
    have ciS : CI (w3.setCell ⟨wr.heap.size, 0, none⟩ (.slice A3 L.length c3)) A3 L := hci3.setCell (fun ad e hn => by have := hfar ad e hn; simp; omega) _
    have BS : Below wr.heap.size wr (w3.setCell ⟨wr.heap.size, 0, none⟩ (.slice A3 L.length c3)) := HB3.setCell (by simp) _
    have hx30 := (blk_cell g3 0).trans rfl
    have hx31 := (blk_cell g3 1).trans rfl
    have hx32 := (blk_cell g3 2).trans rfl
    have hx33 := (blk_cell g3 3).trans rfl
    have hf30 := blk_frozen g3 0
    have GS := Aside0.mk gS
    have CS := Aside0.mk ciS
    have HBS := Aside0.mk BS
    clear gS ciS BS hci3 hfar hcv3 HB3 g3 hb3 hv3 HI2 HG2 HBB2 hsz2
    go_wp2_with fail
    clear hx30 hx31 hx32 hx33 hf30
    generalize (w3.setCell ⟨wr.heap.size, 0, none⟩ (.slice A3 L.length c3)) = W4 at *
    have HBT := Lib.hid (Col.between_within L a0_1 a0_2 a0_3 (j : Int))
    have HFX : Hid (Col.fixAt L a0_1 a0_2 a0_3 j = if (Col.between L a0_1 a0_2 a0_3 (j : Int)).1 ≤ (Col.between L a0_1 a0_2 a0_3 (j : Int)).2 ∧ Col.runs (L.set j (Col.between L a0_1 a0_2 a0_3 (j : Int)).1) a0_1 a0_2 a0_3 = true then [((j : Int), (Col.between L a0_1 a0_2 a0_3 (j : Int)).1, (Col.between L a0_1 a0_2 a0_3 (j : Int)).2)] else []) := Lib.hid rfl
    have HBE := Lib.hid (column_between.calls A3 c3 L a0_1 a0_2 a0_3 (j : Int) (Col.between L a0_1 a0_2 a0_3 (j : Int)).1 (Col.between L a0_1 a0_2 a0_3 (j : Int)).2 W4 CS.out hc3 (Col.fbetween_small hLs.out))
    generalize (Col.between L a0_1 a0_2 a0_3 (j : Int)).1 = b1 at *
    generalize (Col.between L a0_1 a0_2 a0_3 (j : Int)).2 = b2 at *
    refine HBE.out.mono ?_
    rintro e w5 ⟨rfl, hb5⟩
    have g5 := Aside0.mk (blk_below GS.out hb5)
    have HB5 := Aside0.mk (below_step HBS.out hb5)
    have HCI5 := Lib.hid (fun W (hW : Below w5.heap.size w5 W) => (CS.out.below hb5).below hW)
    clear hb5 GS HBS CS HBE
    have hwr5 : wr.heap.size < w5.heap.size := blk_lt g5.out
    obtain ⟨hbt1, hbt2⟩ := HBT.out
    by_cases hle : b1 ≤ b2
    ·have HLE := Lib.hid hle
     have hy0 := (blk_cell g5.out 0).trans rfl
     have hy1 := (blk_cell g5.out 1).trans rfl
     have hy2 := (blk_cell g5.out 2).trans rfl
     have hy3 := (blk_cell g5.out 3).trans rfl
     have HW := Lib.hid (fun W (hW : Below w5.heap.size w5 W) => column_with.calls A3 c3 L a0_1 a0_2 a0_3 (j : Int) b1 (L.set j b1) a0_1 a0_2 a0_3 W (HCI5.out W hW) hc3 (Col.fwith (by have := HLL.out; omega) (by have := HLL.out; omega)))
     have HSS := Lib.hid (Col.small_set hLs.out j (v := b1) (by omega) (by omega))
     go_wp2_with fail
     refine (HW.out _ ((Below.refl _ _).alloc (Nat.le_refl _) _)).mono ?_
     rintro e w6 ⟨v6, rfl, hv6, hb6⟩
     obtain ⟨A6, c6, rfl, hc6, hci6⟩ := RI.reads hv6
     have g6 := Aside0.mk (blk_below (blk_new w5 _) hb6)
     have HB6 := Aside0.mk (HB5.out.trans ((((Below.refl _ _).alloc (Nat.le_refl _) _).trans (hb6.mono (by simp))).mono (by omega)))
     have hru0 := column_runs.calls A6 c6 (L.set j b1) a0_1 a0_2 a0_3 (Col.runs (L.set j b1) a0_1 a0_2 a0_3) w6 hci6 hc6 (Col.fruns_small HSS.out)
     rw [List.length_set] at hru0
     have HRU := Lib.hid hru0
     clear hru0
     clear hv6 hb6 hci6 hc6 HW HCI5 hy0 hy1 hy2 hy3
     generalize hru : Col.runs (L.set j b1) a0_1 a0_2 a0_3 = bb at *
     have HRE := Lib.hid hru
     clear hru
     go_wp2_with fail
     refine HRU.out.mono ?_
     rintro e w7 ⟨rfl, hb7⟩
     have g7 := Aside0.mk (blk_below g6.out hb7)
     have HB7 := Aside0.mk (below_step HB6.out hb7)
     clear hb7 HRU g6 HB6
     cases bb with
     | true =>
      have hz0 := (blk_cell g7.out 0).trans rfl
      have hz1 := (blk_cell g7.out 1).trans rfl
      go_wp2_with (at_builtin; refine Kd.R_append k70 (w0 := w.alloc (.cells #[.slice A0_0 l0_0.length c0_0, .int .i64 a0_1, .int .i64 a0_2, .int .i64 a0_3] 26)) (w.heap.size + 1) rfl (.tmp 42) (.tmp 46) 66 70 (.agg #[(.int .i64 0), (.int .i64 0), (.int .i64 0)]) 24 rfl Tryz.underlying66 info_fix rfl (by decide) (by decide) _ ((insTo l0_0 a0_1 a0_2 a0_3 j).map toFix) (toFix ((j : Int), b1, b2)) _ (fun _ => True) (fun _ => False) rfl rfl ?hp (fun _ h => h.elim) (fun _ _ => trivial) ?hO ?hB ?hb ?hl ?_)
      case hp => exact k70_mkM _ _ _ _
      case hO => exact Kd.R_below HV.out HB7.out
      case hB => exact HB.out.trans (HB7.out.mono hwr)
      case hb => have := HB7.out.size; omega
      case hl => have := HTL.out; rw [List.length_map]; omega
      intro v8 w8 ho hb hg hat
      have HV8 : Aside0 (Kd.R k70 70 w8 (w.heap.size + 1) (fun _ => True) v8 ((insTo l0_0 a0_1 a0_2 a0_3 (j + 1)).map toFix)) := ⟨by rw [HT.out, HFX.out, if_pos ⟨HLE.out, by first | rfl | trivial⟩, List.map_append]; exact ho⟩
      have HB8 := Aside0.mk hb
      clear ho hb hg hat HV HB hz0 hz1
      go_wp2
      go_roundw
      case rel => exact ⟨j + 1, by omega, by go_num, HV8, HB8⟩
      case measure => simp [intOf]; omega
     | false =>
      go_wp2
      exact ⟨⟨j + 1, by omega, by go_num, ⟨by rw [HT.out, HFX.out, if_neg (fun hh => by have := hh.2; simp at this), List.append_nil]; exact Kd.R_below HV.out HB7.out⟩, ⟨HB.out.trans (HB7.out.mono hwr)⟩⟩, by simp [intOf]; omega⟩
    ·have HLE := Lib.hid hle
     go_wp2
     exact ⟨⟨j + 1, by omega, by go_num, ⟨by rw [HT.out, HFX.out, if_neg (fun hh => by have := hh.1; have := HLE.out; omega), List.append_nil]; exact Kd.R_below HV.out (below_alloc HB5.out _)⟩, ⟨HB.out.trans ((below_alloc HB5.out _).mono hwr)⟩⟩, by simp [intOf]; omega⟩
   ·have e : j = l0_0.length + 1 := by omega
    subst e
    go_wp2
    go_ret2
    exact ⟨_, rfl, Kd.R_lower HV.out (Nat.le_succ _), below_box HB.out⟩
end Go.Proofs.YtohlmoppcmjknaaGreatDoor.P
end
