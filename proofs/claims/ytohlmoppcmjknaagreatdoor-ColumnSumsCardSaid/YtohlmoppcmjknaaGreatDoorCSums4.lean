/- The law, its row and its card (joined out of several texts). -/
import Derived.Test.YtohlmoppcmjknaaGreatDoorCards
import Derived.Test.YtohlmoppcmjknaaGreatDoorTie
import Derived.Test.YtohlmoppcmjknaaGreatDoorM2
import Derived.Test.YtohlmoppcmjknaaGreatDoorM21
import Derived.Test.YtohlmoppcmjknaaGreatDoorCSums1
import Derived.Test.YtohlmoppcmjknaaGreatDoorCSums2
import Derived.Test.YtohlmoppcmjknaaGreatDoorCSums3
section
namespace Go.Proofs.YtohlmoppcmjknaaGreatDoor.U
open Go.RowKit Go.Proofs.YtohlmoppcmjknaaGreatDoorW.PrintWords Go.Proofs.YtohlmoppcmjknaaGreatDoorW.PrintLast
open Go.Proofs.YtohlmoppcmjknaaGreatDoor.Col (nth inr)
set_option linter.unusedVariables false
def Sums.Pure : Prop := ∀ (l0_0 : List Int) (a0_1 : Int) (a0_2 : Int) (a0_3 : Int) (a1 : Int), (∀ n ∈ l0_0, X.Wf n) → X.Wf a0_1 → X.Wf a0_2 → X.Wf a0_3 → X.Wf a1 → ∃ k, P.L_Sums.f k l0_0 a0_1 a0_2 a0_3 a1 = some true
theorem sums_loop {l : List Int} {o lo hi : Int} (h : Col.isSheet l o lo hi = true) (n : Nat) (hn : n + 1 < l.length) :
  Ev (fun k => P.L_Sums.l0 k (Col.diffs (n + 1) l) (Col.diffs n l) 0 0) true := by
 obtain ⟨p1, p2, _, _, _, _, _, _⟩ := sheet_parts h
 have e1 : (Col.diffs (n + 1) l).length = l.length - (n + 1) := Col.diffs_length _ _
 have e0 : (Col.diffs n l).length = l.length - n := Col.diffs_length _ _
 have b0 := diffs_bd h n (by omega)
 have hN : ∀ i, i + 1 < (Col.diffs n l).length → nth (Col.diffs (n + 1) l) i = nth (Col.diffs n l) (i + 1) - nth (Col.diffs n l) i := fun i hi => Col.diff1_nth _ _ hi
 generalize Col.diffs n l = x at *
 generalize Col.diffs (n + 1) l = y at *
 have hs := loop_up (g := fun k i => P.L_Sums.l0 k y x (nth x i.toNat - nth x 0) i) (n := y.length) (r := fun _ => true) ?_ ?_ 0 (Nat.zero_le _)
 ·simpa using hs
 ·refine Ev.step (f := fun _ => some true) (fun k => ?_) (Ev.now _)
  have e2 : wrap64 ((x.length : Int) - 1) = ((x.length - 1 : Nat) : Int) := by rw [wrap_len (by omega)]; omega
  have e3 : nth x (x.length - 1) = nth x y.length := by congr 1; omega
  have ba := b0 y.length
  have bb := b0 0
  rw [P.L_Sums.l0, if_neg (by omega), e2, if_pos (by omega), if_pos (by omega), if_pos (by omega), rd_nth, e3, show rd x 0 = nth x 0 from rd_nth x 0, Int.toNat_natCast, if_pos (by unfold wrap64; omega)]
  rfl
 ·intro i hil ih
  have ba := b0 i
  have bb := b0 0
  have bc := b0 (i + 1)
  refine Ev.step (f := fun k => P.L_Sums.l0 k y x (nth x (i + 1) - nth x 0) ((i + 1 : Nat) : Int)) (fun k => ?_) ?_
  ·rw [P.L_Sums.l0, if_pos (by omega), if_pos (by omega), w1 hil (by omega), if_pos (by omega), if_pos (by omega), if_pos (by omega), rd_nth, rd_nth, rd_nth, if_pos (by rw [hN i (by omega)]; unfold wrap64; omega), hN i (by omega), Int.toNat_natCast]
   congr 1
   unfold wrap64; omega
  ·simpa using ih
theorem Sums : Sums.Pure := by
 intro l o lo hi d _ _ _ _ _
 have hno : ∀ k, P.L_Sums.j0 (k + 1) d true l o lo hi = some true := fun k => by rw [P.L_Sums.j0, if_pos rfl]; rfl
 refine Ev.rounds (r := true) ?_
 cases h : Col.isSheet l o lo hi with
 | false =>
  have hr := right_ev l o lo hi
  rw [h] at hr
  refine Ev.congr (fun k => by unfold P.L_Sums.f; rfl) (Ev.bind hr ?_)
  exact Ev.step (f := fun _ => some true) (fun k => by rw [if_neg (by decide)]; exact hno k) (Ev.now _)
 | true =>
  have hr := right_ev l o lo hi
  rw [h] at hr
  obtain ⟨p1, p2, _, _, _, _, _, _⟩ := sheet_parts h
  refine Ev.congr (fun k => by unfold P.L_Sums.f; rfl) (Ev.bind hr ?_)
  rw [degree_some _ _ _ _ _ (by omega)]
  simp only [if_true, Option.bind_some]
  cases hd : inr d 0 ((l.length : Int) - 1) with
  | false => exact Ev.step (f := fun _ => some true) (fun k => hno k) (Ev.now _)
  | true =>
   simp only [inr, Bool.and_eq_true, decide_eq_true_eq] at hd
   obtain ⟨n, rfl⟩ : ∃ n : Nat, d = n := ⟨d.toNat, by omega⟩
   have e1 : (Col.diffs n l).length = l.length - n := Col.diffs_length _ _
   refine Ev.step (f := fun k => P.L_Sums.j1 k n (Col.diffs n l) false l o lo hi) (fun k => ?_) ?_
   ·rw [P.L_Sums.j0, if_neg (by decide), differences_some h hd.1 (by omega), Int.toNat_natCast]
    simp only [Option.bind_some, if_true]
    rw [show (((Col.diffs n l).length : Int) != wrap64 ((l.length : Int) - (n : Int))) = false by rw [e1, bne_eq_false_iff_eq]; unfold wrap64; omega]
   ·cases n with
    | zero =>
     refine Ev.step (f := fun k => (P.T_Same.f k (Col.diffs 0 l) l).bind fun t => if t = true then (P.L_known.f).bind fun t => some t else some false) (fun k => ?_) ?_
     ·rw [P.L_Sums.j1, if_neg (by decide), if_pos (by simp)]
     ·refine Ev.bind (same_yes _ _ (by simp [Col.diffs]; omega) rfl) ?_
      exact Ev.congr (f := fun _ => some true) (fun k => rfl) (Ev.now _)
    | succ n =>
     have e2 : wrap64 (((n + 1 : Nat) : Int) - 1) = (n : Int) := by unfold wrap64; omega
     have e3 : (Col.diffs n l).length = l.length - n := Col.diffs_length _ _
     refine Ev.step (f := fun k => P.L_Sums.j2 k (Col.diffs (n + 1) l) (Col.diffs n l) false) (fun k => ?_) ?_
     ·rw [P.L_Sums.j1, if_neg (by decide), if_neg (by omega), e2, differences_some h (by omega) (by omega), Int.toNat_natCast]
      simp only [Option.bind_some, if_true]
      rw [show (((Col.diffs n l).length : Int) != wrap64 (((Col.diffs (n + 1) l).length : Int) + 1)) = false by rw [e1, e3, bne_eq_false_iff_eq]; unfold wrap64; omega]
     ·exact Ev.step (f := fun k => P.L_Sums.l0 k (Col.diffs (n + 1) l) (Col.diffs n l) 0 0) (fun k => by rw [P.L_Sums.j2, if_neg (by decide)]) (sums_loop h n (by omega))
end Go.Proofs.YtohlmoppcmjknaaGreatDoor.U
end
section
namespace Go.Proofs.YtohlmoppcmjknaaGreatDoor.columnSums
open Go.ChangeShapes Go.WideShapes Go.ChangeAt Go.RowKit
open Go.ChangeMaps (open_string shut_string)
set_option linter.unusedVariables false
set_option linter.unusedSimpArgs false
set_option maxRecDepth 100000 in
theorem lifted (os : Os) (started : os.Started) (H : Type) (enc : TypeId × Value → H) (F : Stop.Interp) :
  ReturnsInHanded {} Tryz.checked os 3 .any ((OpenSpec.ofChange Rows.columnSumsSpec).preRow enc Tryz.prog Tryz.f3 Rows.columnSumsRow.domain false Rows.columnSumsRow.laid) (((OpenSpec.ofChange Rows.columnSumsSpec).at F).post enc Tryz.prog Tryz.f3 false true false false) := by
 refine returnsInHanded_of_row (C := Tryz.checked) (s := OpenSpec.ofChange Rows.columnSumsSpec) X.own started (by kernel_rfl) Tryz.func3
  (witness_row_at (enc := enc) (C := Tryz.checked) false (World.laidAll Tryz.prog os Rows.columnSumsRow.laid) #[.agg #[.slice none 0 0, .int .i64 0, .int .i64 0, .int .i64 0], .int .i64 0] (World.laidAll_os _ _ _) (by kernel_rfl) (by kernel_rfl) (by kernel_rfl)
   (OpenSpec.preRow_of_B rfl 8 (by kernel_rfl) (by kernel_rfl) (by rw [MakeChecks.laidMetH_plain _ _ _ (by kernel_rfl)]; exact laidMet_laidAll _ (by kernel_rfl) (by kernel_rfl)))) ?_
 intro W base args ds gs before hval0 hW _ _ _ hL hsh _
 have hval : ∀ (j : Nat) t v, Tryz.f3.params[j]? = some t → args[j]? = some v → Value.okWide Tryz.prog W .any base t v := hval0
 have hW' := hW
 obtain ⟨p, q, hA0, hV, rfl, hfz, hnd⟩ := hW
 have hA : DataW.TrodAll enc Tryz.prog W 0 (fun _ => true) true Tryz.f3.params.toList args.toList ds p := hA0
 rw [Tryz.params3] at hA hval
 obtain ⟨v0, vs0, d0, ds0, p0, q0, hargs, rfl, rfl, h0, r0⟩ := trodAll_cons hA
 obtain ⟨v1, vs1, d1, ds1, p1, q1, rfl, rfl, rfl, h1, r1⟩ := trodAll_cons r0
 obtain ⟨rfl, rfl, rfl⟩ := trodAll_nil r1
 obtain rfl : args = #[v0, v1] := by cases args; simp_all
 obtain ⟨rfl, rfl⟩ := trodVars_none hV
 have k0 := h0
 have lt0 : ∀ x ∈ p0, x.block < W.heap.size := by obtain ⟨m, hm⟩ := k0; exact DataW.trod_lt m _ _ _ hm
 have k1 := h1
 have lt1 : ∀ x ∈ p1, x.block < W.heap.size := by obtain ⟨m, hm⟩ := k1; exact DataW.trod_lt m _ _ _ hm
 obtain ⟨A0, c0, l0, o0, lo0, hi0, rfl, hC0, hc0, w0, wo0, wl0, wh0⟩ := X.open_sheet (hval 0 26 v0 rfl rfl) h0
 obtain ⟨a1, rfl, rfl, rfl, w1⟩ := open_int Tryz.underlying3 (hval 1 3 v1 rfl rfl) h1
 clear hA0 hval0
 obtain ⟨k, hk⟩ := U.Sums l0 o0 lo0 hi0 a1 w0 wo0 wl0 wh0 w1
 refine (P.L_Sums.calls k A0 c0 l0 o0 lo0 hi0 a1 true W hC0 hc0 hk (X.glob_of hL hsh)).mono fun e W' ⟨he, bel⟩ => ?_
 subst he
 exact ⟨_, rfl, _, _, _, [], _, [], hW', trodAll_mk1 (shut_bool Tryz.underlying4 _), (trodAll_cons_mk (Below.trod X.laidOut (by kernel_rfl) (of_decide_eq_true (by kernel_rfl)) k0 bel lt0) (trodAll_cons_mk (Below.trod X.laidOut (by kernel_rfl) (of_decide_eq_true (by kernel_rfl)) k1 bel lt1) trodAll_mk0)), rfl, bel.frame _, fun h => by cases h⟩
theorem over : Rows.ColumnSumsSaid :=
 OpenClaim.holds_of_cond 3 Tryz.f3 rfl rfl rfl rfl rfl rfl rfl ⟨rfl, rfl, rfl, rfl, rfl⟩ rfl rfl rfl rfl rfl (by kernel_rfl) Tryz.func3 (by kernel_rfl)
  (of_decide_eq_true (by kernel_rfl)) (by unfold Func.isWrapper; first | (rw [if_pos (by decide +kernel)]; kernel_rfl) | (rw [if_neg (by decide +kernel)]; exact ⟨rfl, rfl⟩))
  (fun os started H enc _ F0 => by rw [OpenClaim.pre_eq_preRow]; exact lifted os started H enc F0)
theorem proved : Rows.ColumnSumsCardSaid :=
 Claim7.holds_tied_plain_at .later [] [.data, .data, .data, .data, .pinned] true (true, "7f37d9d6a7fa0705a98fa9ed146456bf698ab46bb3b98b6409a2b630b642219a") true over (fun _ h => by cases h) (by kernel_rfl) (fun _ h => by cases h) columnSums_row_tie rfl ⟨rfl, rfl⟩ (by kernel_rfl) rfl
  (fun f fn hf hfn => by
   obtain rfl : f = 3 := Option.some.inj ((show Tryz.prog.funcNamed "ephemerist/ephemeristlaw03.ColumnSums" = some 3 by kernel_rfl).symm.trans hf) |>.symm
   obtain rfl : fn = Tryz.f3 := (Option.some.inj (Tryz.func3.symm.trans hfn)).symm
   exact ⟨by kernel_rfl, fun j t ht => by
    rw [Tryz.params3] at ht
    have hm : t ∈ [26, 3] := by simpa using Array.mem_of_getElem? ht
    have hall : ([26, 3].all fun u => !Tryz.prog.wantsStandIn u) = true := by kernel_rfl
    exact (show Tryz.prog.wantsStandIn t = false by simpa using List.all_eq_true.1 hall t hm)⟩)
  (by kernel_rfl)
end Go.Proofs.YtohlmoppcmjknaaGreatDoor.columnSums
namespace Go.Proofs.YtohlmoppcmjknaaGreatDoor
theorem columnSums_holds : Rows.ColumnSumsCardSaid := columnSums.proved
end Go.Proofs.YtohlmoppcmjknaaGreatDoor
end
