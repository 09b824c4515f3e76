/- ColumnPrints: for every input the law returns true; each argument reads behind the call as it read before. Conditions: the listed package-level variables hold what the program's text lays (tied by the card). -/
import Derived.Test.YtohlmoppcmjknaaGreatDoorCards
import Derived.Test.YtohlmoppcmjknaaGreatDoorTie
import Derived.Test.YtohlmoppcmjknaaGreatDoorM2
import Derived.Test.YtohlmoppcmjknaaGreatDoorM21
import Derived.Test.YtohlmoppcmjknaaGreatDoorCPrints1
import Derived.Test.YtohlmoppcmjknaaGreatDoorCPrints3
import Derived.Test.YtohlmoppcmjknaaGreatDoorCPrints4
import Derived.Test.YtohlmoppcmjknaaGreatDoorCPrints5
section
namespace Go.Proofs.YtohlmoppcmjknaaGreatDoor.U
open Go.RowKit Go.Proofs.YtohlmoppcmjknaaGreatDoorW.PrintWords Go.Proofs.YtohlmoppcmjknaaGreatDoorW.PrintLast
open Go.Proofs.YtohlmoppcmjknaaGreatDoor.Col (nth inr bys)
set_option linter.unusedVariables false
def Prints.Pure : Prop := ∀ (l0_0 : List Int) (a0_1 : Int) (a0_2 : Int) (a0_3 : Int), (∀ n ∈ l0_0, X.Wf n) → X.Wf a0_1 → X.Wf a0_2 → X.Wf a0_3 → ∃ k, P.L_Prints.f k l0_0 a0_1 a0_2 a0_3 = some true
theorem sheet_short {l : List Int} {o lo hi : Int} (h : Col.isSheet l o lo hi = true) : Col.short l o lo hi = true := by
 obtain ⟨p1, p2, p3, p4, p5, p6, p7, p8⟩ := sheet_parts h
 unfold Col.short
 simp only [Bool.and_eq_true, inr, decide_eq_true_eq, List.all_eq_true]
 refine ⟨⟨⟨⟨by omega, by omega, by omega⟩, by omega, by omega⟩, by omega, by omega⟩, fun x hx => ?_⟩
 have := p8 x hx
 omega
theorem text_some {l : List Int} {o lo hi : Int} (h : Col.isSheet l o lo hi = true) : P.column_Print.f l o lo hi = some (bys (Col.text l o lo hi), 0) := by
 unfold P.column_Print.f P.column_isSheet.f
 rw [h]
 simp only [Option.bind_some, if_true]
 unfold P.column_text.f Col.ftext
 rw [if_pos (sheet_short h)]
 rfl
theorem text_not {l : List Int} {o lo hi : Int} (h : Col.isSheet l o lo hi = false) : P.column_Print.f l o lo hi = some (⟨#[]⟩, 2) := by
 unfold P.column_Print.f P.column_isSheet.f
 rw [h]
 simp
theorem read_text {l : List Int} {o lo hi : Int} (h : Col.isSheet l o lo hi = true) : P.column_Read.f (bys (Col.text l o lo hi)) = some (l, o, lo, hi, 0) := by
 obtain ⟨p1, p2, p3, _⟩ := sheet_parts h
 have hl := Col.text_len (sheet_short h) p2
 unfold P.column_Read.f Col.fRead
 rw [Col.bytes_size, if_neg (by omega), show (bys (Col.text l o lo hi)).toList = Col.text l o lo hi from ByteArray.toList_mk _, Col.parse_text (sheet_short h) (by omega)]
 simp only [h, if_true]
theorem sameSheets_ev (l : List Int) (o lo hi : Int) (hl : l.length ≤ 1000000) : Ev (fun k => P.R_SameSheets.f k l o lo hi l o lo hi) true := by
 refine Ev.congr (fun k => by unfold P.R_SameSheets.f; rfl) (Ev.bind (same_yes l l hl rfl) ?_)
 exact Ev.congr (f := fun _ => some true) (fun k => by simp) (Ev.now _)
theorem Prints : Prints.Pure := by
 intro l o lo hi _ _ _ _
 refine Ev.rounds (r := true) ?_
 by_cases hs : l.length ≤ 17
 ·have e1 : P.L_short.f l o lo hi = some true := by unfold P.L_short.f; rw [decide_eq_true (by omega)]
  have hsh := sheet_ev l o lo hi (by omega)
  cases h : Col.isSheet l o lo hi with
  | false =>
   rw [h] at hsh
   refine Ev.congr (fun k => by unfold P.L_Prints.f; rw [e1, text_not h]; simp only [Option.bind_some, if_true]; rfl) (Ev.bind hsh ?_)
   exact Ev.congr (f := fun _ => some true) (fun k => by rw [if_neg (by decide), if_pos (show (⟨#[]⟩ : ByteArray).toList = [] from ByteArray.toList_mk [])]; rfl) (Ev.now _)
  | true =>
   rw [h] at hsh
   refine Ev.congr (fun k => by unfold P.L_Prints.f; rw [e1, text_some h]; simp only [Option.bind_some, if_true]; rfl) (Ev.bind hsh ?_)
   refine Ev.congr (f := fun k => (P.R_Print.f k l o lo hi).bind fun t => if (bys (Col.text l o lo hi)).toList = t.toList then ((P.R_SameSheets.f k l o lo hi l o lo hi).bind fun t => if t = true then some true else some false) else some false) (fun k => ?_) ?_
   ·rw [if_pos rfl, read_text h]; rfl
   ·refine Ev.bind (print_ev l o lo hi (sheet_short h)) ?_
    refine Ev.congr (fun k => by rw [if_pos rfl]) (Ev.bind (sameSheets_ev l o lo hi (by omega)) ?_)
    exact Ev.congr (f := fun _ => some true) (fun k => rfl) (Ev.now _)
 ·have e1 : P.L_short.f l o lo hi = some false := by unfold P.L_short.f; rw [decide_eq_false (by omega)]
  exact Ev.congr (f := fun _ => some true) (fun k => by unfold P.L_Prints.f; rw [e1]; rfl) (Ev.now _)
end Go.Proofs.YtohlmoppcmjknaaGreatDoor.U
end
section
namespace Go.Proofs.YtohlmoppcmjknaaGreatDoor.columnPrints
open Go.ChangeShapes Go.WideShapes Go.ChangeAt Go.RowKit
open Go.ChangeMaps (open_string shut_string)
set_option linter.unusedVariables false
set_option linter.unusedSimpArgs false
set_option maxRecDepth 100000 in
theorem lifted (os : Os) (started : os.Started) (H : Type) (enc : TypeId × Value → H) (F : Stop.Interp) :
  ReturnsInHanded {} Tryz.checked os 13 .any ((OpenSpec.ofChange Rows.columnPrintsSpec).preRow enc Tryz.prog Tryz.f13 Rows.columnPrintsRow.domain false Rows.columnPrintsRow.laid) (((OpenSpec.ofChange Rows.columnPrintsSpec).at F).post enc Tryz.prog Tryz.f13 false true false false) := by
 refine returnsInHanded_of_row (C := Tryz.checked) (s := OpenSpec.ofChange Rows.columnPrintsSpec) X.own started (by kernel_rfl) Tryz.func13
  (witness_row_at (enc := enc) (C := Tryz.checked) false (World.laidAll Tryz.prog os Rows.columnPrintsRow.laid) #[.agg #[.slice none 0 0, .int .i64 0, .int .i64 0, .int .i64 0]] (World.laidAll_os _ _ _) (by kernel_rfl) (by kernel_rfl) (by kernel_rfl)
   (OpenSpec.preRow_of_B rfl 8 (by kernel_rfl) (by kernel_rfl) (by rw [MakeChecks.laidMetH_plain _ _ _ (by kernel_rfl)]; exact laidMet_laidAll _ (by kernel_rfl) (by kernel_rfl)))) ?_
 intro W base args ds gs before hval0 hW _ _ _ hL hsh _
 have hval : ∀ (j : Nat) t v, Tryz.f13.params[j]? = some t → args[j]? = some v → Value.okWide Tryz.prog W .any base t v := hval0
 have hW' := hW
 obtain ⟨p, q, hA0, hV, rfl, hfz, hnd⟩ := hW
 have hA : DataW.TrodAll enc Tryz.prog W 0 (fun _ => true) true Tryz.f13.params.toList args.toList ds p := hA0
 rw [Tryz.params13] at hA hval
 obtain ⟨v0, vs0, d0, ds0, p0, q0, hargs, rfl, rfl, h0, r0⟩ := trodAll_cons hA
 obtain ⟨rfl, rfl, rfl⟩ := trodAll_nil r0
 obtain rfl : args = #[v0] := by cases args; simp_all
 obtain ⟨rfl, rfl⟩ := trodVars_none hV
 have k0 := h0
 have lt0 : ∀ x ∈ p0, x.block < W.heap.size := by obtain ⟨m, hm⟩ := k0; exact DataW.trod_lt m _ _ _ hm
 obtain ⟨A0, c0, l0, o0, lo0, hi0, rfl, hC0, hc0, w0, wo0, wl0, wh0⟩ := X.open_sheet (hval 0 26 v0 rfl rfl) h0
 clear hA0 hval0
 obtain ⟨k, hk⟩ := U.Prints l0 o0 lo0 hi0 w0 wo0 wl0 wh0
 refine (P.L_Prints.calls k A0 c0 l0 o0 lo0 hi0 true W hC0 hc0 rfl hk (X.glob_of hL hsh)).mono fun e W' ⟨he, bel⟩ => ?_
 subst he
 exact ⟨_, rfl, _, _, _, [], _, [], hW', trodAll_mk1 (shut_bool Tryz.underlying4 _), (trodAll_cons_mk (Below.trod X.laidOut (by kernel_rfl) (of_decide_eq_true (by kernel_rfl)) k0 bel lt0) trodAll_mk0), rfl, bel.frame _, fun h => by cases h⟩
theorem over : Rows.ColumnPrintsSaid :=
 OpenClaim.holds_of_cond 13 Tryz.f13 rfl rfl rfl rfl rfl rfl rfl ⟨rfl, rfl, rfl, rfl, rfl⟩ rfl rfl rfl rfl rfl (by kernel_rfl) Tryz.func13 (by kernel_rfl)
  (of_decide_eq_true (by kernel_rfl)) (by unfold Func.isWrapper; first | (rw [if_pos (by decide +kernel)]; kernel_rfl) | (rw [if_neg (by decide +kernel)]; exact ⟨rfl, rfl⟩))
  (fun os started H enc _ F0 => by rw [OpenClaim.pre_eq_preRow]; exact lifted os started H enc F0)
theorem proved : Rows.ColumnPrintsCardSaid :=
 Claim7.holds_tied_plain_at .later [] [.data, .data, .data, .data, .pinned] true (true, "7f37d9d6a7fa0705a98fa9ed146456bf698ab46bb3b98b6409a2b630b642219a") true over (fun _ h => by cases h) (by kernel_rfl) (fun _ h => by cases h) columnPrints_row_tie rfl ⟨rfl, rfl⟩ (by kernel_rfl) rfl
  (fun f fn hf hfn => by
   obtain rfl : f = 13 := Option.some.inj ((show Tryz.prog.funcNamed "ephemerist/ephemeristlaw03.ColumnPrints" = some 13 by kernel_rfl).symm.trans hf) |>.symm
   obtain rfl : fn = Tryz.f13 := (Option.some.inj (Tryz.func13.symm.trans hfn)).symm
   exact ⟨by kernel_rfl, fun j t ht => by
    rw [Tryz.params13] at ht
    have hm : t ∈ [26] := by simpa using Array.mem_of_getElem? ht
    have hall : ([26].all fun u => !Tryz.prog.wantsStandIn u) = true := by kernel_rfl
    exact (show Tryz.prog.wantsStandIn t = false by simpa using List.all_eq_true.1 hall t hm)⟩)
  (by kernel_rfl)
end Go.Proofs.YtohlmoppcmjknaaGreatDoor.columnPrints
namespace Go.Proofs.YtohlmoppcmjknaaGreatDoor
theorem columnPrints_holds : Rows.ColumnPrintsCardSaid := columnPrints.proved
end Go.Proofs.YtohlmoppcmjknaaGreatDoor
end
