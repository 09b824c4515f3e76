/- ColumnDual: for every input the law returns true; each argument reads behind the call as it read before. Conditions: the listed package-level variables hold what the program's text lays (tied by the card). -/
import Derived.Test.YtohlmoppcmjknaaGreatDoorCards
import Derived.Test.YtohlmoppcmjknaaGreatDoorTie
import Derived.Test.YtohlmoppcmjknaaGreatDoorM2
import Derived.Test.YtohlmoppcmjknaaGreatDoorM21
import Derived.Test.YtohlmoppcmjknaaGreatDoorCDual1
import Derived.Test.YtohlmoppcmjknaaGreatDoorCDual2
import Derived.Test.YtohlmoppcmjknaaGreatDoorCDual3
section
namespace Go.Proofs.YtohlmoppcmjknaaGreatDoor.U
open Go.RowKit Go.Proofs.YtohlmoppcmjknaaGreatDoorW.PrintWords Go.Proofs.YtohlmoppcmjknaaGreatDoorW.PrintLast
open Go.Proofs.YtohlmoppcmjknaaGreatDoor.Col (nth inr)
set_option linter.unusedVariables false
def Dual.Pure : Prop := ∀ (l0_0 : List Int) (a0_1 : Int) (a0_2 : Int) (a0_3 : Int) (l1 : List Int), (∀ n ∈ l0_0, X.Wf n) → X.Wf a0_1 → X.Wf a0_2 → X.Wf a0_3 → (∀ n ∈ l1, X.Wf n) → ∃ k, P.L_Dual.f k l0_0 a0_1 a0_2 a0_3 l1 = some true
theorem dual_other (l : List Int) (o lo hi : Int) (q J Pf : List Int) (hq : q.length ≤ 1000000) (hb : ∀ x ∈ q, -1000000 ≤ x ∧ x ≤ 1000000) (hJl : J.length ≤ 1000000) (ho : 0 ≤ o)
  (hbest : Col.Apart o q → (∀ x ∈ q, x ∈ J) → q.length ≤ Pf.length ∧ (q.length = Pf.length → Col.before q Pf = false)) :
  Ev (fun k => P.L_Dual.l1 k q J Pf 0 l o lo hi) true := by
 by_cases hall : ∀ x ∈ q, x ∈ J
 ·have h := loop_up (g := fun k i => P.L_Dual.l1 k q J Pf i l o lo hi) (n := q.length) (r := fun _ => true) ?_ ?_ 0 (Nat.zero_le _)
  ·exact h
  ·refine Ev.step (f := fun k => (P.R_Apart.f k l o lo hi q).bind fun t => if t = true then (if (q.length : Int) < (Pf.length : Int) then ((P.L_known.f).bind fun t => some t) else (if (q.length : Int) = (Pf.length : Int) then ((P.T_Before.f k q Pf).bind fun t => if t = true then some false else ((P.L_known.f).bind fun t => some t)) else some false)) else ((P.L_known.f).bind fun t => some t)) (fun k => by rw [P.L_Dual.l1, if_neg (by omega)]) ?_
   refine Ev.bind (apart_ev l o lo hi q hq hb) ?_
   cases hg : gap o q with
   | false => exact Ev.congr (f := fun _ => some true) (fun k => rfl) (Ev.now _)
   | true =>
    obtain ⟨b1, b2⟩ := hbest ((gap_iff ho).1 hg) hall
    by_cases hlt : q.length < Pf.length
    ·exact Ev.congr (f := fun _ => some true) (fun k => by rw [if_pos rfl, if_pos (by omega)]; rfl) (Ev.now _)
    ·have he : q.length = Pf.length := by omega
     refine Ev.congr (f := fun k => (P.T_Before.f k q Pf).bind fun t => if t = true then some false else ((P.L_known.f).bind fun t => some t)) (fun k => by rw [if_pos rfl, if_neg (by omega), if_pos (by omega)]) ?_
     have hbf := before_ev q Pf hq
     rw [b2 he] at hbf
     exact Ev.bind hbf (Ev.congr (f := fun _ => some true) (fun k => rfl) (Ev.now _))
  ·intro i hil ih
   refine Ev.step (f := fun k => (P.T_Listed.f k J (nth q i)).bind fun t => if t = true then P.L_Dual.l1 k q J Pf ((i + 1 : Nat) : Int) l o lo hi else ((P.L_known.f).bind fun t => some t)) (fun k => by rw [P.L_Dual.l1, if_pos (by omega), if_pos (by omega), rd_nth, w1 hil hq]) ?_
   have hli := listed_ev J (nth q i) hJl
   rw [decide_eq_true (hall _ (Col.nth_mem hil))] at hli
   exact Ev.bind hli (by simpa using ih)
 ·
  have key : ∀ i, i ≤ q.length → (∃ x ∈ q.drop i, x ∉ J) → Ev (fun k => P.L_Dual.l1 k q J Pf (i : Int) l o lo hi) true := by
   intro i hi' hx
   obtain ⟨d, hd⟩ : ∃ d, q.length = i + d := ⟨q.length - i, by omega⟩
   induction d generalizing i with
   | zero =>
    obtain ⟨x, hx, _⟩ := hx
    rw [List.drop_of_length_le (by omega)] at hx
    cases hx
   | succ d ih =>
    have hil : i < q.length := by omega
    have hli := listed_ev J (nth q i) hJl
    refine Ev.step (f := fun k => (P.T_Listed.f k J (nth q i)).bind fun t => if t = true then P.L_Dual.l1 k q J Pf ((i + 1 : Nat) : Int) l o lo hi else ((P.L_known.f).bind fun t => some t)) (fun k => by rw [P.L_Dual.l1, if_pos (by omega), if_pos (by omega), rd_nth, w1 hil hq]) ?_
    refine Ev.bind hli ?_
    by_cases hin : nth q i ∈ J
    ·rw [decide_eq_true hin]
     have hx' : ∃ x ∈ q.drop (i + 1), x ∉ J := by
      obtain ⟨x, hx, hn⟩ := hx
      rw [drop_cons q 0 hil] at hx
      rcases List.mem_cons.1 hx with rfl | hx
      ·exact absurd hin hn
      ·exact ⟨x, hx, hn⟩
     simpa using ih (i + 1) (by omega) hx' (by omega)
    ·rw [decide_eq_false hin]
     exact Ev.congr (f := fun _ => some true) (fun k => rfl) (Ev.now _)
  have h2 : ∃ x ∈ q, x ∉ J := Classical.byContradiction fun h => hall fun x hx => Classical.byContradiction fun hn => h ⟨x, hx, hn⟩
  exact key 0 (Nat.zero_le _) (by simpa using h2)
theorem Dual : Dual.Pure := by
 intro l o lo hi q _ _ _ _ _
 have hno : ∀ k, P.L_Dual.j0 (k + 1) q true l o lo hi = some true := fun k => by rw [P.L_Dual.j0, if_pos rfl]; rfl
 refine Ev.rounds (r := true) ?_
 cases h : Col.isSheet l o lo hi with
 | false =>
  have hr := right_ev l o lo hi
  rw [h] at hr
  refine Ev.congr (fun k => by unfold P.L_Dual.f; rfl) (Ev.bind hr ?_)
  exact Ev.step (f := fun _ => some true) (fun k => by rw [if_neg (by decide)]; exact hno k) (Ev.now _)
 | true =>
  have hr := right_ev l o lo hi
  rw [h] at hr
  obtain ⟨p1, p2, p3, p4, _, _, _, _⟩ := sheet_parts h
  refine Ev.congr (fun k => by unfold P.L_Dual.f; rfl) (Ev.bind hr ?_)
  simp only [if_true]
  by_cases h16 : q.length ≤ 16
  ·refine Ev.congr (f := fun k => (P.R_Rising.f k q ((l.length : Int) - 1)).bind fun t => P.L_Dual.j0 k q (!t) l o lo hi) (fun k => by rw [if_neg (by omega), wrap_len (by omega)]) ?_
   refine Ev.bind (rising_ev q _ (by omega)) ?_
   cases hu : up1 ((l.length : Int) - 1) (-1) q with
   | false => exact Ev.step (f := fun _ => some true) (fun k => hno k) (Ev.now _)
   | true =>
    obtain ⟨u1, u2⟩ := up1_iff.1 hu
    obtain ⟨M, hM, _, _⟩ := Col.wrongs_ex l (o := o) (by omega) lo hi
    obtain ⟨x, rest, hw, hxl, _, _, _⟩ := Col.wrong_first l (o := o) (by omega) lo hi hM
    have hpl := Col.proof_len (o := o) (by omega) (Col.js_pw l o lo hi) hM
    have hap := Col.apart_apart (o := o) ((Col.js l o lo hi).length + 1) (Col.js l o lo hi)
    have hbest := Col.apart_best (o := o) (by omega) ((Col.js l o lo hi).length + 1) (Col.js l o lo hi) (by omega) (Col.js_pw l o lo hi) q
    have hjl := Col.js_len l (o := o) (by omega) lo hi
    have hjb := Col.js_bd (l := l) (o := o) (lo := lo) (hi := hi) (by omega)
    have eJ := jumps_some h
    have eP := proof_some h
    have eW := wrong_some h
    rw [hw] at eW
    generalize Col.apart ((Col.js l o lo hi).length + 1) o (Col.js l o lo hi) = Pf at *
    generalize Col.js l o lo hi = J at *
    have hPb : ∀ y ∈ Pf, 0 ≤ y ∧ y ≤ (l.length : Int) - 1 := fun y hy => by have := hjb y (hap.2 y hy); omega
    have hPl : Pf.length ≤ l.length := by
     have hwk := Col.weak Pf J hap.1 (Col.cov_iff.2 fun i hi => ⟨i, hap.2 i hi, by omega⟩)
     omega
    have hPup : up1 ((l.length : Int) - 1) (-1) Pf = true := up1_iff.2 ⟨fun y hy => by have := hPb y hy; omega, List.Pairwise.imp (fun h => by omega) hap.1⟩
    refine Ev.step (f := fun k => (P.R_Rising.f k Pf ((l.length : Int) - 1)).bind fun t => if t = true then ((P.R_Apart.f k l o lo hi Pf).bind fun t => if t = true then P.L_Dual.j1 k q J Pf ((Pf.length : Int) != (x.length : Int)) l o lo hi else P.L_Dual.j1 k q J Pf true l o lo hi) else P.L_Dual.j1 k q J Pf true l o lo hi) (fun k => ?_) ?_
    ·rw [P.L_Dual.j0, if_neg (by decide), eJ, eP, eW, wrap_len (by omega)]
     simp only [Option.bind_some, if_true, List.headD_cons]
     rw [if_neg (by omega), if_neg (by omega)]
    ·have hri := rising_ev Pf ((l.length : Int) - 1) (by omega)
     rw [hPup] at hri
     refine Ev.bind hri ?_
     simp only [if_true]
     have hae := apart_ev l o lo hi Pf (by omega) (fun y hy => by have := hPb y hy; omega)
     rw [(gap_iff (by omega)).2 hap.1] at hae
     refine Ev.bind hae ?_
     simp only [if_true]
     refine Ev.step (f := fun k => P.L_Dual.l0 k q J Pf 0 l o lo hi) (fun k => by rw [P.L_Dual.j1, if_neg (by rw [bne_iff_ne]; simp; omega)]) ?_
     have hoth := dual_other l o lo hi q J Pf (by omega) (fun y hy => by have := u1 y hy; omega) (by omega) (by omega) hbest
     have hlp := loop_up (g := fun k i => P.L_Dual.l0 k q J Pf i l o lo hi) (n := Pf.length) (r := fun _ => true) ?_ ?_ 0 (Nat.zero_le _)
     ·exact hlp
     ·exact Ev.step (f := fun k => P.L_Dual.l1 k q J Pf 0 l o lo hi) (fun k => by rw [P.L_Dual.l0, if_neg (by omega)]) hoth
     ·intro i hil ih
      refine Ev.step (f := fun k => (P.T_Listed.f k J (nth Pf i)).bind fun t => if t = true then P.L_Dual.l0 k q J Pf ((i + 1 : Nat) : Int) l o lo hi else some false) (fun k => by rw [P.L_Dual.l0, if_pos (by omega), if_pos (by omega), rd_nth, w1 (n := Pf.length) hil (by omega)]) ?_
      have hli := listed_ev J (nth Pf i) (by omega)
      rw [decide_eq_true (hap.2 _ (Col.nth_mem hil))] at hli
      exact Ev.bind hli (by simpa using ih)
  ·exact Ev.step (f := fun _ => some true) (fun k => by rw [if_pos (by omega)]; exact hno k) (Ev.now _)
end Go.Proofs.YtohlmoppcmjknaaGreatDoor.U
end
section
namespace Go.Proofs.YtohlmoppcmjknaaGreatDoor.columnDual
open Go.ChangeShapes Go.WideShapes Go.ChangeAt Go.RowKit
open Go.ChangeMaps (open_string shut_string)
set_option linter.unusedVariables false
set_option linter.unusedSimpArgs false
set_option maxRecDepth 100000 in
theorem lifted (os : Os) (started : os.Started) (H : Type) (enc : TypeId × Value → H) (F : Stop.Interp) :
  ReturnsInHanded {} Tryz.checked os 8 .any ((OpenSpec.ofChange Rows.columnDualSpec).preRow enc Tryz.prog Tryz.f8 Rows.columnDualRow.domain false Rows.columnDualRow.laid) (((OpenSpec.ofChange Rows.columnDualSpec).at F).post enc Tryz.prog Tryz.f8 false true false false) := by
 refine returnsInHanded_of_row (C := Tryz.checked) (s := OpenSpec.ofChange Rows.columnDualSpec) X.own started (by kernel_rfl) Tryz.func8
  (witness_row_at (enc := enc) (C := Tryz.checked) false (World.laidAll Tryz.prog os Rows.columnDualRow.laid) #[.agg #[.slice none 0 0, .int .i64 0, .int .i64 0, .int .i64 0], .slice none 0 0] (World.laidAll_os _ _ _) (by kernel_rfl) (by kernel_rfl) (by kernel_rfl)
   (OpenSpec.preRow_of_B rfl 8 (by kernel_rfl) (by kernel_rfl) (by rw [MakeChecks.laidMetH_plain _ _ _ (by kernel_rfl)]; exact laidMet_laidAll _ (by kernel_rfl) (by kernel_rfl)))) ?_
 intro W base args ds gs before hval0 hW _ _ _ hL hsh _
 have hval : ∀ (j : Nat) t v, Tryz.f8.params[j]? = some t → args[j]? = some v → Value.okWide Tryz.prog W .any base t v := hval0
 have hW' := hW
 obtain ⟨p, q, hA0, hV, rfl, hfz, hnd⟩ := hW
 have hA : DataW.TrodAll enc Tryz.prog W 0 (fun _ => true) true Tryz.f8.params.toList args.toList ds p := hA0
 rw [Tryz.params8] at hA hval
 obtain ⟨v0, vs0, d0, ds0, p0, q0, hargs, rfl, rfl, h0, r0⟩ := trodAll_cons hA
 obtain ⟨v1, vs1, d1, ds1, p1, q1, rfl, rfl, rfl, h1, r1⟩ := trodAll_cons r0
 obtain ⟨rfl, rfl, rfl⟩ := trodAll_nil r1
 obtain rfl : args = #[v0, v1] := by cases args; simp_all
 obtain ⟨rfl, rfl⟩ := trodVars_none hV
 have k0 := h0
 have lt0 : ∀ x ∈ p0, x.block < W.heap.size := by obtain ⟨m, hm⟩ := k0; exact DataW.trod_lt m _ _ _ hm
 have k1 := h1
 have lt1 : ∀ x ∈ p1, x.block < W.heap.size := by obtain ⟨m, hm⟩ := k1; exact DataW.trod_lt m _ _ _ hm
 obtain ⟨A0, c0, l0, o0, lo0, hi0, rfl, hC0, hc0, w0, wo0, wl0, wh0⟩ := X.open_sheet (hval 0 26 v0 rfl rfl) h0
 obtain ⟨A1, c1, l1, rfl, hC1, hc1, w1⟩ := X.open_slice_arg (hval 1 22 v1 rfl rfl) h1
 clear hA0 hval0
 obtain ⟨k, hk⟩ := U.Dual l0 o0 lo0 hi0 l1 w0 wo0 wl0 wh0 w1
 refine (P.L_Dual.calls k A0 c0 l0 o0 lo0 hi0 A1 c1 l1 true W hC0 hc0 hC1 hc1 hk (X.glob_of hL hsh)).mono fun e W' ⟨he, bel⟩ => ?_
 subst he
 exact ⟨_, rfl, _, _, _, [], _, [], hW', trodAll_mk1 (shut_bool Tryz.underlying4 _), (trodAll_cons_mk (Below.trod X.laidOut (by kernel_rfl) (of_decide_eq_true (by kernel_rfl)) k0 bel lt0) (trodAll_cons_mk (Below.trod X.laidOut (by kernel_rfl) (of_decide_eq_true (by kernel_rfl)) k1 bel lt1) trodAll_mk0)), rfl, bel.frame _, fun h => by cases h⟩
theorem over : Rows.ColumnDualSaid :=
 OpenClaim.holds_of_cond 8 Tryz.f8 rfl rfl rfl rfl rfl rfl rfl ⟨rfl, rfl, rfl, rfl, rfl⟩ rfl rfl rfl rfl rfl (by kernel_rfl) Tryz.func8 (by kernel_rfl)
  (of_decide_eq_true (by kernel_rfl)) (by unfold Func.isWrapper; first | (rw [if_pos (by decide +kernel)]; kernel_rfl) | (rw [if_neg (by decide +kernel)]; exact ⟨rfl, rfl⟩))
  (fun os started H enc _ F0 => by rw [OpenClaim.pre_eq_preRow]; exact lifted os started H enc F0)
theorem proved : Rows.ColumnDualCardSaid :=
 Claim7.holds_tied_plain_at .later [] [.data, .data, .data, .data, .pinned] true (true, "7f37d9d6a7fa0705a98fa9ed146456bf698ab46bb3b98b6409a2b630b642219a") true over (fun _ h => by cases h) (by kernel_rfl) (fun _ h => by cases h) columnDual_row_tie rfl ⟨rfl, rfl⟩ (by kernel_rfl) rfl
  (fun f fn hf hfn => by
   obtain rfl : f = 8 := Option.some.inj ((show Tryz.prog.funcNamed "ephemerist/ephemeristlaw03.ColumnDual" = some 8 by kernel_rfl).symm.trans hf) |>.symm
   obtain rfl : fn = Tryz.f8 := (Option.some.inj (Tryz.func8.symm.trans hfn)).symm
   exact ⟨by kernel_rfl, fun j t ht => by
    rw [Tryz.params8] at ht
    have hm : t ∈ [26, 22] := by simpa using Array.mem_of_getElem? ht
    have hall : ([26, 22].all fun u => !Tryz.prog.wantsStandIn u) = true := by kernel_rfl
    exact (show Tryz.prog.wantsStandIn t = false by simpa using List.all_eq_true.1 hall t hm)⟩)
  (by kernel_rfl)
end Go.Proofs.YtohlmoppcmjknaaGreatDoor.columnDual
namespace Go.Proofs.YtohlmoppcmjknaaGreatDoor
theorem columnDual_holds : Rows.ColumnDualCardSaid := columnDual.proved
end Go.Proofs.YtohlmoppcmjknaaGreatDoor
end
