/- ColumnFitting: for every input the law returns true; each argument reads behind the call as it read before. Conditions: the listed package-level variables hold what the program's text lays (tied by the card). -/
import Derived.Test.YtohlmoppcmjknaaGreatDoorCards
import Derived.Test.YtohlmoppcmjknaaGreatDoorTie
import Derived.Test.YtohlmoppcmjknaaGreatDoorM2
import Derived.Test.YtohlmoppcmjknaaGreatDoorM21
import Derived.Test.YtohlmoppcmjknaaGreatDoorCFitting2
import Derived.Test.YtohlmoppcmjknaaGreatDoorCFitting4
section
namespace Go.Proofs.YtohlmoppcmjknaaGreatDoor.U
open Go.RowKit Go.Proofs.YtohlmoppcmjknaaGreatDoorW.PrintWords Go.Proofs.YtohlmoppcmjknaaGreatDoorW.PrintLast
open Go.Proofs.YtohlmoppcmjknaaGreatDoor.Col (nth inr)
set_option linter.unusedVariables false
def Fitting.Pure : Prop := ∀ (l0_0 : List Int) (a0_1 : Int) (a0_2 : Int) (a0_3 : Int) (a1 : Int) (a2 : Int), (∀ n ∈ l0_0, X.Wf n) → X.Wf a0_1 → X.Wf a0_2 → X.Wf a0_3 → X.Wf a1 → X.Wf a2 → ∃ k, P.L_Fitting.f k l0_0 a0_1 a0_2 a0_3 a1 a2 = some true
def fine (o r : Nat) (J : List Int) (i : Nat) : Bool := (List.range i).all fun w => !(decide (w ≤ r) && decide (r ≤ w + o)) || !decide ((w : Int) ∈ J)
theorem fine_succ (o r : Nat) (J : List Int) (i : Nat) : fine o r J (i + 1) = (fine o r J i && (!(decide (i ≤ r) && decide (r ≤ i + o)) || !decide ((i : Int) ∈ J))) := by
 simp [fine, List.range_succ]
theorem fine_iff {o r : Nat} {J : List Int} {i : Nat} : fine o r J i = true ↔ ∀ w, w < i → w ≤ r → r ≤ w + o → (w : Int) ∉ J := by
 unfold fine
 simp only [List.all_eq_true, List.mem_range, Bool.or_eq_true, Bool.not_eq_true', Bool.and_eq_false_iff, decide_eq_false_iff_not]
 constructor
 ·intro h w hw h1 h2
  rcases h w hw with h3 | h3
  ·omega
  ·exact h3
 ·intro h w hw
  by_cases h1 : w ≤ r ∧ r ≤ w + o
  ·exact .inr (h w hw h1.1 h1.2)
  ·exact .inl (by omega)
theorem Fitting : Fitting.Pure := by
 intro l o lo hi row v _ _ _ _ _ _
 have hno : ∀ k, P.L_Fitting.j0 (k + 1) row v true l o lo hi = some true := fun k => by rw [P.L_Fitting.j0, if_pos rfl]; rfl
 have hnoE : Ev (fun k => P.L_Fitting.j0 k row v true l o lo hi) true := Ev.step (f := fun _ => some true) (fun k => hno k) (Ev.now _)
 refine Ev.rounds (r := true) ?_
 have hr := right_ev l o lo hi
 refine Ev.congr (fun k => by unfold P.L_Fitting.f; rfl) (Ev.bind hr ?_)
 cases h : Col.isSheet l o lo hi with
 | false => exact Ev.congr (fun k => by rw [if_neg (by decide)]) hnoE
 | true =>
  obtain ⟨p1, p2, p3, p4, _, _, _, _⟩ := sheet_parts h
  simp only [if_true]
  rw [line_some _ _ _ _ _ (by omega), value_some]
  simp only [Option.bind_some]
  cases hrow : inr row 0 ((l.length : Int) - 1) with
  | false => exact Ev.congr (fun k => by rw [if_neg (by decide)]) hnoE
  | true =>
   simp only [if_true]
   cases hval : inr v (-9999) 9999 with
   | false => exact hnoE
   | true =>
    simp only [inr, Bool.and_eq_true, decide_eq_true_eq] at hrow hval
    obtain ⟨r, rfl⟩ : ∃ r : Nat, row = r := ⟨row.toNat, by omega⟩
    obtain ⟨n, rfl⟩ : ∃ n : Nat, o = n := ⟨o.toNat, by omega⟩
    have hrl : r < l.length := by omega
    have h' := sheet_set (r := r) h hval
    have hbi := Col.between_iff (l := l) (o := n) (row := r) (lo := lo) (hi := hi) (v := v) (by omega) (by omega) hrl hval
    have hfar := fun w hw hx => Col.diff_far (l := l) (o := n) (row := r) (v := v) (w := w) (by omega) (by omega) hw hx
    have hJ := fun w hw => mem_js (l := l) (o := (n : Int)) (lo := lo) (hi := hi) (w := w) (by omega) hw
    have hJ' := fun w hw => mem_js (l := l.set r v) (o := (n : Int)) (lo := lo) (hi := hi) (w := w) (by omega) hw
    simp only [List.length_set, Int.toNat_natCast] at hJ hJ'
    have hl1 := Col.js_len l (o := (n : Int)) (by omega) lo hi
    have hl2 := Col.js_len (l.set r v) (o := (n : Int)) (by omega) lo hi
    rw [List.length_set] at hl2
    have e1 := jumps_some h
    have e2 := jumps_some h'
    have eb := between_ev h hrl
    generalize Col.js l (n : Int) lo hi = J at *
    generalize Col.js (l.set r v) (n : Int) lo hi = J' at *
    generalize hB : Col.between l (n : Int) lo hi (r : Int) = B at *

    have hfin : fine n r J' (l.length - n) = true ↔ B.1 ≤ v ∧ v ≤ B.2 := by
     rw [hbi, fine_iff]
     constructor
     ·intro hf w hw h1 h2
      have := hf w (by omega) h1 h2
      rw [hJ' w (by omega)] at this
      simpa using this
     ·intro hf w hw h1 h2
      rw [hJ' w (by omega), hf w (by omega) h1 h2]
      simp
    have hloop : ∀ e x y, (e = 0 → x = B.1 ∧ y = B.2) → (e ≠ 0 → B.2 < B.1) → Ev (fun k => P.L_Fitting.l0 k r v e J J' true 0 l n lo hi x y) true := by
     intro e x y he he'
     have hlp := loop_up (g := fun k i => P.L_Fitting.l0 k r v e J J' (fine n r J' i.toNat) i l n lo hi x y) (n := l.length - n) (r := fun _ => true) ?_ ?_ 0 (Nat.zero_le _)
     ·exact hlp
     ·refine Ev.step (f := fun _ => some true) (fun k => ?_) (Ev.now _)
      have hfn : fine n r J' ((l.length - n : Nat) : Int).toNat = fine n r J' (l.length - n) := by rw [Int.toNat_natCast]
      rw [P.L_Fitting.l0, if_neg (by unfold wrap64; omega), hfn]
      by_cases h0 : e = 0
      ·obtain ⟨hx0, hy0⟩ := he h0
       rw [if_pos h0, hx0, hy0]
       by_cases hx : v ≥ B.1
       ·have hq : fine n r J' (l.length - n) = decide (v ≤ B.2) := by
         rw [Bool.eq_iff_iff, hfin, decide_eq_true_eq]; omega
        rw [if_pos hx, hq, if_pos (by simp)]; rfl
       ·have hq : fine n r J' (l.length - n) = false := by
         rw [← Bool.not_eq_true, hfin]; omega
        rw [if_neg hx, hq, if_pos (by decide)]; rfl
      ·have hlt := he' h0
       have hq : fine n r J' (l.length - n) = false := by
        rw [← Bool.not_eq_true, hfin]; omega
       rw [if_neg h0, hq, if_pos (by decide)]; rfl
     ·intro i hil ih
      have hst := fine_succ n r J' i
      have HW1 := Lib.hid (w1 (i := i) (n := l.length) (by omega) (by omega))
      have W2 := Lib.hid (show wrap64 ((i : Int) + (n : Int)) = ((i + n : Nat) : Int) by unfold wrap64; omega)
      simp only [Int.toNat_natCast] at ih ⊢
      by_cases hin : i ≤ r ∧ r ≤ i + n
      ·rw [show (decide (i ≤ r) && decide (r ≤ i + n)) = true by simp [hin]] at hst
       refine Ev.step (f := fun k => P.L_Fitting.j3 k r v e J J' (fine n r J' i) i true l n lo hi x y) (fun k => ?_) ?_
       ·rw [P.L_Fitting.l0, W2.out, if_pos (by omega), if_pos (by omega), decide_eq_true (by omega)]
       ·cases hfi : fine n r J' i with
        | true =>
         refine Ev.step (f := fun k => (P.T_Listed.f k J' (i : Int)).bind fun t => P.L_Fitting.l0 k r v e J J' (!t) ((i + 1 : Nat) : Int) l n lo hi x y) (fun k => by rw [P.L_Fitting.j3, if_pos rfl, if_pos rfl, HW1.out]) ?_
         refine Ev.bind (listed_ev J' i (by omega)) ?_
         rw [hst, hfi] at ih
         simpa using ih
        | false =>
         refine Ev.step (f := fun k => P.L_Fitting.l0 k r v e J J' false ((i + 1 : Nat) : Int) l n lo hi x y) (fun k => by rw [P.L_Fitting.j3, if_pos rfl, if_neg (by decide), HW1.out]) ?_
         rw [hst, hfi] at ih
         simpa using ih
      ·rw [show (decide (i ≤ r) && decide (r ≤ i + n)) = false by rw [Bool.and_eq_false_iff]; simp; omega] at hst
       have hsame : ((i : Int) ∈ J') ↔ ((i : Int) ∈ J) := by rw [hJ' i (by omega), hJ i (by omega), hfar i (by omega) (by omega)]
       refine Ev.step (f := fun k => P.L_Fitting.j3 k r v e J J' (fine n r J' i) i false l n lo hi x y) (fun k => ?_) ?_
       ·rw [P.L_Fitting.l0, W2.out, if_pos (by omega)]
        by_cases hc : (r : Int) ≥ (i : Int)
        ·rw [if_pos hc, decide_eq_false (by omega)]
        ·rw [if_neg hc]
       ·refine Ev.step (f := fun k => (P.T_Listed.f k J' (i : Int)).bind fun t => (P.T_Listed.f k J (i : Int)).bind fun u => if (t != u) = true then some false else P.L_Fitting.l0 k r v e J J' (fine n r J' i) ((i + 1 : Nat) : Int) l n lo hi x y) (fun k => by rw [P.L_Fitting.j3, if_neg (by decide), HW1.out]) ?_
        refine Ev.bind (listed_ev J' i (by omega)) ?_
        refine Ev.bind (listed_ev J i (by omega)) ?_
        rw [show decide ((i : Int) ∈ J') = decide ((i : Int) ∈ J) by rw [decide_eq_decide]; exact hsame]
        rw [hst] at ih
        simpa using ih
    have hch := changed_some (l := l) (o := (n : Int)) (lo := lo) (hi := hi) (v := v) hrl (by omega)
    refine Ev.pre ?_
    simp only [P.L_Fitting.j0, Bool.not_true, Bool.false_eq_true, if_false, e1, hch, e2, Option.bind_some]
    refine Ev.bind eb ?_
    by_cases hlt : B.2 < B.1
    ·rw [if_pos hlt]
     refine Ev.congr (f := fun k => P.L_Fitting.j1 k r v 5 J J' false l n lo hi 0 0) (fun k => ?_) (Ev.step (f := fun k => P.L_Fitting.l0 k r v 5 J J' true 0 l n lo hi 0 0) (fun k => by rw [P.L_Fitting.j1, if_neg (by decide)]) (hloop 5 0 0 (fun h => absurd h (by decide)) (fun _ => hlt)))
     simp only [if_true]
     rw [if_neg (by decide), if_neg (by omega), decide_eq_false (by omega)]
    ·rw [if_neg hlt]
     refine Ev.congr (f := fun k => P.L_Fitting.j1 k r v 0 J J' false l n lo hi B.1 B.2) (fun k => ?_) (Ev.step (f := fun k => P.L_Fitting.l0 k r v 0 J J' true 0 l n lo hi B.1 B.2) (fun k => by rw [P.L_Fitting.j1, if_neg (by decide)]) (hloop 0 _ _ (fun _ => ⟨rfl, rfl⟩) (fun h => absurd rfl h)))
     simp only [if_true]
     rw [if_neg (by omega), decide_eq_false (by omega)]
end Go.Proofs.YtohlmoppcmjknaaGreatDoor.U
end
section
namespace Go.Proofs.YtohlmoppcmjknaaGreatDoor.columnFitting
open Go.ChangeShapes Go.WideShapes Go.ChangeAt Go.RowKit
open Go.ChangeMaps (open_string shut_string)
set_option linter.unusedVariables false
set_option linter.unusedSimpArgs false
set_option maxRecDepth 100000 in
theorem lifted (os : Os) (started : os.Started) (H : Type) (enc : TypeId × Value → H) (F : Stop.Interp) :
  ReturnsInHanded {} Tryz.checked os 9 .any ((OpenSpec.ofChange Rows.columnFittingSpec).preRow enc Tryz.prog Tryz.f9 Rows.columnFittingRow.domain false Rows.columnFittingRow.laid) (((OpenSpec.ofChange Rows.columnFittingSpec).at F).post enc Tryz.prog Tryz.f9 false true false false) := by
 refine returnsInHanded_of_row (C := Tryz.checked) (s := OpenSpec.ofChange Rows.columnFittingSpec) X.own started (by kernel_rfl) Tryz.func9
  (witness_row_at (enc := enc) (C := Tryz.checked) false (World.laidAll Tryz.prog os Rows.columnFittingRow.laid) #[.agg #[.slice none 0 0, .int .i64 0, .int .i64 0, .int .i64 0], .int .i64 0, .int .i64 0] (World.laidAll_os _ _ _) (by kernel_rfl) (by kernel_rfl) (by kernel_rfl)
   (OpenSpec.preRow_of_B rfl 8 (by kernel_rfl) (by kernel_rfl) (by rw [MakeChecks.laidMetH_plain _ _ _ (by kernel_rfl)]; exact laidMet_laidAll _ (by kernel_rfl) (by kernel_rfl)))) ?_
 intro W base args ds gs before hval0 hW _ _ _ hL hsh _
 have hval : ∀ (j : Nat) t v, Tryz.f9.params[j]? = some t → args[j]? = some v → Value.okWide Tryz.prog W .any base t v := hval0
 have hW' := hW
 obtain ⟨p, q, hA0, hV, rfl, hfz, hnd⟩ := hW
 have hA : DataW.TrodAll enc Tryz.prog W 0 (fun _ => true) true Tryz.f9.params.toList args.toList ds p := hA0
 rw [Tryz.params9] at hA hval
 obtain ⟨v0, vs0, d0, ds0, p0, q0, hargs, rfl, rfl, h0, r0⟩ := trodAll_cons hA
 obtain ⟨v1, vs1, d1, ds1, p1, q1, rfl, rfl, rfl, h1, r1⟩ := trodAll_cons r0
 obtain ⟨v2, vs2, d2, ds2, p2, q2, rfl, rfl, rfl, h2, r2⟩ := trodAll_cons r1
 obtain ⟨rfl, rfl, rfl⟩ := trodAll_nil r2
 obtain rfl : args = #[v0, v1, v2] := by cases args; simp_all
 obtain ⟨rfl, rfl⟩ := trodVars_none hV
 have k0 := h0
 have lt0 : ∀ x ∈ p0, x.block < W.heap.size := by obtain ⟨m, hm⟩ := k0; exact DataW.trod_lt m _ _ _ hm
 have k1 := h1
 have lt1 : ∀ x ∈ p1, x.block < W.heap.size := by obtain ⟨m, hm⟩ := k1; exact DataW.trod_lt m _ _ _ hm
 have k2 := h2
 have lt2 : ∀ x ∈ p2, x.block < W.heap.size := by obtain ⟨m, hm⟩ := k2; exact DataW.trod_lt m _ _ _ hm
 obtain ⟨A0, c0, l0, o0, lo0, hi0, rfl, hC0, hc0, w0, wo0, wl0, wh0⟩ := X.open_sheet (hval 0 26 v0 rfl rfl) h0
 obtain ⟨a1, rfl, rfl, rfl, w1⟩ := open_int Tryz.underlying3 (hval 1 3 v1 rfl rfl) h1
 obtain ⟨a2, rfl, rfl, rfl, w2⟩ := open_int Tryz.underlying3 (hval 2 3 v2 rfl rfl) h2
 clear hA0 hval0
 obtain ⟨k, hk⟩ := U.Fitting l0 o0 lo0 hi0 a1 a2 w0 wo0 wl0 wh0 w1 w2
 refine (P.L_Fitting.calls k A0 c0 l0 o0 lo0 hi0 a1 a2 true W hC0 hc0 hk (X.glob_of hL hsh)).mono fun e W' ⟨he, bel⟩ => ?_
 subst he
 exact ⟨_, rfl, _, _, _, [], _, [], hW', trodAll_mk1 (shut_bool Tryz.underlying4 _), (trodAll_cons_mk (Below.trod X.laidOut (by kernel_rfl) (of_decide_eq_true (by kernel_rfl)) k0 bel lt0) (trodAll_cons_mk (Below.trod X.laidOut (by kernel_rfl) (of_decide_eq_true (by kernel_rfl)) k1 bel lt1) (trodAll_cons_mk (Below.trod X.laidOut (by kernel_rfl) (of_decide_eq_true (by kernel_rfl)) k2 bel lt2) trodAll_mk0))), rfl, bel.frame _, fun h => by cases h⟩
theorem over : Rows.ColumnFittingSaid :=
 OpenClaim.holds_of_cond 9 Tryz.f9 rfl rfl rfl rfl rfl rfl rfl ⟨rfl, rfl, rfl, rfl, rfl⟩ rfl rfl rfl rfl rfl (by kernel_rfl) Tryz.func9 (by kernel_rfl)
  (of_decide_eq_true (by kernel_rfl)) (by unfold Func.isWrapper; first | (rw [if_pos (by decide +kernel)]; kernel_rfl) | (rw [if_neg (by decide +kernel)]; exact ⟨rfl, rfl⟩))
  (fun os started H enc _ F0 => by rw [OpenClaim.pre_eq_preRow]; exact lifted os started H enc F0)
theorem proved : Rows.ColumnFittingCardSaid :=
 Claim7.holds_tied_plain_at .later [] [.data, .data, .data, .data, .pinned] true (true, "7f37d9d6a7fa0705a98fa9ed146456bf698ab46bb3b98b6409a2b630b642219a") true over (fun _ h => by cases h) (by kernel_rfl) (fun _ h => by cases h) columnFitting_row_tie rfl ⟨rfl, rfl⟩ (by kernel_rfl) rfl
  (fun f fn hf hfn => by
   obtain rfl : f = 9 := Option.some.inj ((show Tryz.prog.funcNamed "ephemerist/ephemeristlaw03.ColumnFitting" = some 9 by kernel_rfl).symm.trans hf) |>.symm
   obtain rfl : fn = Tryz.f9 := (Option.some.inj (Tryz.func9.symm.trans hfn)).symm
   exact ⟨by kernel_rfl, fun j t ht => by
    rw [Tryz.params9] at ht
    have hm : t ∈ [26, 3, 3] := by simpa using Array.mem_of_getElem? ht
    have hall : ([26, 3, 3].all fun u => !Tryz.prog.wantsStandIn u) = true := by kernel_rfl
    exact (show Tryz.prog.wantsStandIn t = false by simpa using List.all_eq_true.1 hall t hm)⟩)
  (by kernel_rfl)
end Go.Proofs.YtohlmoppcmjknaaGreatDoor.columnFitting
namespace Go.Proofs.YtohlmoppcmjknaaGreatDoor
theorem columnFitting_holds : Rows.ColumnFittingCardSaid := columnFitting.proved
end Go.Proofs.YtohlmoppcmjknaaGreatDoor
end
