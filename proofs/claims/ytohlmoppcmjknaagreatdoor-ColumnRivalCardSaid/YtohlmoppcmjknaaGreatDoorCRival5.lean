/- ColumnRival: for every input the law returns true; each argument reads behind the call as it read before. Conditions: the listed package-level variables hold what the program's text lays (tied by the card). -/
import Derived.Test.YtohlmoppcmjknaaGreatDoorCards
import Derived.Test.YtohlmoppcmjknaaGreatDoorTie
import Derived.Test.YtohlmoppcmjknaaGreatDoorM2
import Derived.Test.YtohlmoppcmjknaaGreatDoorM21
import Derived.Test.YtohlmoppcmjknaaGreatDoorCRival1
import Derived.Test.YtohlmoppcmjknaaGreatDoorCRival2
import Derived.Test.YtohlmoppcmjknaaGreatDoorCRival3
import Derived.Test.YtohlmoppcmjknaaGreatDoorCRival4
section
namespace Go.Proofs.YtohlmoppcmjknaaGreatDoor.U
open Go.RowKit Go.Proofs.YtohlmoppcmjknaaGreatDoorW.PrintWords Go.Proofs.YtohlmoppcmjknaaGreatDoorW.PrintLast
open Go.Proofs.YtohlmoppcmjknaaGreatDoor.Col (nth inr)
set_option linter.unusedVariables false
def Rival.Pure : Prop := ∀ (l0_0 : List Int) (a0_1 : Int) (a0_2 : Int) (a0_3 : Int) (l1 : List Int), (∀ n ∈ l0_0, X.Wf n) → X.Wf a0_1 → X.Wf a0_2 → X.Wf a0_3 → (∀ n ∈ l1, X.Wf n) → ∃ k, P.L_Rival.f k l0_0 a0_1 a0_2 a0_3 l1 = some true
theorem word_in (ls : List (List Int)) (r : Int) : 1 ≤ Col.word ls r ∧ Col.word ls r ≤ 3 := by
 unfold Col.word
 simp only []
 split
 ·omega
 ·split <;> omega
theorem word_own {ls : List (List Int)} {q : List Int} {r : Int} (hq : q ∈ ls) (hr : r ∈ q) : Col.word ls r ≠ 1 := by
 have h : 0 < (ls.filter fun l => l.contains r).length := List.length_pos_of_mem (List.mem_filter.2 ⟨hq, by simpa using hr⟩)
 unfold Col.word
 simp only []
 rw [if_neg (by omega)]
 split <;> omega
theorem word_not {ls : List (List Int)} {q : List Int} {r : Int} (hq : q ∈ ls) (hr : r ∉ q) : Col.word ls r ≠ 3 := by
 have h : (ls.filter fun l => l.contains r).length < ls.length := List.length_filter_lt_length_iff_exists.2 ⟨q, hq, by simpa using hr⟩
 unfold Col.word
 simp only []
 split
 ·omega
 ·rw [if_neg (by omega)]; omega
theorem nth_words (n : Nat) (ls : List (List Int)) {i : Nat} (hi : i < n) : nth ((Col.rows n).map (Col.word ls)) i = Col.word ls (i : Int) := by
 unfold Col.nth Col.rows
 simp [List.getD_eq_getElem?_getD, hi]
theorem Rival : Rival.Pure := by
 intro l o lo hi q _ _ _ _ _
 have hno : ∀ k, P.L_Rival.j0 (k + 1) q true l o lo hi = some true := fun k => by rw [P.L_Rival.j0, if_pos rfl]; rfl
 have hnoE : Ev (fun k => P.L_Rival.j0 k q true l o lo hi) true := Ev.step (f := fun _ => some true) (fun k => hno k) (Ev.now _)
 refine Ev.rounds (r := true) ?_
 have hr := right_ev l o lo hi
 refine Ev.congr (fun k => by unfold P.L_Rival.f; rfl) (Ev.bind hr ?_)
 cases h : Col.isSheet l o lo hi with
 | false => exact Ev.congr (fun k => by rw [if_neg (by decide)]) hnoE
 | true =>
  obtain ⟨p1, p2, p3, p4, _, _, _, _⟩ := sheet_parts h
  simp only [if_true]
  by_cases h16 : q.length ≤ 16
  ·refine Ev.congr (f := fun k => (P.R_Rising.f k q ((l.length : Int) - 1)).bind fun t => P.L_Rival.j0 k q (!t) l o lo hi) (fun k => by rw [if_neg (by omega), wrap_len (by omega)]) ?_
   refine Ev.bind (rising_ev q _ (by omega)) ?_
   cases hu : up1 ((l.length : Int) - 1) (-1) q with
   | false => exact hnoE
   | true =>
    obtain ⟨u1, u2⟩ := up1_iff.1 hu
    obtain ⟨M, hM, hWe, _⟩ := Col.wrongs_ex l (o := o) (by omega) lo hi
    obtain ⟨x, rest, hw, hxl, hxp, hxb, hxc⟩ := Col.wrong_first l (o := o) (by omega) lo hi hM
    have hjl := Col.js_len l (o := o) (by omega) lo hi
    have hjb := Col.js_bd (l := l) (o := o) (lo := lo) (hi := hi) (by omega)
    have hjp := Col.js_pw l o lo hi
    have hsort := (Col.chosen_sorted M l.length 0 []).filter (Col.cov (Col.js l o lo hi) o)
    rw [← hWe] at hsort
    have eJ := jumps_some h
    have eW := wrong_some h
    have eC : P.column_Count.f l o lo hi = some (((Col.wrongs l o lo hi).length : Int), 0) := by
     show Col.fCount l o lo hi = _
     unfold Col.fCount; rw [if_pos h]
    have eS : P.column_Suspect.f l o lo hi = some ((Col.rows l.length).map (Col.word (Col.wrongs l o lo hi)), 0) := by
     show Col.fSuspect l o lo hi = _
     unfold Col.fSuspect; rw [if_pos h]
    have hin : ∀ y : List Int, y.Pairwise (· < ·) → (∀ z ∈ y, 0 ≤ z ∧ z ≤ (l.length : Int) - 1) → Col.cov (Col.js l o lo hi) o y = true → y.length = M → y ∈ Col.wrongs l o lo hi := by
     intro y h1 h2 h3 h4
     rw [hWe, List.mem_filter]
     exact ⟨(Col.mem_chosen _ _ _ _ _).2 ⟨y, (List.nil_append _).symm, h4, h1, fun z hz => by have := h2 z hz; omega⟩, h3⟩
    have hWl : (Col.rows l.length).map (Col.word (Col.wrongs l o lo hi)) = (Col.rows l.length).map (Col.word (Col.wrongs l o lo hi)) := rfl
    have hlen : ((Col.rows l.length).map (Col.word (Col.wrongs l o lo hi))).length = l.length := by simp [Col.rows]
    have hnw := fun i (hi' : i < l.length) => nth_words l.length (Col.wrongs l o lo hi) hi'
    rw [hw] at eW hsort
    generalize Col.js l o lo hi = J at *
    generalize (Col.rows l.length).map (Col.word (Col.wrongs l o lo hi)) = S at *
    generalize Col.wrongs l o lo hi = ls at *
    subst hw
    have hJup : up1 ((l.length : Int) - 1) (-1) J = true := up1_iff.2 ⟨fun y hy => by have := hjb y hy; omega, hjp⟩
    have hXup : up1 ((l.length : Int) - 1) (-1) x = true := up1_iff.2 ⟨fun y hy => by have := hxb y hy; omega, hxp⟩
    have hXle : x.length ≤ l.length := by
     have := hM.2 J hjp (Col.cov_iff.2 fun i hi => ⟨i, hi, by omega, by omega⟩)
     omega
    have hri := rising_ev J ((l.length : Int) - 1) (by omega)
    rw [hJup] at hri
    have hrx := rising_ev x ((l.length : Int) - 1) (by omega)
    rw [hXup] at hrx
    have hcx := covers_ev l o lo hi x J (by omega) (by omega) (fun y hy => by have := hjb y hy; omega) (by omega)
    rw [hxc] at hcx
    have hcq := covers_ev l o lo hi q J (by omega) (by omega) (fun y hy => by have := hjb y hy; omega) (by omega)

    have hloop : Col.cov J o q = true → q.length = x.length → Ev (fun k => P.L_Rival.l0 k q x ((x :: rest).length : Int) S 0) true := by
     intro hc hql
     have hqin := hin q u2 (fun z hz => ⟨(u1 z hz).1, (u1 z hz).2.1⟩) hc (by omega)
     have hlp := loop_up (g := fun k i => P.L_Rival.l0 k q x ((x :: rest).length : Int) S i) (n := S.length) (r := fun _ => true) ?_ ?_ 0 (Nat.zero_le _)
     ·exact hlp
     ·refine Ev.pre ?_
      simp only [P.L_Rival.l0]
      refine Ev.congr (fun k => by rw [if_neg (by omega)]) ?_
      have hbf := before_ev q x (by omega)
      have hbe : Col.before q x = false := by
       rcases List.mem_cons.1 hqin with e | hq2
       ·rw [e]; exact Col.before_self x
       ·exact Col.before_anti x q ((List.pairwise_cons.1 hsort).1 q hq2)
      rw [hbe] at hbf
      refine Ev.bind hbf ?_
      refine Ev.congr (fun k => by rw [if_neg (by decide)]) ?_
      refine Ev.bind (same_ev q x (by omega)) ?_
      by_cases e : q = x
      ·rw [decide_eq_true e]
       exact Ev.congr (f := fun _ => some true) (fun k => rfl) (Ev.now _)
      ·rw [decide_eq_false e]
       have hq2 : q ∈ rest := (List.mem_cons.1 hqin).resolve_left e
       have hrl : 0 < rest.length := List.length_pos_of_mem hq2
       refine Ev.congr (f := fun _ => some true) (fun k => ?_) (Ev.now _)
       rw [if_neg (by decide), if_pos (by rw [List.length_cons]; omega)]; rfl
     ·intro i hil ih
      rw [hlen] at hil
      have hwi := hnw i hil
      have hwb := word_in (x :: rest) (i : Int)
      have W := Lib.hid (w1 (i := i) (n := l.length) hil (by omega))
      refine Ev.pre ?_
      simp only [P.L_Rival.l0]
      refine Ev.congr (fun k => by rw [if_pos (by omega)]) ?_
      refine Ev.bind (listed_ev q (i : Int) (by omega)) ?_
      rw [rd_nth, hwi]
      by_cases hm : (i : Int) ∈ q
      ·rw [decide_eq_true hm]
       have := word_own hqin hm
       refine Ev.congr (f := fun k => P.L_Rival.l0 k q x ((x :: rest).length : Int) S ((i + 1 : Nat) : Int)) (fun k => ?_) ih
       rw [if_pos (by omega), if_neg (by omega), if_neg (by omega), if_pos rfl, if_neg this, W.out]
      ·rw [decide_eq_false hm]
       have := word_not hqin hm
       refine Ev.congr (f := fun k => P.L_Rival.l0 k q x ((x :: rest).length : Int) S ((i + 1 : Nat) : Int)) (fun k => ?_) ih
       rw [if_pos (by omega), if_neg (by omega), if_neg (by omega), if_neg (by decide), if_neg this, W.out]
    refine Ev.pre ?_
    simp only [P.L_Rival.j0, Bool.not_true, Bool.false_eq_true, if_false, eJ, eW, eC, eS, Option.bind_some, List.headD_cons, if_true]
    refine Ev.congr (fun k => by rw [if_neg (by omega), wrap_len (by omega)]) ?_
    refine Ev.bind hri ?_
    simp only [if_true]
    refine Ev.congr (fun k => by rw [if_neg (by omega)]) ?_
    refine Ev.bind hrx ?_
    simp only [if_true]
    refine Ev.bind hcx ?_
    simp only [if_true]
    refine Ev.congr (f := fun k => P.L_Rival.j1 k q J x ((x :: rest).length : Int) S false l o lo hi) (fun k => ?_) ?_
    ·rw [if_neg (by rw [List.length_cons]; omega), hlen]; simp
    ·refine Ev.pre ?_
     simp only [P.L_Rival.j1, Bool.false_eq_true, if_false]
     refine Ev.bind hcq ?_
     cases hc : Col.cov J o q with
     | false => exact Ev.congr (f := fun _ => some true) (fun k => rfl) (Ev.now _)
     | true =>
      simp only [if_true]
      have hge := hM.2 q u2 hc
      by_cases he : q.length = x.length
      ·exact Ev.congr (fun k => by rw [if_pos (by omega)]) (hloop hc he)
      ·refine Ev.congr (f := fun _ => some true) (fun k => ?_) (Ev.now _)
       rw [if_neg (by omega), if_pos (by omega)]; rfl
  ·exact Ev.congr (fun k => by rw [if_pos (by omega)]) hnoE
end Go.Proofs.YtohlmoppcmjknaaGreatDoor.U
end
section
namespace Go.Proofs.YtohlmoppcmjknaaGreatDoor.columnRival
open Go.ChangeShapes Go.WideShapes Go.ChangeAt Go.RowKit
open Go.ChangeMaps (open_string shut_string)
set_option linter.unusedVariables false
set_option linter.unusedSimpArgs false
set_option maxRecDepth 100000 in
theorem lifted (os : Os) (started : os.Started) (H : Type) (enc : TypeId × Value → H) (F : Stop.Interp) :
  ReturnsInHanded {} Tryz.checked os 6 .any ((OpenSpec.ofChange Rows.columnRivalSpec).preRow enc Tryz.prog Tryz.f6 Rows.columnRivalRow.domain false Rows.columnRivalRow.laid) (((OpenSpec.ofChange Rows.columnRivalSpec).at F).post enc Tryz.prog Tryz.f6 false true false false) := by
 refine returnsInHanded_of_row (C := Tryz.checked) (s := OpenSpec.ofChange Rows.columnRivalSpec) X.own started (by kernel_rfl) Tryz.func6
  (witness_row_at (enc := enc) (C := Tryz.checked) false (World.laidAll Tryz.prog os Rows.columnRivalRow.laid) #[.agg #[.slice none 0 0, .int .i64 0, .int .i64 0, .int .i64 0], .slice none 0 0] (World.laidAll_os _ _ _) (by kernel_rfl) (by kernel_rfl) (by kernel_rfl)
   (OpenSpec.preRow_of_B rfl 8 (by kernel_rfl) (by kernel_rfl) (by rw [MakeChecks.laidMetH_plain _ _ _ (by kernel_rfl)]; exact laidMet_laidAll _ (by kernel_rfl) (by kernel_rfl)))) ?_
 intro W base args ds gs before hval0 hW _ _ _ hL hsh _
 have hval : ∀ (j : Nat) t v, Tryz.f6.params[j]? = some t → args[j]? = some v → Value.okWide Tryz.prog W .any base t v := hval0
 have hW' := hW
 obtain ⟨p, q, hA0, hV, rfl, hfz, hnd⟩ := hW
 have hA : DataW.TrodAll enc Tryz.prog W 0 (fun _ => true) true Tryz.f6.params.toList args.toList ds p := hA0
 rw [Tryz.params6] at hA hval
 obtain ⟨v0, vs0, d0, ds0, p0, q0, hargs, rfl, rfl, h0, r0⟩ := trodAll_cons hA
 obtain ⟨v1, vs1, d1, ds1, p1, q1, rfl, rfl, rfl, h1, r1⟩ := trodAll_cons r0
 obtain ⟨rfl, rfl, rfl⟩ := trodAll_nil r1
 obtain rfl : args = #[v0, v1] := by cases args; simp_all
 obtain ⟨rfl, rfl⟩ := trodVars_none hV
 have k0 := h0
 have lt0 : ∀ x ∈ p0, x.block < W.heap.size := by obtain ⟨m, hm⟩ := k0; exact DataW.trod_lt m _ _ _ hm
 have k1 := h1
 have lt1 : ∀ x ∈ p1, x.block < W.heap.size := by obtain ⟨m, hm⟩ := k1; exact DataW.trod_lt m _ _ _ hm
 obtain ⟨A0, c0, l0, o0, lo0, hi0, rfl, hC0, hc0, w0, wo0, wl0, wh0⟩ := X.open_sheet (hval 0 26 v0 rfl rfl) h0
 obtain ⟨A1, c1, l1, rfl, hC1, hc1, w1⟩ := X.open_slice_arg (hval 1 22 v1 rfl rfl) h1
 clear hA0 hval0
 obtain ⟨k, hk⟩ := U.Rival l0 o0 lo0 hi0 l1 w0 wo0 wl0 wh0 w1
 refine (P.L_Rival.calls k A0 c0 l0 o0 lo0 hi0 A1 c1 l1 true W hC0 hc0 hC1 hc1 rfl hk (X.glob_of hL hsh)).mono fun e W' ⟨he, bel⟩ => ?_
 subst he
 exact ⟨_, rfl, _, _, _, [], _, [], hW', trodAll_mk1 (shut_bool Tryz.underlying4 _), (trodAll_cons_mk (Below.trod X.laidOut (by kernel_rfl) (of_decide_eq_true (by kernel_rfl)) k0 bel lt0) (trodAll_cons_mk (Below.trod X.laidOut (by kernel_rfl) (of_decide_eq_true (by kernel_rfl)) k1 bel lt1) trodAll_mk0)), rfl, bel.frame _, fun h => by cases h⟩
theorem over : Rows.ColumnRivalSaid :=
 OpenClaim.holds_of_cond 6 Tryz.f6 rfl rfl rfl rfl rfl rfl rfl ⟨rfl, rfl, rfl, rfl, rfl⟩ rfl rfl rfl rfl rfl (by kernel_rfl) Tryz.func6 (by kernel_rfl)
  (of_decide_eq_true (by kernel_rfl)) (by unfold Func.isWrapper; first | (rw [if_pos (by decide +kernel)]; kernel_rfl) | (rw [if_neg (by decide +kernel)]; exact ⟨rfl, rfl⟩))
  (fun os started H enc _ F0 => by rw [OpenClaim.pre_eq_preRow]; exact lifted os started H enc F0)
theorem proved : Rows.ColumnRivalCardSaid :=
 Claim7.holds_tied_plain_at .later [] [.data, .data, .data, .data, .pinned] true (true, "7f37d9d6a7fa0705a98fa9ed146456bf698ab46bb3b98b6409a2b630b642219a") true over (fun _ h => by cases h) (by kernel_rfl) (fun _ h => by cases h) columnRival_row_tie rfl ⟨rfl, rfl⟩ (by kernel_rfl) rfl
  (fun f fn hf hfn => by
   obtain rfl : f = 6 := Option.some.inj ((show Tryz.prog.funcNamed "ephemerist/ephemeristlaw03.ColumnRival" = some 6 by kernel_rfl).symm.trans hf) |>.symm
   obtain rfl : fn = Tryz.f6 := (Option.some.inj (Tryz.func6.symm.trans hfn)).symm
   exact ⟨by kernel_rfl, fun j t ht => by
    rw [Tryz.params6] at ht
    have hm : t ∈ [26, 22] := by simpa using Array.mem_of_getElem? ht
    have hall : ([26, 22].all fun u => !Tryz.prog.wantsStandIn u) = true := by kernel_rfl
    exact (show Tryz.prog.wantsStandIn t = false by simpa using List.all_eq_true.1 hall t hm)⟩)
  (by kernel_rfl)
end Go.Proofs.YtohlmoppcmjknaaGreatDoor.columnRival
namespace Go.Proofs.YtohlmoppcmjknaaGreatDoor
theorem columnRival_holds : Rows.ColumnRivalCardSaid := columnRival.proved
end Go.Proofs.YtohlmoppcmjknaaGreatDoor
end
