/- What the law reaches beyond the common part; joined out of several texts. -/
import Derived.Lib.Hide
import Derived.Test.YtohlmoppcmjknaaGreatDoorM2
import Derived.Test.YtohlmoppcmjknaaGreatDoorCRival1
section
namespace Go.Proofs.YtohlmoppcmjknaaGreatDoor.U
open Go.RowKit Go.Proofs.YtohlmoppcmjknaaGreatDoorW.PrintWords Go.Proofs.YtohlmoppcmjknaaGreatDoorW.PrintLast
open Go.Proofs.YtohlmoppcmjknaaGreatDoor.Col (nth inr)
set_option linter.unusedVariables false
theorem cov_row {l rows wins : List Int} {o lo hi : Int} {i : Nat} {R : Bool} (hr : rows.length ≤ 1000000) (hi' : i < wins.length) (hb : -1000000 ≤ nth wins i ∧ nth wins i ≤ 1000000) (ho : 0 ≤ o ∧ o ≤ 1000000) (hwl : wins.length ≤ 1000000)
  (hR : Ev (fun k => P.R_Covers.l0 k rows wins ((i + 1 : Nat) : Int) l o lo hi) R) : ∀ (d j : Nat) (met : Bool), rows.length = j + d →
  Ev (fun k => P.R_Covers.l1 k rows wins (i : Int) met (j : Int) l o lo hi) (if (met || (rows.drop j).any fun r => inr r (nth wins i) (nth wins i + o)) = true then R else false) := by
 have W := Lib.hid (w1 hi' hwl)
 have W2 := Lib.hid (show wrap64 (nth wins i + o) = nth wins i + o by unfold wrap64; omega)
 intro d
 induction d with
 | zero =>
  intro j met hd
  rw [List.drop_of_length_le (by omega)]
  cases met with
  | true =>
   refine Ev.step (f := fun k => P.R_Covers.l0 k rows wins ((i + 1 : Nat) : Int) l o lo hi) (fun k => by rw [P.R_Covers.l1, if_neg (by omega), if_pos rfl, W.out]) ?_
   simpa using hR
  | false =>
   refine Ev.step (f := fun _ => some false) (fun k => by rw [P.R_Covers.l1, if_neg (by omega), if_neg (by decide)]) ?_
   simpa using Ev.now false
 | succ d ih =>
  intro j met hd
  have hjl : j < rows.length := by omega
  have WJ := Lib.hid (w1 hjl hr)
  cases met with
  | true =>
   refine Ev.step (f := fun k => P.R_Covers.l1 k rows wins (i : Int) true ((j + 1 : Nat) : Int) l o lo hi) (fun k => by rw [P.R_Covers.l1, if_pos (by omega), if_pos rfl, WJ.out]) ?_
   simpa using ih (j + 1) true (by omega)
  | false =>
   refine Ev.step (f := fun k => P.R_Covers.l1 k rows wins (i : Int) (inr (nth rows j) (nth wins i) (nth wins i + o)) ((j + 1 : Nat) : Int) l o lo hi) (fun k => ?_) ?_
   ·rw [P.R_Covers.l1, if_pos (by omega), if_neg (by decide), if_pos (by omega), if_pos (by omega), if_pos (by omega), rd_nth, rd_nth, W2.out, in_some, WJ.out]; rfl
   ·rw [drop_cons rows 0 hjl, List.any_cons, Bool.false_or]
    exact ih (j + 1) _ (by omega)
theorem covers_ev (l : List Int) (o lo hi : Int) (rows wins : List Int) (hr : rows.length ≤ 1000000) (hw : wins.length ≤ 1000000) (hb : ∀ x ∈ wins, -1000000 ≤ x ∧ x ≤ 1000000) (ho : 0 ≤ o ∧ o ≤ 1000000) :
  Ev (fun k => P.R_Covers.f k l o lo hi rows wins) (Col.cov wins o rows) := by
 have h := loop_up (g := fun k i => P.R_Covers.l0 k rows wins i l o lo hi) (n := wins.length) (r := fun i => Col.cov (wins.drop i) o rows) ?_ ?_ 0 (Nat.zero_le _)
 ·exact h
 ·refine Ev.step (f := fun _ => some true) (fun k => by rw [P.R_Covers.l0, if_neg (by omega)]) ?_
  rw [List.drop_length]; exact Ev.now _
 ·intro i hil ih
  refine Ev.step (f := fun k => P.R_Covers.l1 k rows wins (i : Int) false 0 l o lo hi) (fun k => by rw [P.R_Covers.l0, if_pos (by omega)]) ?_
  have h1 := cov_row (R := Col.cov (wins.drop (i + 1)) o rows) hr hil (hb _ (Col.nth_mem hil)) ho hw ih rows.length 0 false (by omega)
  rw [drop_cons wins 0 hil]
  have e : Col.cov (wins.getD i 0 :: wins.drop (i + 1)) o rows = (if (false || (rows.drop 0).any fun r => inr r (nth wins i) (nth wins i + o)) = true then Col.cov (wins.drop (i + 1)) o rows else false) := by
   unfold Col.cov
   rw [List.all_cons, Bool.false_or, List.drop_zero, show wins.getD i 0 = nth wins i from rfl]
   cases rows.any fun r => inr r (nth wins i) (nth wins i + o) <;> simp
  rw [e]
  exact h1
end Go.Proofs.YtohlmoppcmjknaaGreatDoor.U
end
