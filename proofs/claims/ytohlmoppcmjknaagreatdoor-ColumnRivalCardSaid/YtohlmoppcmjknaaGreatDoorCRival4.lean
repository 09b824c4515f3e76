/- What the law reaches beyond the common part; joined out of several texts. -/
import Derived.Test.YtohlmoppcmjknaaGreatDoorM2
import Derived.Test.YtohlmoppcmjknaaGreatDoorM3
import Derived.Test.YtohlmoppcmjknaaGreatDoorCRival1
section
namespace Go.Proofs.YtohlmoppcmjknaaGreatDoor.U
open Go.RowKit Go.Proofs.YtohlmoppcmjknaaGreatDoorW.PrintWords Go.Proofs.YtohlmoppcmjknaaGreatDoorW.PrintLast
open Go.Proofs.YtohlmoppcmjknaaGreatDoor.Col (nth inr)
set_option linter.unusedVariables false
theorem sheet_parts {l : List Int} {o lo hi : Int} (h : Col.isSheet l o lo hi = true) : 1 ≤ l.length ∧ l.length ≤ 14 ∧ 1 ≤ o ∧ o ≤ 3 ∧ -99999 ≤ lo ∧ lo ≤ hi ∧ hi ≤ 99999 ∧ Col.Bd l 9999 := by
 unfold Col.isSheet at h
 simp only [Bool.and_eq_true] at h
 obtain ⟨⟨⟨⟨h1, h2⟩, h3⟩, h4⟩, h5⟩ := h
 simp only [inr, Bool.and_eq_true, decide_eq_true_eq] at h1 h2 h3 h4
 exact ⟨by omega, by omega, h2.1, h2.2, h3.1, h4.1, h4.2, Col.bd_of_all h5⟩
end Go.Proofs.YtohlmoppcmjknaaGreatDoor.U
end
section
namespace Go.Proofs.YtohlmoppcmjknaaGreatDoor.U
open Go.RowKit Go.Proofs.YtohlmoppcmjknaaGreatDoorW.PrintWords Go.Proofs.YtohlmoppcmjknaaGreatDoorW.PrintLast
open Go.Proofs.YtohlmoppcmjknaaGreatDoor.Col (nth inr)
theorem jumps_some {l : List Int} {o lo hi : Int} (h : Col.isSheet l o lo hi = true) : P.column_Jumps.f l o lo hi = some (Col.js l o lo hi, 0) := by
 show Col.fJumps l o lo hi = _
 unfold Col.fJumps; rw [if_pos h]
theorem wrong_some {l : List Int} {o lo hi : Int} (h : Col.isSheet l o lo hi = true) : P.column_Wrong.f l o lo hi = some ((Col.wrongs l o lo hi).headD [], 0) := by
 show Col.fWrong l o lo hi = _
 unfold Col.fWrong; rw [if_pos h]
end Go.Proofs.YtohlmoppcmjknaaGreatDoor.U
end
