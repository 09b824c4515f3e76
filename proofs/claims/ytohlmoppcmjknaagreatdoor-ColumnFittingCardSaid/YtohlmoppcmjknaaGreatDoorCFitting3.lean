/- What the law reaches beyond the common part; joined out of several texts. -/
import Derived.Test.YtohlmoppcmjknaaGreatDoorM2
import Derived.Test.YtohlmoppcmjknaaGreatDoorM3
import Derived.Test.YtohlmoppcmjknaaGreatDoorCFitting1
section
namespace Go.Proofs.YtohlmoppcmjknaaGreatDoor.U
open Go.RowKit Go.Proofs.YtohlmoppcmjknaaGreatDoorW.PrintWords Go.Proofs.YtohlmoppcmjknaaGreatDoorW.PrintLast
open Go.Proofs.YtohlmoppcmjknaaGreatDoor.Col (nth inr)
set_option linter.unusedVariables false
theorem cin_some (a lo hi : Int) : P.column_in.f a lo hi = some (inr a lo hi) := by
 unfold P.column_in.f inr
 by_cases h : a ≥ lo
 ·rw [if_pos h]; simp [show lo ≤ a from h]
 ·rw [if_neg h]; simp [show ¬ lo ≤ a from h]
theorem hasRow_some (l : List Int) (o lo hi d : Int) (hl : l.length ≤ 1000000) : P.column_hasRow.f l o lo hi d = some (inr d 0 ((l.length : Int) - 1)) := by
 unfold P.column_hasRow.f; rw [cin_some, wrap_len hl]; rfl
theorem sheet_parts {l : List Int} {o lo hi : Int} (h : Col.isSheet l o lo hi = true) : 1 ≤ l.length ∧ l.length ≤ 14 ∧ 1 ≤ o ∧ o ≤ 3 ∧ -99999 ≤ lo ∧ lo ≤ hi ∧ hi ≤ 99999 ∧ Col.Bd l 9999 := by
 unfold Col.isSheet at h
 simp only [Bool.and_eq_true] at h
 obtain ⟨⟨⟨⟨h1, h2⟩, h3⟩, h4⟩, h5⟩ := h
 simp only [inr, Bool.and_eq_true, decide_eq_true_eq] at h1 h2 h3 h4
 exact ⟨by omega, by omega, h2.1, h2.2, h3.1, h4.1, h4.2, Col.bd_of_all h5⟩
end Go.Proofs.YtohlmoppcmjknaaGreatDoor.U
end
section
namespace Go.Proofs.YtohlmoppcmjknaaGreatDoor.U
open Go.RowKit Go.Proofs.YtohlmoppcmjknaaGreatDoorW.PrintWords Go.Proofs.YtohlmoppcmjknaaGreatDoorW.PrintLast
open Go.Proofs.YtohlmoppcmjknaaGreatDoor.Col (nth inr)
theorem jumps_some {l : List Int} {o lo hi : Int} (h : Col.isSheet l o lo hi = true) : P.column_Jumps.f l o lo hi = some (Col.js l o lo hi, 0) := by
 show Col.fJumps l o lo hi = _
 unfold Col.fJumps; rw [if_pos h]
end Go.Proofs.YtohlmoppcmjknaaGreatDoor.U
end
