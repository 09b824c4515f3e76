/- The law, its row and its card (joined out of several texts). -/
import Derived.Test.YtohlmoppcmjknaaGreatDoorM2
import Derived.Test.YtohlmoppcmjknaaGreatDoorM3
import Derived.Test.YtohlmoppcmjknaaGreatDoorCSums1
section
namespace Go.Proofs.YtohlmoppcmjknaaGreatDoor.U
open Go.RowKit Go.Proofs.YtohlmoppcmjknaaGreatDoorW.PrintWords Go.Proofs.YtohlmoppcmjknaaGreatDoorW.PrintLast
open Go.Proofs.YtohlmoppcmjknaaGreatDoor.Col (nth inr)
set_option linter.unusedVariables false
theorem cin_some (a lo hi : Int) : P.column_in.f a lo hi = some (inr a lo hi) := by
 unfold P.column_in.f inr
 by_cases h : a ≥ lo
 ·rw [if_pos h]; simp [show lo ≤ a from h]
 ·rw [if_neg h]; simp [show ¬ lo ≤ a from h]
theorem hasRow_some (l : List Int) (o lo hi d : Int) (hl : l.length ≤ 1000000) : P.column_hasRow.f l o lo hi d = some (inr d 0 ((l.length : Int) - 1)) := by
 unfold P.column_hasRow.f; rw [cin_some, wrap_len hl]; rfl
theorem sheet_parts {l : List Int} {o lo hi : Int} (h : Col.isSheet l o lo hi = true) : 1 ≤ l.length ∧ l.length ≤ 14 ∧ 1 ≤ o ∧ o ≤ 3 ∧ -99999 ≤ lo ∧ lo ≤ hi ∧ hi ≤ 99999 ∧ Col.Bd l 9999 := by
 unfold Col.isSheet at h
 simp only [Bool.and_eq_true] at h
 obtain ⟨⟨⟨⟨h1, h2⟩, h3⟩, h4⟩, h5⟩ := h
 simp only [inr, Bool.and_eq_true, decide_eq_true_eq] at h1 h2 h3 h4
 exact ⟨by omega, by omega, h2.1, h2.2, h3.1, h4.1, h4.2, Col.bd_of_all h5⟩
theorem fdiffs_some {l : List Int} {d : Int} (h0 : 0 ≤ d) (h1 : d < l.length) (h2 : l.length ≤ 20) (hb : Col.Bd l 99999) : Col.fdiffs l d = some (Col.diffs d.toNat l) := by
 unfold Col.fdiffs
 rw [if_pos]
 simp only [Bool.and_eq_true, decide_eq_true_eq, List.all_eq_true, inr]
 exact ⟨⟨⟨h0, h1⟩, h2⟩, fun x hx => by have := hb x hx; exact this⟩
theorem differences_some {l : List Int} {o lo hi d : Int} (h : Col.isSheet l o lo hi = true) (h0 : 0 ≤ d) (h1 : d < l.length) : P.column_Differences.f l o lo hi d = some (Col.diffs d.toNat l, 0) := by
 obtain ⟨p1, p2, _, _, _, _, _, hb⟩ := sheet_parts h
 unfold P.column_Differences.f
 rw [show P.column_isSheet.f l o lo hi = some true by rw [← h]; rfl, hasRow_some _ _ _ _ _ (by omega)]
 rw [show inr d 0 ((l.length : Int) - 1) = true by simp [inr]; omega]
 simp only [Option.bind_some, if_true]
 rw [show P.column_differences.f l d = Col.fdiffs l d from rfl, fdiffs_some h0 h1 (by omega) (hb.mono (by omega))]
 rfl
theorem diffs_bd {l : List Int} {o lo hi : Int} (h : Col.isSheet l o lo hi = true) (n : Nat) (hn : n ≤ 13) (k : Nat) : -100000000 ≤ nth (Col.diffs n l) k ∧ nth (Col.diffs n l) k ≤ 100000000 := by
 obtain ⟨p1, p2, _, _, _, _, _, hb⟩ := sheet_parts h
 have hp : (9999 : Int) * 2 ^ n ≤ 9999 * 2 ^ 13 := by
  have : (2 : Int) ^ n ≤ 2 ^ 13 := by exact_mod_cast Nat.pow_le_pow_right (by omega) hn
  omega
 have hb2 : Col.Bd (Col.diffs n l) 100000000 := (hb.diffs n).mono (by omega)
 exact hb2.nth (by omega) k
end Go.Proofs.YtohlmoppcmjknaaGreatDoor.U
end
