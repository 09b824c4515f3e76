/- What the law reaches beyond the common part; joined out of several texts. -/
import Derived.Test.YtohlmoppcmjknaaGreatDoorM2
import Derived.Test.YtohlmoppcmjknaaGreatDoorM4
import Derived.Test.YtohlmoppcmjknaaGreatDoorM5
import Derived.Test.YtohlmoppcmjknaaGreatDoorM6
import Derived.Test.YtohlmoppcmjknaaGreatDoorCFitting1
import Derived.Test.YtohlmoppcmjknaaGreatDoorCFitting3
section
namespace Go.Proofs.YtohlmoppcmjknaaGreatDoor.U
open Go.RowKit Go.Proofs.YtohlmoppcmjknaaGreatDoorW.PrintWords Go.Proofs.YtohlmoppcmjknaaGreatDoorW.PrintLast
open Go.Proofs.YtohlmoppcmjknaaGreatDoor.Col (nth inr)
set_option linter.unusedVariables false
theorem line_some (l : List Int) (o lo hi d : Int) (hl : l.length ≤ 1000000) : P.R_Line.f l o lo hi d = some (inr d 0 ((l.length : Int) - 1)) := by
 unfold P.R_Line.f; rw [in_some, wrap_len hl]; rfl
theorem changed_some {l : List Int} {o lo hi v : Int} {r : Nat} (hr : r < l.length) (hl : l.length ≤ 1000000) : P.R_Changed.f l o lo hi (r : Int) v = some (l.set r v, o, lo, hi) := by
 unfold P.R_Changed.f
 rw [if_pos (by simp; omega)]
 simp only [List.nil_append, Option.bind_some]
 rw [if_pos (by omega), if_pos (by omega), Int.toNat_natCast]
theorem isSheet_iff {l : List Int} {o lo hi : Int} : Col.isSheet l o lo hi = true ↔ 1 ≤ l.length ∧ l.length ≤ 14 ∧ 1 ≤ o ∧ o ≤ 3 ∧ -99999 ≤ lo ∧ lo ≤ hi ∧ lo ≤ 99999 ∧ hi ≤ 99999 ∧ ∀ x ∈ l, -9999 ≤ x ∧ x ≤ 9999 := by
 unfold Col.isSheet
 simp only [Bool.and_eq_true, List.all_eq_true, inr, decide_eq_true_eq]
 constructor
 ·rintro ⟨⟨⟨⟨h1, h2⟩, h3⟩, h4⟩, h5⟩
  exact ⟨by omega, by omega, h2.1, h2.2, h3.1, h4.1, h3.2, h4.2, h5⟩
 ·rintro ⟨a, b, c, d, e, f, g, h, i⟩
  exact ⟨⟨⟨⟨by omega, c, d⟩, e, g⟩, f, h⟩, i⟩
theorem sheet_set {l : List Int} {o lo hi v : Int} {r : Nat} (h : Col.isSheet l o lo hi = true) (hv : -9999 ≤ v ∧ v ≤ 9999) : Col.isSheet (l.set r v) o lo hi = true := by
 obtain ⟨a, b, c, d, e, f, g, i, j⟩ := isSheet_iff.1 h
 refine isSheet_iff.2 ⟨by rw [List.length_set]; exact a, by rw [List.length_set]; exact b, c, d, e, f, g, i, fun x hx => ?_⟩
 rcases List.mem_or_eq_of_mem_set hx with hx | rfl
 ·exact j x hx
 ·exact hv
theorem between_ev {l : List Int} {o lo hi : Int} {r : Nat} (h : Col.isSheet l o lo hi = true) (hr : r < l.length) :
  Ev (fun k => P.column_Between.f k l o lo hi (r : Int)) (if (Col.between l o lo hi r).2 < (Col.between l o lo hi r).1 then (0, 0, 5) else ((Col.between l o lo hi r).1, (Col.between l o lo hi r).2, 0)) := by
 obtain ⟨p1, p2, _, _, _, _, _, _⟩ := sheet_parts h
 refine Ev.step (f := fun _ => some _) (fun k => ?_) (Ev.now _)
 unfold P.column_Between.f
 rw [show P.column_isSheet.f l o lo hi = some true by rw [← h]; rfl, hasRow_some _ _ _ _ _ (by omega), show inr (r : Int) 0 ((l.length : Int) - 1) = true by simp [inr]; omega]
 simp only [Option.bind_some, if_true]
 rw [P.column_Between.j0, if_neg (by decide), show P.column_between.f l o lo hi (r : Int) = some (Col.between l o lo hi r) from Col.fbetween_small (X.small_of_sheet h)]
 simp only [Option.bind_some]
 by_cases hc : (Col.between l o lo hi r).2 < (Col.between l o lo hi r).1
 ·rw [if_pos (by omega), if_pos hc]
 ·rw [if_neg (by omega), if_neg hc]
theorem mem_js {l : List Int} {o lo hi : Int} {w : Nat} (ho : 1 ≤ o) (hw : (w : Int) + o < l.length) : (w : Int) ∈ Col.js l o lo hi ↔ inr (nth (Col.diffs o.toNat l) w) lo hi = false := by
 unfold Col.js
 rw [Col.mem_jumping]
 have hl := Col.wins_len (l := l) (o := o) (by omega)
 have he := Col.wins_get (l := l) (o := o) (by omega)
 constructor
 ·rintro ⟨k, hk, _, hj⟩
  obtain rfl : w = k := by omega
  rw [he] at hj
  unfold Col.jumpsAt at hj
  rw [show (Col.diffs o.toNat l).getD w 0 = nth (Col.diffs o.toNat l) w from rfl] at hj
  cases hb : inr (nth (Col.diffs o.toNat l) w) lo hi with
  | false => rfl
  | true => rw [hb] at hj; cases hj
 ·intro hj
  refine ⟨w, rfl, by omega, ?_⟩
  rw [he]
  unfold Col.jumpsAt
  rw [show (Col.diffs o.toNat l).getD w 0 = nth (Col.diffs o.toNat l) w from rfl, hj]; rfl
end Go.Proofs.YtohlmoppcmjknaaGreatDoor.U
end
