/- Contracts of the program's functions, and the words that their proofs take (joined out of several texts). -/
import Derived.Lib.SplitLaws
import Derived.Test.YtohlmoppcmjknaaGreatDoorM2
import Derived.Test.YtohlmoppcmjknaaGreatDoorM10
section
namespace Go.Proofs.YtohlmoppcmjknaaGreatDoor.Col
theorem splitK_eq (c : UInt8) : ∀ s : List UInt8, Lib.splitK [c] 0 (Lib.count s [c]) s = split c s
 | [] => by rw [Lib.count_miss (by simp [Lib.index])]; rfl
 | b :: l => by
  have ih := splitK_eq c l
  by_cases h : b = c
  ·subst h
   have hix : Lib.index (b :: l) [b] = 0 := by rw [Lib.index]; simp [List.isPrefixOf]
   have hm : ¬ ((0 : Int) == -1) = true := by decide
   rw [Lib.count_cons_eq, Nat.add_comm, Lib.splitK, hix, if_neg hm]
   simp only [split, if_pos]
   rw [← ih]
   rfl
  ·have hp : ([c] : List UInt8).isPrefixOf (b :: l) = false := by
    have : (c == b) = false := beq_eq_false_iff_ne.2 (Ne.symm h)
    simp [List.isPrefixOf, this]
   have hix : Lib.index (b :: l) [c] = if Lib.index l [c] == -1 then -1 else Lib.index l [c] + 1 := by rw [Lib.index, hp]; simp
   rw [Lib.count_cons_ne b c l h]
   simp only [split, if_neg h]
   rw [← ih]
   by_cases hm : Lib.index l [c] = -1
   ·rw [Lib.count_miss hm]
    rfl
   ·have hge := Lib.index_ge l [c]
    obtain ⟨j, hj⟩ : ∃ j : Nat, Lib.index l [c] = j := ⟨(Lib.index l [c]).toNat, by omega⟩
    have hc := Lib.count_hit (s := l) (sub := [c]) (by simp) hj
    rw [hc, Nat.add_comm]
    generalize Lib.count (l.drop (j + [c].length)) [c] = k
    have h1 : ¬ (Lib.index l [c] == -1) = true := fun e => hm (beq_iff_eq.1 e)
    have h2 : ¬ (Lib.index (b :: l) [c] == -1) = true := fun e => by
     have := beq_iff_eq.1 e
     rw [hix, if_neg h1, hj] at this
     omega
    rw [Lib.splitK, if_neg h2, Lib.splitK, if_neg h1, hix, if_neg h1, hj]
    have e1 : ((j : Int) + 1).toNat = j + 1 := by omega
    rw [e1, Int.toNat_natCast]
    simp only [List.length_singleton, Nat.add_zero, List.take_succ_cons, List.drop_succ_cons]
theorem bys_data (b : ByteArray) : bys b.data.toList = b := by
 apply ByteArray.ext
 simp [bys]
theorem splitB_eq (c : UInt8) (s : List UInt8) : Lib.splitB ⟨#[c]⟩ 0 (Lib.countB (bys s) ⟨#[c]⟩) (bys s) = (split c s).map bys := by
 have h1 := Lib.splitB_data ⟨#[c]⟩ 0 (Lib.countB (bys s) ⟨#[c]⟩) (bys s)
 have hc : Lib.countB (bys s) ⟨#[c]⟩ = Lib.count s [c] := by
  show Lib.count (bys s).data.toList _ = _
  rw [bytes_list]
 rw [bytes_list, hc] at h1
 rw [hc]
 have h2 := congrArg (List.map bys) h1
 have h3 : ∀ L : List ByteArray, (L.map (·.data.toList)).map bys = L := fun L => by
  rw [List.map_map]
  conv => rhs; rw [← List.map_id L]
  exact List.map_congr_left fun a _ => bys_data a
 rw [h3] at h2
 rw [h2]
 exact congrArg (List.map bys) (splitK_eq c s)
theorem split_count (c : UInt8) (s : List UInt8) : Lib.countB (bys s) ⟨#[c]⟩ + 1 = (split c s).length := by
 have h := Lib.splitB_all ⟨#[c]⟩ (Nat.le_refl 1) 0 _ (bys s) rfl
 rw [splitB_eq, List.length_map] at h
 exact h.symm
theorem split_pos (c : UInt8) (s : List UInt8) : 0 < (split c s).length := by rw [← split_count]; omega
theorem split_len (c : UInt8) : ∀ s : List UInt8, (split c s).length ≤ s.length + 1 ∧ ∀ r ∈ split c s, r.length ≤ s.length
 | [] => by simp [split]
 | b :: l => by
  obtain ⟨h1, h2⟩ := split_len c l
  unfold split
  split
  ·refine ⟨by simp only [List.length_cons]; omega, fun r hr => ?_⟩
   rcases List.mem_cons.1 hr with rfl | hr
   ·simp
   ·have := h2 r hr; simp only [List.length_cons]; omega
  ·split
   ·rename_i hn _ he
    have := split_pos c l
    rw [he] at this
    simp at this
   ·rename_i r rs he
    rw [he] at h1 h2
    refine ⟨by simp only [List.length_cons] at h1 ⊢; omega, fun x hx => ?_⟩
    rcases List.mem_cons.1 hx with rfl | hx
    ·have := h2 r (by simp); simp only [List.length_cons]; omega
    ·have := h2 x (by simp [hx]); simp only [List.length_cons]; omega
end Go.Proofs.YtohlmoppcmjknaaGreatDoor.Col
namespace Go.Proofs.YtohlmoppcmjknaaGreatDoor.X
open Go.RowKit
open Go.Proofs.YtohlmoppcmjknaaGreatDoor.Col (nth bys)
theorem split_calls (c : UInt8) (s : List UInt8) (hs : s.length < 100000) (w : World) (hG : Tryz.Glob w) :
  Calls Tryz.prog 105 #[.string (bys s), .string ⟨#[c]⟩] w fun e w' =>
   e = .returned (.slice (some ⟨w.heap.size, 0, none⟩) (Col.split c s).length (Col.split c s).length) ∧ w' = w.alloc (.cells (((Col.split c s).map bys).map Value.string).toArray 9) := by
 obtain ⟨_, m, hm⟩ := hG
 have h := Tryz.strings_Split (bys s) ⟨#[c]⟩ m w (by rw [Col.bytes_size]; exact Nat.lt_trans hs (by decide)) hm (Nat.le_refl 1)
 rw [Col.splitB_eq, Col.split_count] at h
 exact h
end Go.Proofs.YtohlmoppcmjknaaGreatDoor.X
end
