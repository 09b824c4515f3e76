/- What the law reaches beyond the common part; joined out of several texts. -/
import Derived.Test.YtohlmoppcmjknaaGreatDoorM2
import Derived.Test.YtohlmoppcmjknaaGreatDoorM8
import Derived.Test.YtohlmoppcmjknaaGreatDoorCPrints1
section
namespace Go.Proofs.YtohlmoppcmjknaaGreatDoor.U
open Go.RowKit Go.Proofs.YtohlmoppcmjknaaGreatDoorW.PrintWords Go.Proofs.YtohlmoppcmjknaaGreatDoorW.PrintLast
open Go.Proofs.YtohlmoppcmjknaaGreatDoor.Col (nth inr bys)
set_option linter.unusedVariables false
theorem bys_app (a b : List UInt8) : bys a ++ bys b = bys (a ++ b) := Col.bytes_append a b
theorem one_digit {d : Int} (h0 : 0 ≤ d) (h9 : d < 10) : strOfNums ([(48 + d) % 256] : List Int) = bys [UInt8.ofNat (48 + d.toNat)] := by
 have : (48 + d) % 256 = 48 + d := by omega
 rw [this]
 have e : (48 + d).toNat = 48 + d.toNat := by omega
 simp [strOfNums, bys, e]
theorem dec_small {u : Nat} (h : u < 10) : Lib.decDigits u = [UInt8.ofNat (48 + u)] := by rw [Lib.decDigits, dif_pos h]
theorem dec_big {u : Nat} (h : ¬ u < 10) : Lib.decDigits u = Lib.decDigits (u / 10) ++ [UInt8.ofNat (48 + u % 10)] := by rw [Lib.decDigits, dif_neg h]
theorem itoa_pos {n : Int} (h : 0 ≤ n) : Lib.itoa n = Lib.decDigits n.toNat := by unfold Lib.itoa; rw [if_neg (by omega)]
theorem itoa_neg {n : Int} (h : n < 0) : Lib.itoa n = 45 :: Lib.decDigits n.natAbs := by unfold Lib.itoa; rw [if_pos h]
theorem tdiv_neg {a : Int} (h : a < 0) : Int.tdiv a 10 = -((a.natAbs / 10 : Nat) : Int) := by
 obtain ⟨m, rfl⟩ : ∃ m : Nat, a = -(m : Int) := ⟨a.natAbs, by omega⟩
 rw [Int.neg_tdiv, show (10 : Int) = ((10 : Nat) : Int) from rfl, ← Int.ofNat_tdiv, Int.natAbs_neg, Int.natAbs_natCast]
theorem tmod_neg {a : Int} (h : a < 0) : Int.tmod a 10 = -((a.natAbs % 10 : Nat) : Int) := by
 obtain ⟨m, rfl⟩ : ∃ m : Nat, a = -(m : Int) := ⟨a.natAbs, by omega⟩
 rw [Int.neg_tmod, show (10 : Int) = ((10 : Nat) : Int) from rfl, ← Int.ofNat_tmod, Int.natAbs_neg, Int.natAbs_natCast]
theorem tdiv_pos {a : Int} (h : 0 ≤ a) (n : Nat) : Int.tdiv a (n : Int) = ((a.toNat / n : Nat) : Int) := by
 obtain ⟨m, rfl⟩ : ∃ m : Nat, a = (m : Int) := ⟨a.toNat, by omega⟩
 rw [← Int.ofNat_tdiv, Int.toNat_natCast]
theorem tmod_pos {a : Int} (h : 0 ≤ a) (n : Nat) : Int.tmod a (n : Int) = ((a.toNat % n : Nat) : Int) := by
 obtain ⟨m, rfl⟩ : ∃ m : Nat, a = (m : Int) := ⟨a.toNat, by omega⟩
 rw [← Int.ofNat_tmod, Int.toNat_natCast]
theorem decimal_ev (u : Nat) : ∀ a : Int, a.natAbs = u → u < 100000 → Ev (fun k => P.T_Decimal.f k a) (bys (Lib.itoa a)) := by
 induction u using Nat.strongRecOn with
 | _ u ih =>
  intro a ha hu
  by_cases hneg : a < 0
  ·by_cases h10 : a > -10
   ·refine Ev.step (f := fun k => P.T_Decimal.j0 k a true) (fun k => by rw [P.T_Decimal.f, if_pos h10, decide_eq_true hneg]) ?_
    refine Ev.step (f := fun _ => some _) (fun k => ?_) (Ev.now _)
    have e : wrap64 (48 - a) = 48 + (-a) := by unfold wrap64; omega
    rw [P.T_Decimal.j0, if_pos rfl, e]
    simp only [Option.bind_some]
    rw [one_digit (d := -a) (by omega) (by omega)]
    rw [Col.bytes_size, if_pos (by simp), itoa_neg hneg, dec_small (by omega)]
    rw [show (⟨#[45]⟩ : ByteArray) = bys [45] from rfl, bys_app, show (-a).toNat = a.natAbs by omega]
    rfl
   ·have e1 : wrap64 (Int.tdiv a 10) = -((a.natAbs / 10 : Nat) : Int) := by
     rw [tdiv_neg hneg]; unfold wrap64; omega
    have e2 : Int.tmod a 10 = -((a.natAbs % 10 : Nat) : Int) := tmod_neg hneg
    have hr := ih (a.natAbs / 10) (by omega) (wrap64 (Int.tdiv a 10)) (by omega) (by omega)
    have hl : (Lib.itoa (wrap64 (Int.tdiv a 10))).length ≤ 6 := Col.itoa_len (by omega)
    refine Ev.step (f := fun k => P.T_Decimal.j0 k a false) (fun k => by rw [P.T_Decimal.f, if_neg h10]) ?_
    refine Ev.step (f := fun k => (P.T_Decimal.f k (wrap64 (Int.tdiv a 10))).bind fun t => (some ([(wrap64 (48 - (Int.tmod a 10))) % 256] : List Int)).bind fun y => if t.size + (strOfNums y).size ≤ 9223372036854775807 then some (t ++ strOfNums y) else none) (fun k => by rw [P.T_Decimal.j0, if_neg (by decide), if_pos hneg]) ?_
    refine Ev.bind hr ?_
    have e3 : wrap64 (48 - (Int.tmod a 10)) = 48 + ((a.natAbs % 10 : Nat) : Int) := by rw [e2]; unfold wrap64; omega
    refine Ev.congr (f := fun _ => some _) (fun k => ?_) (Ev.now _)
    rw [e3]
    simp only [Option.bind_some]
    rw [one_digit (by omega) (by omega)]
    rw [Col.bytes_size, Col.bytes_size, if_pos (by simp only [List.length_singleton]; omega), bys_app, itoa_neg hneg, itoa_neg (by omega)]
    have h2 : (wrap64 (Int.tdiv a 10)).natAbs = a.natAbs / 10 := by omega
    rw [h2, dec_big (u := a.natAbs) (by omega), Int.toNat_natCast, List.cons_append]
  ·have hd : decide (a < 0) = false := decide_eq_false hneg
   refine Ev.step (f := fun k => P.T_Decimal.j0 k a false) (fun k => by rw [P.T_Decimal.f, if_pos (by omega), hd]) ?_
   by_cases h10 : a < 10
   ·refine Ev.step (f := fun _ => some _) (fun k => ?_) (Ev.now _)
    have e : wrap64 (48 + a) = 48 + a := by unfold wrap64; omega
    rw [P.T_Decimal.j0, if_neg (by decide), if_neg hneg, if_pos h10, e, one_digit (by omega) h10, itoa_pos (by omega), dec_small (by omega)]
   ·have e1 : wrap64 (Int.tdiv a 10) = ((a.toNat / 10 : Nat) : Int) := by
     rw [show Int.tdiv a 10 = ((a.toNat / 10 : Nat) : Int) from tdiv_pos (by omega) 10]; unfold wrap64; omega
    have e2 : Int.tmod a 10 = ((a.toNat % 10 : Nat) : Int) := tmod_pos (by omega) 10
    have hr := ih (a.natAbs / 10) (by omega) (wrap64 (Int.tdiv a 10)) (by omega) (by omega)
    have hl : (Lib.itoa (wrap64 (Int.tdiv a 10))).length ≤ 6 := Col.itoa_len (by omega)
    refine Ev.step (f := fun k => (P.T_Decimal.f k (wrap64 (Int.tdiv a 10))).bind fun t => (some ([(wrap64 (48 + (Int.tmod a 10))) % 256] : List Int)).bind fun y => if t.size + (strOfNums y).size ≤ 9223372036854775807 then some (t ++ strOfNums y) else none) (fun k => by rw [P.T_Decimal.j0, if_neg (by decide), if_neg hneg, if_neg h10]) ?_
    refine Ev.bind hr ?_
    have e3 : wrap64 (48 + (Int.tmod a 10)) = 48 + ((a.toNat % 10 : Nat) : Int) := by rw [e2]; unfold wrap64; omega
    refine Ev.congr (f := fun _ => some _) (fun k => ?_) (Ev.now _)
    rw [e3]
    simp only [Option.bind_some]
    rw [one_digit (by omega) (by omega)]
    rw [Col.bytes_size, Col.bytes_size, if_pos (by simp only [List.length_singleton]; omega), bys_app, itoa_pos (by omega), itoa_pos (by omega)]
    have h2 : (wrap64 (Int.tdiv a 10)).toNat = a.toNat / 10 := by omega
    rw [h2, dec_big (u := a.toNat) (by omega), Int.toNat_natCast]
theorem dec_ev {a : Int} (h : a.natAbs < 100000) : Ev (fun k => P.T_Decimal.f k a) (bys (Lib.itoa a)) := decimal_ev a.natAbs a rfl h
theorem row_ev (wd : List UInt8) (ns : List Int) (hw : wd.length ≤ 100) (hn : ns.length ≤ 1000) (hb : ∀ x ∈ ns, x.natAbs < 100000) : Ev (fun k => P.T_Row.f k (bys wd) ns) (bys (Col.line wd ns)) := by
 have h := loop_up (g := fun k i => P.T_Row.l0 k (Col.lineTo wd ns i.toNat) ns i) (n := ns.length) (r := fun _ => bys (Col.line wd ns)) ?_ ?_ 0 (Nat.zero_le _)
 ·exact h
 ·refine Ev.step (f := fun _ => some _) (fun k => ?_) (Ev.now _)
  rw [P.T_Row.l0, if_neg (by omega), Int.toNat_natCast, Col.lineTo_all]; rfl
 ·intro i hil ih
  have hz := Col.lineTo_size hb i (wd := wd)
  have hi6 : (Lib.itoa (nth ns i)).length ≤ 6 := Col.itoa_len (hb _ (Col.nth_mem hil))
  refine Ev.step (f := fun k => (P.T_Decimal.f k (nth ns i)).bind fun t => if (Col.lineTo wd ns i ++ (⟨#[32]⟩ : ByteArray)).size + t.size ≤ 9223372036854775807 then P.T_Row.l0 k ((Col.lineTo wd ns i ++ (⟨#[32]⟩ : ByteArray)) ++ t) ns ((i + 1 : Nat) : Int) else none) (fun k => ?_) ?_
  ·rw [P.T_Row.l0, if_pos (by omega), Int.toNat_natCast, if_pos (by omega), if_pos (by omega), rd_nth, w1 hil (by omega)]
  ·refine Ev.bind (dec_ev (hb _ (Col.nth_mem hil))) ?_
   refine Ev.congr (fun k => ?_) ih
   rw [if_pos (by rw [ByteArray.size_append, Col.bytes_size]; have : (⟨#[32]⟩ : ByteArray).size = 1 := rfl; omega), Int.toNat_natCast, Col.lineTo_succ hil, ByteArray.append_assoc]
   rfl
theorem joined_snoc (rs : List (List UInt8)) (r : List UInt8) : Col.joined (rs ++ [r]) = Col.joined rs ++ r ++ [10] := by simp [Col.joined]
theorem joined_take {rs : List (List UInt8)} {i : Nat} (h : i < rs.length) : Col.joined (rs.take (i + 1)) = Col.joined (rs.take i) ++ rs.getD i [] ++ [10] := by
 rw [List.take_succ_eq_append_getElem h, joined_snoc]
 simp [List.getD_eq_getElem?_getD, h]
theorem joined_len {n : Nat} : ∀ (rs : List (List UInt8)), (∀ r ∈ rs, r.length ≤ n) → (Col.joined rs).length ≤ (n + 1) * rs.length
 | [], _ => by simp [Col.joined]
 | a :: rs, h => by
  have h1 := joined_len rs (fun x hx => h x (List.mem_cons_of_mem _ hx))
  have h3 := h a (by simp)
  have e : Col.joined (a :: rs) = (a ++ [10]) ++ Col.joined rs := rfl
  have e2 : (n + 1) * (a :: rs).length = (n + 1) * rs.length + (n + 1) := by rw [List.length_cons, Nat.mul_add, Nat.mul_one]
  rw [e, e2, List.length_append, List.length_append, List.length_singleton]
  omega
theorem rdOf_bys (rs : List (List UInt8)) (i : Nat) : rdOf ByteArray.empty (rs.map bys) (i : Int) = bys (rs.getD i []) := by
 unfold rdOf
 rw [Int.toNat_natCast, List.getD_eq_getElem?_getD, List.getD_eq_getElem?_getD, List.getElem?_map]
 cases rs[i]? <;> rfl
theorem bt_bys (r : List UInt8) {k : Nat} (h : k < r.length) : bt (bys r) (k : Int) = ((r.getD k 0).toNat : Int) := by
 have h' : ((k : Int)).toNat < (bys r).size := by rw [Col.bytes_size, Int.toNat_natCast]; exact h
 rw [bt, dif_pos h']
 have := Col.byte_at r k (by rw [Col.bytes_size]; exact h)
 simp only [Int.toNat_natCast]
 rw [this]
theorem check_bd {rs : List (List UInt8)} (hr : ∀ r ∈ rs, r.length ≤ 100) (hn : rs.length ≤ 300) : 0 ≤ Col.checkOf rs ∧ Col.checkOf rs < 233 := by
 rw [← Col.sumTo_all]; omega
theorem getD_len {rs : List (List UInt8)} (hr : ∀ r ∈ rs, r.length ≤ 100) (i : Nat) : (rs.getD i []).length ≤ 100 := by
 rw [List.getD_eq_getElem?_getD]
 cases e : rs[i]? with
 | none => simp
 | some r => exact hr r (List.mem_of_getElem? e)
theorem wrap_id {n : Int} (h0 : 0 ≤ n) (h1 : n ≤ 1000000000000000) : wrap64 n = n := by unfold wrap64; omega
theorem term_wrap (b : UInt8) {i j : Nat} (hj : j < 100) (hi : i < 300) (S : Int) (h0 : 0 ≤ S) (h1 : S ≤ 900000000000000) : wrap64 (S + wrap64 (wrap64 (wrap64 (b.toNat : Int) * ((j + 1 : Nat) : Int)) * ((i + 1 : Nat) : Int))) = S + (b.toNat : Int) * ((j : Int) + 1) * ((i : Int) + 1) := by
 have ht := Col.term_bd b (k := j) (i := i) hj hi
 have hb8 := UInt8.toNat_lt b
 rw [wrap_id (n := (b.toNat : Int)) (by omega) (by omega), show ((j + 1 : Nat) : Int) = (j : Int) + 1 by omega, show ((i + 1 : Nat) : Int) = (i : Int) + 1 by omega, wrap_id ht.2.2.1 (by omega), wrap_id ht.1 (by omega), wrap_id (by omega) (by omega)]
theorem sealed_ev (rs : List (List UInt8)) (hr : ∀ r ∈ rs, r.length ≤ 100) (hn : rs.length ≤ 300) : Ev (fun k => P.T_Sealed.f k (rs.map bys) 233) (bys (Col.joined (rs ++ [Col.endLine (Col.checkOf rs)]))) := by
 have hJ : ∀ i, (Col.joined (rs.take i)).length ≤ 101 * 300 := fun i => by
  have h1 := joined_len (n := 100) (rs.take i) (fun r h => hr r (List.mem_of_mem_take h))
  have h2 : (rs.take i).length ≤ rs.length := by rw [List.length_take]; omega
  omega
 have h := loop_up (g := fun k i => P.T_Sealed.l0 k (rs.map bys) 233 (bys (Col.joined (rs.take i.toNat))) (Col.sumTo rs i.toNat) i) (n := rs.length) (r := fun _ => bys (Col.joined (rs ++ [Col.endLine (Col.checkOf rs)]))) ?_ ?_ 0 (Nat.zero_le _)
 ·exact h
 ·have hc := check_bd hr hn
  have hs := Col.sumTo_bd hr rs.length hn
  have hj := hJ rs.length
  rw [List.take_length] at hj
  have e0 : Int.tmod (Col.sumTo rs rs.length) 233 = Col.checkOf rs := by rw [Int.tmod_eq_emod_of_nonneg hs.1, Col.sumTo_all]
  generalize ec : Col.checkOf rs = c at *
  have e1 : wrap64 (Int.tdiv c 100) = c / 100 := by rw [Int.tdiv_eq_ediv_of_nonneg hc.1]; unfold wrap64; omega
  have e2 : Int.tmod (wrap64 (Int.tdiv c 10)) 10 = c / 10 % 10 := by
   rw [Int.tdiv_eq_ediv_of_nonneg hc.1]
   have : wrap64 (c / 10) = c / 10 := by unfold wrap64; omega
   rw [this, Int.tmod_eq_emod_of_nonneg (by omega)]
  have e3 : Int.tmod c 10 = c % 10 := Int.tmod_eq_emod_of_nonneg hc.1
  have l1 : (Lib.itoa (c / 100)).length ≤ 6 := Col.itoa_len (by omega)
  have l2 : (Lib.itoa (c / 10 % 10)).length ≤ 6 := Col.itoa_len (by omega)
  have l3 : (Lib.itoa (c % 10)).length ≤ 6 := Col.itoa_len (by omega)
  have z4 : (⟨#[101, 110, 100, 32]⟩ : ByteArray) = bys [101, 110, 100, 32] := rfl
  have z1 : (⟨#[10]⟩ : ByteArray) = bys [10] := rfl
  have s4 : (bys [101, 110, 100, 32]).size = 4 := rfl
  have s1 : (bys [10]).size = 1 := rfl
  rw [joined_snoc]
  refine Ev.step (f := fun k => (P.T_Decimal.f k (c / 100)).bind fun t691 => (if (bys (Col.joined rs) ++ bys [101, 110, 100, 32]).size + t691.size ≤ 9223372036854775807 then ((P.T_Decimal.f k (c / 10 % 10)).bind fun t692 => (if ((bys (Col.joined rs) ++ bys [101, 110, 100, 32]) ++ t691).size + t692.size ≤ 9223372036854775807 then ((P.T_Decimal.f k (c % 10)).bind fun t693 => (if (((bys (Col.joined rs) ++ bys [101, 110, 100, 32]) ++ t691) ++ t692).size + t693.size ≤ 9223372036854775807 then (if ((((bys (Col.joined rs) ++ bys [101, 110, 100, 32]) ++ t691) ++ t692) ++ t693).size + 1 ≤ 9223372036854775807 then (some (((((bys (Col.joined rs) ++ bys [101, 110, 100, 32]) ++ t691) ++ t692) ++ t693) ++ bys [10])) else none) else none)) else none)) else none)) (fun k => ?_) ?_
  ·rw [P.T_Sealed.l0, if_neg (by simp), if_neg (by omega), Int.toNat_natCast, List.take_length, e0, e1, e2, e3, if_pos (by rw [Col.bytes_size]; omega), z4, z1]
  ·refine Ev.bind (dec_ev (by omega)) ?_
   simp only [ByteArray.size_append, Col.bytes_size, List.length_cons, List.length_nil]
   refine Ev.congr (fun k => by rw [if_pos (by omega)]) ?_
   refine Ev.bind (dec_ev (by omega)) ?_
   refine Ev.congr (fun k => by rw [Col.bytes_size, if_pos (by omega)]) ?_
   refine Ev.bind (dec_ev (by omega)) ?_
   refine Ev.congr (f := fun _ => some _) (fun k => by rw [Col.bytes_size, if_pos (by omega), if_pos (by omega)]) ?_
   rw [show bys (Col.joined rs ++ Col.endLine c ++ [10]) = bys (Col.joined rs) ++ bys [101, 110, 100, 32] ++ bys (Lib.itoa (c / 100)) ++ bys (Lib.itoa (c / 10 % 10)) ++ bys (Lib.itoa (c % 10)) ++ bys [10] by simp only [bys_app, Col.endLine, List.append_assoc]]
   exact Ev.now _
 ·intro i hil ih
  have hl := getD_len hr i
  have hs := Col.sumTo_bd hr i (by omega)
  have hj := hJ i
  refine Ev.step (f := fun k => P.T_Sealed.l1 k (rs.map bys) 233 (bys (Col.joined (rs.take i))) (Col.sumTo rs i) i 0) (fun k => by rw [P.T_Sealed.l0, if_pos (by rw [List.length_map]; omega), Int.toNat_natCast]) ?_
  have hin := loop_up (g := fun k j => P.T_Sealed.l1 k (rs.map bys) 233 (bys (Col.joined (rs.take i))) (Col.sumTo rs i + Col.lineTo' i (rs.getD i []) j.toNat) i j) (n := (rs.getD i []).length) (r := fun _ => bys (Col.joined (rs ++ [Col.endLine (Col.checkOf rs)]))) ?_ ?_ 0 (Nat.zero_le _)
  ·have e : Col.sumTo rs i + Col.lineTo' i (rs.getD i []) 0 = Col.sumTo rs i := by simp [Col.lineTo']
   refine Ev.congr (fun k => ?_) hin
   simp only [Int.toNat_natCast]
   rw [e]; rfl
  ·refine Ev.step (f := fun k => P.T_Sealed.l0 k (rs.map bys) 233 (bys (Col.joined (rs.take (i + 1)))) (Col.sumTo rs (i + 1)) ((i + 1 : Nat) : Int)) (fun k => ?_) (by simpa using ih)
   rw [P.T_Sealed.l1, if_pos (by omega), if_pos (by rw [List.length_map]; omega), rdOf_bys, Col.bytes_size, if_neg (by omega), Col.bytes_size, if_pos (by omega), ByteArray.size_append, Col.bytes_size, Col.bytes_size, if_pos (by omega), Int.toNat_natCast, Col.lineTo'_all, ← Col.sumTo_succ, w1 hil (by omega), joined_take hil, ← bys_app, ← bys_app]
   rfl
  ·intro j hjl ihj
   have hb := Col.lineTo'_bd i (by omega) (rs.getD i []) j (by omega)
   refine Ev.step (f := fun k => P.T_Sealed.l1 k (rs.map bys) 233 (bys (Col.joined (rs.take i))) (Col.sumTo rs i + Col.lineTo' i (rs.getD i []) (j + 1)) i ((j + 1 : Nat) : Int)) (fun k => ?_) (by simpa using ihj)
   rw [P.T_Sealed.l1, if_pos (by omega), if_pos (by rw [List.length_map]; omega), rdOf_bys, Col.bytes_size, if_pos (by omega), if_pos (by omega), bt_bys _ hjl, Int.toNat_natCast, w1 hjl (by omega), w1 hil (by omega), Col.lineTo'_succ]
   rw [term_wrap _ (by omega) (by omega) _ (by omega) (by omega), Int.add_assoc]
theorem print_ev (l : List Int) (o lo hi : Int) (h : Col.short l o lo hi = true) : Ev (fun k => P.R_Print.f k l o lo hi) (bys (Col.text l o lo hi)) := by
 obtain ⟨h1, h2, h3, h4, h5⟩ := Col.short_parts h
 have hb3 : ∀ x ∈ [o, lo, hi], x.natAbs < 100000 := by
  intro x hx; simp only [List.mem_cons, List.not_mem_nil, or_false] at hx; rcases hx with rfl | rfl | rfl <;> assumption
 refine Ev.congr (fun k => by unfold P.R_Print.f; rfl) (Ev.bind (row_ev [99, 111, 108, 117, 109, 110] [o, lo, hi] (by simp) (by simp) hb3) ?_)
 have hloop := loop_up (g := fun k i => P.R_Print.l0 k (Col.rowsTo l o lo hi i.toNat) i l o lo hi) (n := l.length) (r := fun _ => bys (Col.text l o lo hi)) ?_ ?_ 0 (Nat.zero_le _)
 ·refine Ev.congr (fun k => ?_) hloop
  rw [Int.toNat_natCast, Col.rowsTo_zero]; rfl
 ·have hle := Col.lines_len h
  have hs := sealed_ev (Col.lines l o lo hi) (fun r hr => by have := hle r hr; omega) (by rw [Col.lines_length]; omega)
  refine Ev.step (f := fun k => (P.T_Sealed.f k ((Col.lines l o lo hi).map bys) 233).bind fun t => some t) (fun k => by rw [P.R_Print.l0, if_neg (by omega), Int.toNat_natCast, Col.rowsTo_all]) ?_
  exact Ev.bind hs (Ev.now _)
 ·intro i hil ih
  have hrl := Col.rowsTo_length l o lo hi i
  refine Ev.step (f := fun k => (P.T_Row.f k (bys [114, 111, 119]) [nth l i]).bind fun t => P.R_Print.l0 k (Col.rowsTo l o lo hi i ++ [t]) ((i + 1 : Nat) : Int) l o lo hi) (fun k => ?_) ?_
  ·rw [P.R_Print.l0, if_pos (by omega), if_pos (by omega), Int.toNat_natCast, rd_nth, w1 hil (by omega)]
   refine congrArg _ (funext fun t => ?_)
   rw [if_pos (by omega)]
  ·refine Ev.bind (row_ev [114, 111, 119] [nth l i] (by simp) (by simp) (fun x hx => by rw [List.mem_singleton] at hx; rw [hx]; exact h5 _ (Col.nth_mem hil))) ?_
   refine Ev.congr (fun k => ?_) ih
   rw [Int.toNat_natCast, Col.rowsTo_succ o lo hi hil]; rfl
end Go.Proofs.YtohlmoppcmjknaaGreatDoor.U
end
section
namespace Go.Proofs.YtohlmoppcmjknaaGreatDoor.Col
theorem split_free {c : UInt8} : ∀ {w : List UInt8}, c ∉ w → split c w = [w]
 | [], _ => rfl
 | b :: w, h => by
  have h1 : b ≠ c := fun e => h (by simp [e])
  have h2 := split_free (c := c) (w := w) (fun e => h (List.mem_cons_of_mem _ e))
  rw [split, if_neg h1, h2]
theorem split_at {c : UInt8} : ∀ {w : List UInt8} (s : List UInt8), c ∉ w → split c (w ++ c :: s) = w :: split c s
 | [], s, _ => by rw [List.nil_append, split, if_pos rfl]
 | b :: w, s, h => by
  have h1 : b ≠ c := fun e => h (by simp [e])
  have h2 := split_at (c := c) (w := w) s (fun e => h (List.mem_cons_of_mem _ e))
  rw [List.cons_append, split, if_neg h1, h2]
theorem split_joined : ∀ (rs : List (List UInt8)), (∀ r ∈ rs, (10 : UInt8) ∉ r) → split 10 (joined rs) = rs ++ [[]]
 | [], _ => rfl
 | r :: rs, h => by
  have e : joined (r :: rs) = r ++ 10 :: joined rs := by simp [joined]
  rw [e, split_at _ (h r (by simp)), split_joined rs (fun x hx => h x (List.mem_cons_of_mem _ hx)), List.cons_append]
theorem dec_digit (u : Nat) : ∀ b ∈ Lib.decDigits u, 48 ≤ b.toNat ∧ b.toNat ≤ 57 := by
 induction u using Nat.strongRecOn with
 | _ u ih =>
  intro b hb
  have one : ∀ d : Nat, d < 10 → 48 ≤ (UInt8.ofNat (48 + d)).toNat ∧ (UInt8.ofNat (48 + d)).toNat ≤ 57 := fun d hd => by
   rw [UInt8.toNat_ofNat']; omega
  by_cases h : u < 10
  ·rw [Lib.decDigits, dif_pos h, List.mem_singleton] at hb
   rw [hb]; exact one u h
  ·rw [Lib.decDigits, dif_neg h, List.mem_append] at hb
   rcases hb with hb | hb
   ·exact ih _ (by omega) b hb
   ·rw [List.mem_singleton] at hb
    rw [hb]; exact one _ (by omega)
theorem dec_value (u : Nat) : value (Lib.decDigits u) = u := by
 induction u using Nat.strongRecOn with
 | _ u ih =>
  have one : ∀ d : Nat, d < 10 → ((UInt8.ofNat (48 + d)).toNat : Int) - 48 = d := fun d hd => by
   rw [UInt8.toNat_ofNat']; omega
  by_cases h : u < 10
  ·rw [Lib.decDigits, dif_pos h]
   have := one u h
   simp only [value, List.foldl_cons, List.foldl_nil]
   omega
  ·rw [Lib.decDigits, dif_neg h]
   have h1 := ih (u / 10) (by omega)
   have h2 := one (u % 10) (by omega)
   unfold value at h1 ⊢
   rw [List.foldl_append, h1]
   simp only [List.foldl_cons, List.foldl_nil]
   omega
theorem dec_pos (u : Nat) : 0 < (Lib.decDigits u).length := by
 rw [Lib.decDigits]
 split <;> simp
theorem given_dec {u : Nat} (h : u < 100000) : given (Lib.decDigits u) = some (u : Int) := by
 have h1 : (Lib.decDigits u).all isDigit = true := by
  rw [List.all_eq_true]
  intro b hb
  have := dec_digit u b hb
  simp [isDigit, this]
 have h2 := decDigits_len 4 u (by omega)
 have h3 := dec_pos u
 have h4 : Lib.itoa (value (Lib.decDigits u)) = Lib.decDigits u := by
  rw [dec_value, Lib.itoa, if_neg (by omega), Int.toNat_natCast]
 unfold given
 rw [h1, decide_eq_true (show (Lib.decDigits u).length ≤ 5 from h2), decide_eq_true h3, decide_eq_true h4, dec_value]
 rfl
theorem given_itoa {n : Int} (h0 : 0 ≤ n) (h : n < 100000) : given (Lib.itoa n) = some n := by
 rw [Lib.itoa, if_neg (by omega), given_dec (by omega)]
 congr 1; omega
theorem signed_itoa {n : Int} (h : n.natAbs < 100000) : signed (Lib.itoa n) = some n := by
 by_cases h0 : n < 0
 ·rw [Lib.itoa, if_pos h0]
  show (match given (Lib.decDigits n.natAbs) with | some n => if 0 < n then some (-n) else none | none => none) = some n
  rw [given_dec h]
  show (if 0 < (n.natAbs : Int) then some (-(n.natAbs : Int)) else none) = some n
  rw [if_pos (by omega)]
  congr 1; omega
 ·have hg := given_itoa (n := n) (by omega) (by omega)
  have hd : ∀ w, Lib.itoa n ≠ 45 :: w := by
   intro w hw
   rw [Lib.itoa, if_neg h0] at hw
   have := dec_digit n.toNat 45 (by rw [hw]; simp)
   simp at this
  unfold signed
  split
  ·rename_i w e; exact absurd e (hd w)
  ·exact hg
theorem itoa_byte {n : Int} {b : UInt8} (h : b ∈ Lib.itoa n) : b = 45 ∨ 48 ≤ b.toNat ∧ b.toNat ≤ 57 := by
 unfold Lib.itoa at h
 split at h
 ·rcases List.mem_cons.1 h with e | h
  ·exact Or.inl e
  ·exact Or.inr (dec_digit _ _ h)
 ·exact Or.inr (dec_digit _ _ h)
theorem itoa_free (n : Int) {c : UInt8} (hc : c.toNat < 45) : c ∉ Lib.itoa n := by
 intro h
 rcases itoa_byte h with e | e
 ·rw [e] at hc; exact absurd hc (by decide)
 ·omega
theorem line_free {wd : List UInt8} (hw : (10 : UInt8) ∉ wd) : ∀ (ns : List Int), (10 : UInt8) ∉ line wd ns := by
 suffices h : ∀ (ns : List Int) (wd : List UInt8), (10 : UInt8) ∉ wd → (10 : UInt8) ∉ line wd ns from fun ns => h ns wd hw
 intro ns
 induction ns with
 | nil => intro wd h; exact h
 | cons a ns ih =>
  intro wd h
  refine ih (wd ++ 32 :: Lib.itoa a) ?_
  intro hm
  rcases List.mem_append.1 hm with hm | hm
  ·exact h hm
  ·rcases List.mem_cons.1 hm with e | hm
   ·exact absurd e (by decide)
   ·exact itoa_free a (by decide) hm
theorem line_eq (wd : List UInt8) (ns : List Int) : line wd ns = wd ++ ns.flatMap fun n => 32 :: Lib.itoa n := by
 induction ns generalizing wd with
 | nil => simp [line]
 | cons a ns ih =>
  have e : line wd (a :: ns) = line (wd ++ 32 :: Lib.itoa a) ns := rfl
  rw [e, ih]; simp
theorem split_blanks : ∀ (ns : List Int) (wd : List UInt8), (32 : UInt8) ∉ wd → split 32 (wd ++ ns.flatMap fun n => 32 :: Lib.itoa n) = wd :: ns.map Lib.itoa
 | [], wd, h => by rw [List.flatMap_nil, List.append_nil, split_free h]; rfl
 | a :: ns, wd, h => by
  rw [List.flatMap_cons, List.cons_append, split_at _ h, split_blanks ns (Lib.itoa a) (itoa_free a (by decide)), List.map_cons]
theorem split_line {wd : List UInt8} (h : (32 : UInt8) ∉ wd) (ns : List Int) : split 32 (line wd ns) = wd :: ns.map Lib.itoa := by rw [line_eq, split_blanks ns wd h]
theorem rowValue_line {n : Int} (h : n.natAbs < 100000) : rowValue (rowLine n) = some n := by
 unfold rowValue rowLine
 rw [split_line (by decide)]
 exact signed_itoa h
theorem rows_value : ∀ (l : List Int), (∀ x ∈ l, x.natAbs < 100000) → (l.map rowLine).mapM rowValue = some l
 | [], _ => rfl
 | a :: l, h => by
  rw [List.map_cons, List.mapM_cons, rowValue_line (h a (by simp)), rows_value l (fun x hx => h x (List.mem_cons_of_mem _ hx))]
  rfl
theorem endLine_free (c : Int) : (10 : UInt8) ∉ endLine c := by
 intro h
 unfold endLine at h
 rcases List.mem_append.1 h with h | h
 ·rcases List.mem_append.1 h with h | h
  ·rcases List.mem_append.1 h with h | h
   ·exact absurd h (by decide)
   ·exact itoa_free _ (by decide) h
  ·exact itoa_free _ (by decide) h
 ·exact itoa_free _ (by decide) h
theorem text_free (l : List Int) (o lo hi : Int) : ∀ r ∈ lines l o lo hi ++ [endLine (checkOf (lines l o lo hi))], (10 : UInt8) ∉ r := by
 intro r hr
 rcases List.mem_append.1 hr with hr | hr
 ·rcases List.mem_cons.1 hr with rfl | hr
  ·exact line_free (by decide) _
  ·obtain ⟨n, _, rfl⟩ := List.mem_map.1 hr
   exact line_free (by decide) _
 ·rw [List.mem_singleton] at hr
  rw [hr]; exact endLine_free _
theorem parse_text {l : List Int} {o lo hi : Int} (h : short l o lo hi = true) (ho : 0 ≤ o) : parse (text l o lo hi) = some (l, o, lo, hi) := by
 obtain ⟨_, h2, h3, h4, h5⟩ := short_parts h
 have hs : split 10 (text l o lo hi) = headLine o lo hi :: (l.map rowLine ++ [endLine (checkOf (lines l o lo hi)), []]) := by
  unfold text
  rw [split_joined _ (text_free l o lo hi)]
  simp [lines]
 have hh : split 32 (headLine o lo hi) = [[99, 111, 108, 117, 109, 110], Lib.itoa o, Lib.itoa lo, Lib.itoa hi] := by
  unfold headLine
  rw [split_line (by decide)]; rfl
 unfold parse
 rw [hs]
 simp only [List.length_cons, List.length_append, List.length_map, List.length_nil, List.headD_cons, List.drop_succ_cons, List.drop_zero]
 rw [if_neg (by omega), hh]
 simp only []
 rw [show l.length + (0 + 1 + 1) + 1 - 3 = (l.map rowLine).length by rw [List.length_map]; omega, List.take_left, given_itoa ho (by omega), signed_itoa h3, signed_itoa h4, rows_value l h5]
 simp
theorem text_len {l : List Int} {o lo hi : Int} (h : short l o lo hi = true) (hl : l.length ≤ 14) : (text l o lo hi).length ≤ 190 := by
 obtain ⟨_, h2, h3, h4, h5⟩ := short_parts h
 have e : text l o lo hi = (headLine o lo hi ++ [10]) ++ joined (l.map rowLine) ++ (endLine (checkOf (lines l o lo hi)) ++ [10]) := by simp [text, lines, joined]
 have h1 := headLine_len h2 h3 h4
 have hj : ∀ m : List Int, (∀ x ∈ m, x.natAbs < 100000) → (joined (m.map rowLine)).length ≤ 11 * m.length := by
  intro m
  induction m with
  | nil => intro _; simp [joined]
  | cons a m ih =>
   intro hm
   have h1 := ih (fun x hx => hm x (List.mem_cons_of_mem _ hx))
   have h2 := rowLine_len (hm a (by simp))
   have e : joined ((a :: m).map rowLine) = (rowLine a ++ [10]) ++ joined (m.map rowLine) := rfl
   rw [e, List.length_append, List.length_append, List.length_singleton, List.length_cons]
   omega
 have h6 := hj l h5
 have hc : 0 ≤ checkOf (lines l o lo hi) ∧ checkOf (lines l o lo hi) < 233 := by rw [← sumTo_all]; omega
 have dig : ∀ n : Int, 0 ≤ n → n < 10 → (Lib.itoa n).length = 1 := fun n h0 h1 => by
  rw [Lib.itoa, if_neg (by omega), Lib.decDigits, dif_pos (by omega)]; rfl
 have h7 : (endLine (checkOf (lines l o lo hi))).length = 7 := by
  generalize checkOf (lines l o lo hi) = c at *
  unfold endLine
  rw [List.length_append, List.length_append, List.length_append, dig _ (by omega) (by omega), dig _ (by omega) (by omega), dig _ (by omega) (by omega)]
  rfl
 rw [e, List.length_append, List.length_append, List.length_append, List.length_append, List.length_singleton, h7]
 omega
end Go.Proofs.YtohlmoppcmjknaaGreatDoor.Col
end
