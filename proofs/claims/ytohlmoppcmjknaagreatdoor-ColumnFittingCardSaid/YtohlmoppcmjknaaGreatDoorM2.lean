/- Contracts of the program's functions, and the words that their proofs take (joined out of several texts). -/
import Derived.Below
import Derived.Lib.ItoaNum
import Derived.Test.YtohlmoppcmjknaaGreatDoorProg
import Derived.Deep.Draws
import Derived.Deep.AppendLies
import Derived.Maps.AppendAt
import Derived.OwnWalk
import Derived.Laws.BytesArg
import Derived.Laws.MakeOwn
import Derived.Laws.OwnMore
import Derived.Deep.OwnRows
import Derived.Tactics
import Derived.Lib.ConvBytes
import Derived.Laws.Slices
import Derived.WalkKit
import Derived.KernelRfl
import Derived.RowKit3
import Derived.Deep.LoopGhost
import Derived.Deep.QuietTactic
import Derived.BigQuiet
import Derived.WideLaws
import Derived.Deep.DeepCutAuto
import Derived.Deep.CutBlock
import Derived.Deep.RegionHeld3
import Derived.Laws.Rows
import Derived.Lib.AppendStr
import Derived.ArgAppend
import Derived.Laws.IdiomCopy
import Derived.OrdersHeld
import Derived.Laws.BitsLemmas
import Derived.RowKit
import Derived.Test.YtohlmoppcmjknaaGreatDoorM1
section
namespace Go.Proofs.YtohlmoppcmjknaaGreatDoor.P
open Go.RowKit Go.Proofs.YtohlmoppcmjknaaGreatDoorW.PrintWords Go.Proofs.YtohlmoppcmjknaaGreatDoorW.PrintLast Go.Proofs.YtohlmoppcmjknaaGreatDoorW.PrintMore
inductive Up (w : World) : World → Prop
 | here : Up w w
 | alloc {w' : World} (o : Obj) : Up w w' → Up w (w'.alloc o)
 | drew {w' : World} : Up w w' → Up w w'.drew
 | drewN {w' : World} (n : Nat) : Up w w' → Up w (w'.drewN n)
section
variable {α : Type} {w w' : World}
theorem rup {K : Kd α} {t : TypeId} {base : Nat} {ok : Nat → Prop} {v : Value} {l : List α} (h : Kd.R K t w base ok v l) (u : Up w w' := by repeat (with_reducible first | exact Up.here | apply Up.alloc | apply Up.drewN | apply Up.drew)) : Kd.R K t w' base ok v l := by
 induction u with
 | here => exact h
 | alloc o _ ih => exact Kd.R_alloc ih _
 | drew _ ih => exact Kd.R_drew ih
 | drewN n _ ih => exact Kd.R_drewN ih _
theorem bup {g : Nat} {o : Obj} (h : w.heap[g]? = some o) (u : Up w w' := by repeat (with_reducible first | exact Up.here | apply Up.alloc | apply Up.drewN | apply Up.drew)) : w'.heap[g]? = some o := by
 induction u with
 | here => exact h
 | alloc o _ ih => exact blk_alloc ih _
 | drew _ ih => exact blk_drew ih
 | drewN n _ ih => exact blk_drewN ih _
theorem wup {w0 : World} (h : Below w0.heap.size w0 w) (u : Up w w' := by repeat (with_reducible first | exact Up.here | apply Up.alloc | apply Up.drewN | apply Up.drew)) : Below w0.heap.size w0 w' := by
 induction u with
 | here => exact h
 | alloc o _ ih => exact below_alloc ih _
 | drew _ ih => exact below_drew1 ih
 | drewN n _ ih => exact pw_below_drewN ih _
end
end Go.Proofs.YtohlmoppcmjknaaGreatDoor.P
end
section
namespace Go.Proofs.YtohlmoppcmjknaaGreatDoor.Col
def inr (x lo hi : Int) : Bool := decide (lo ≤ x) && decide (x ≤ hi)
def isSheet (l : List Int) (o lo hi : Int) : Bool :=
 inr l.length 1 14 && inr o 1 3 && inr lo (-99999) 99999 && inr hi lo 99999 && l.all fun n => inr n (-9999) 9999
def diff1 : List Int → List Int
 | a :: b :: l => (b - a) :: diff1 (b :: l)
 | _ => []
def diffs : Nat → List Int → List Int
 | 0, l => l
 | n + 1, l => diff1 (diffs n l)
def wins (l : List Int) (o : Int) : List Int := if o < l.length then diffs o.toNat l else []
def jumpsAt (ws : List Int) (lo hi : Int) (i : Nat) : Bool := !inr (ws.getD i 0) lo hi
def jumping (ws : List Int) (lo hi : Int) : List Int := ((List.range ws.length).filter (jumpsAt ws lo hi)).map fun n : Nat => (n : Int)
def js (l : List Int) (o lo hi : Int) : List Int := jumping (wins l o) lo hi
def opens (J : List Int) (o : Int) (now : List Int) : Option Int := J.find? fun i => !now.any fun r => inr r i (i + o)
def lists : Nat → List Int → Int → List Int → List (List Int)
 | 0, _, _, _ => []
 | k + 1, J, o, now => match opens J o now with
  | none => [now]
  | some i => (List.range (o.toNat + 1)).flatMap fun j : Nat => lists k J o (now ++ [i + (j : Int)])
def keep (out : List (List Int)) (l : List Int) : List (List Int) :=
 let out := if decide (0 < out.length) && decide (l.length < (out.headD []).length) then [] else out
 if out.length = 0 ∨ l.length = (out.headD []).length then out ++ [l] else out
def wrongs (l : List Int) (o lo hi : Int) : List (List Int) := (lists ((js l o lo hi).length + 1) (js l o lo hi) o []).foldl keep []
def word (ls : List (List Int)) (r : Int) : Int :=
 let many := (ls.filter fun l => l.contains r).length
 if many = 0 then 1 else if many = ls.length then 3 else 2
def rows (n : Nat) : List Int := (List.range n).map fun n : Nat => (n : Int)
def longest (all : List (List Int)) : List Int := all.foldl (fun out x => if out.length < x.length then x else out) []
def apart : Nat → Int → List Int → List Int
 | 0, _, _ => []
 | k + 1, o, l => longest ((List.range l.length).map fun i => l.getD i 0 :: apart k o ((l.drop (i + 1)).filter fun n => !decide (n ≤ l.getD i 0 + o)))
def weight (o : Int) (at_ : Nat) : Int := (diffs o.toNat ((List.replicate (o.toNat + 1) 0).set at_ 1)).headD 0
def rest (l : List Int) (o : Int) (w : Nat) (row : Int) : Int :=
 (((List.range (o.toNat + 1)).filter fun k => !decide (((w + k : Nat) : Int) = row)).map fun k => weight o k * l.getD (w + k) 0).sum
def lowOf (rest_ wt lo hi : Int) : Int := if 0 < wt then -((rest_ - lo) / wt) else -((hi - rest_) / (-wt))
def highOf (rest_ wt lo hi : Int) : Int := if 0 < wt then (hi - rest_) / wt else (rest_ - lo) / (-wt)
def narrow (l : List Int) (o lo hi row : Int) (s : Int × Int) (w : Nat) : Int × Int :=
 if inr row w (w + o) then
  let q := rest l o w row; let wt := weight o (row - w).toNat
  (max s.1 (lowOf q wt lo hi), min s.2 (highOf q wt lo hi))
 else s
def between (l : List Int) (o lo hi row : Int) : Int × Int :=
 (List.range (l.length - o.toNat)).foldl (narrow l o lo hi row) (-9999, 9999)
def small (l : List Int) (o lo hi : Int) : Bool :=
 inr l.length 1 15 && inr o 1 3 && inr lo (-99999) 99999 && inr hi (-99999) 99999 && l.all fun n => inr n (-9999) 9999
def runs (l : List Int) (o lo hi : Int) : Bool := (js l o lo hi).isEmpty
def fixAt (l : List Int) (o lo hi : Int) (r : Nat) : List (Int × Int × Int) :=
 let x := between l o lo hi r
 if x.1 ≤ x.2 ∧ runs (l.set r x.1) o lo hi = true then [((r : Int), x.1, x.2)] else []
def fixes (l : List Int) (o lo hi : Int) : List (Int × Int × Int) := (List.range l.length).flatMap (fixAt l o lo hi)
def insertFixes (l : List Int) (o lo hi : Int) : List (Int × Int × Int) :=
 (List.range (l.length + 1)).flatMap fun r => fixAt (l.take r ++ 0 :: l.drop r) o lo hi r
def change (l : List Int) (x : Int × Int × Int) : Int × Int × Int :=
 let old := l.getD x.1.toNat 0
 let near := max x.2.1 (min x.2.2 old)
 (x.1, near, max (near - old) (old - near))
def bestChange : List (Int × Int × Int) → Option (Int × Int × Int)
 | [] => none
 | x :: l => some (l.foldl (fun out y => if y.2.2 < out.2.2 then y else out) x)
def fJumps (l : List Int) (o lo hi : Int) : Option (List Int × Int) := some (if isSheet l o lo hi = true then (js l o lo hi, 0) else ([], 2))
def fWide (l : List Int) (o lo hi : Int) : Option (Int × Int × Int) :=
 some (if isSheet l o lo hi = true then
  (match wins l o with
   | [] => (0, 0, 5)
   | x :: xs => (xs.foldl min x, xs.foldl max x, 0))
  else (0, 0, 2))
def fOrder (l : List Int) (o lo hi : Int) : Option (Int × Int) :=
 some (if isSheet l o lo hi = true then
  (match (List.range l.length).find? fun n => (diffs n l).all fun x => inr x lo hi with
   | some n => ((n : Int), 0)
   | none => (0, 5))
  else (0, 2))
def fWrong (l : List Int) (o lo hi : Int) : Option (List Int × Int) := some (if isSheet l o lo hi = true then ((wrongs l o lo hi).headD [], 0) else ([], 2))
def fCount (l : List Int) (o lo hi : Int) : Option (Int × Int) := some (if isSheet l o lo hi = true then (((wrongs l o lo hi).length : Int), 0) else (0, 2))
def fSuspect (l : List Int) (o lo hi : Int) : Option (List Int × Int) :=
 some (if isSheet l o lo hi = true then ((rows l.length).map (word (wrongs l o lo hi)), 0) else ([], 2))
def fProof (l : List Int) (o lo hi : Int) : Option (List Int × Int) :=
 some (if isSheet l o lo hi = true then (apart ((js l o lo hi).length + 1) o (js l o lo hi), 0) else ([], 2))
def fbetween (l : List Int) (o lo hi row : Int) : Option (Int × Int) := if small l o lo hi = true then some (between l o lo hi row) else none
def fruns (l : List Int) (o lo hi : Int) : Option Bool := if small l o lo hi = true then some (runs l o lo hi) else none
def fLeast (l : List Int) (o lo hi : Int) : Option (Int × Int × Int) :=
 some (if isSheet l o lo hi = true then
  (if runs l o lo hi = true then (0, 0, 7) else
   match bestChange ((fixes l o lo hi).map (change l)) with
    | some x => (x.1, x.2.1, 0)
    | none => (0, 0, 5))
  else (0, 0, 2))
def fInsert (l : List Int) (o lo hi : Int) : List (Int × Int × Int) × Int := if isSheet l o lo hi = true then (insertFixes l o lo hi, 0) else ([], 2)
def fdiffs (l : List Int) (o : Int) : Option (List Int) :=
 if decide (0 ≤ o) && decide (o < l.length) && decide (l.length ≤ 20) && (l.all fun n => inr n (-99999) 99999) then some (diffs o.toNat l) else none
def line (word_ : List UInt8) (ns : List Int) : List UInt8 := ns.foldl (fun out n => out ++ 32 :: Lib.itoa n) word_
def headLine (o lo hi : Int) : List UInt8 := line [99, 111, 108, 117, 109, 110] [o, lo, hi]
def rowLine (n : Int) : List UInt8 := line [114, 111, 119] [n]
def lines (l : List Int) (o lo hi : Int) : List (List UInt8) := headLine o lo hi :: l.map rowLine
def lineSum (i : Nat) (r : List UInt8) : Int := ((List.range r.length).map fun k => ((r.getD k 0).toNat : Int) * ((k : Int) + 1) * ((i : Int) + 1)).sum
def checkOf (rs : List (List UInt8)) : Int := ((List.range rs.length).map fun i => lineSum i (rs.getD i [])).sum % 233
def endLine (c : Int) : List UInt8 := [101, 110, 100, 32] ++ Lib.itoa (c / 100) ++ Lib.itoa (c / 10 % 10) ++ Lib.itoa (c % 10)
def joined (rs : List (List UInt8)) : List UInt8 := rs.flatMap fun r => r ++ [10]
def text (l : List Int) (o lo hi : Int) : List UInt8 := joined (lines l o lo hi ++ [endLine (checkOf (lines l o lo hi))])
def short (l : List Int) (o lo hi : Int) : Bool :=
 decide (l.length ≤ 200) && inr o (-99999) 99999 && inr lo (-99999) 99999 && inr hi (-99999) 99999 && l.all fun n => inr n (-99999) 99999
def ftext (l : List Int) (o lo hi : Int) : Option ByteArray := if short l o lo hi = true then some ⟨(text l o lo hi).toArray⟩ else none
def split (c : UInt8) : List UInt8 → List (List UInt8)
 | [] => [[]]
 | b :: l => if b = c then [] :: split c l else match split c l with
  | [] => [[b]]
  | r :: rs => (b :: r) :: rs
def isDigit (b : UInt8) : Bool := decide (48 ≤ b.toNat) && decide (b.toNat ≤ 57)
def value (w : List UInt8) : Int := w.foldl (fun n b => 10 * n + ((b.toNat : Int) - 48)) 0
def given (w : List UInt8) : Option Int :=
 if w.all isDigit && decide (w.length ≤ 5) && decide (0 < w.length) && decide (Lib.itoa (value w) = w) then some (value w) else none
def signed : List UInt8 → Option Int
 | 45 :: w => match given w with
  | some n => if 0 < n then some (-n) else none
  | none => none
 | w => given w
def rowValue (r : List UInt8) : Option Int := match split 32 r with
 | [_, w] => signed w
 | _ => none
def parse (t : List UInt8) : Option (List Int × Int × Int × Int) :=
 let rs := split 10 t
 if rs.length < 3 then none else
 match split 32 (rs.headD []) with
 | [_, a, b, c] => match given a, signed b, signed c, ((rs.drop 1).take (rs.length - 3)).mapM rowValue with
  | some o, some lo, some hi, some l => if text l o lo hi = t then some (l, o, lo, hi) else none
  | _, _, _, _ => none
 | _ => none
def fRead (t : ByteArray) : Option (List Int × Int × Int × Int × Int) :=
 some (if 190 < t.size then ([], 0, 0, 0, 3) else
  match parse t.toList with
   | none => ([], 0, 0, 0, 4)
   | some (l, o, lo, hi) => if isSheet l o lo hi = true then (l, o, lo, hi, 0) else ([], 0, 0, 0, 2))
def isStart (s : Int × Int) : Bool := inr s.1 (-99999) 99999 && inr s.2 s.1 99999 && decide (s.2 ≤ s.1 + 6)
def isPlan (st : List (Int × Int)) (rows_ guard : Int) : Bool := inr st.length 1 4 && inr rows_ 1 12 && inr guard 0 3 && st.all isStart
end Go.Proofs.YtohlmoppcmjknaaGreatDoor.Col
end
section
namespace Go.Proofs.YtohlmoppcmjknaaGreatDoor.P
open Go.RowKit Go.Proofs.YtohlmoppcmjknaaGreatDoorW.PrintWords Go.Proofs.YtohlmoppcmjknaaGreatDoorW.PrintLast Go.Proofs.YtohlmoppcmjknaaGreatDoorW.PrintMore
attribute [local go_sem] max2_int min2_int max_two min_two max_three min_three max_four min_four
set_option linter.unusedVariables false
set_option linter.unusedSimpArgs false
def errW : Option Int → Value
 | none => .nilIface
 | some c => .iface 0 (.int .i64 c)
theorem errW_none : errW none = .nilIface := rfl
theorem errW_some (c : Int) : errW (some c) = .iface 0 (.int .i64 c) := rfl
theorem info3 : (Tryz.prog.info? 3).map (fun i => (i.zero, i.size, i.bytes)) = some (some (.int .i64 0), 1, 8) := by kernel_rfl
theorem info5 : (Tryz.prog.info? 5).map (fun i => (i.zero, i.size, i.bytes)) = some (some (.int .u8 0), 1, 1) := by kernel_rfl
theorem info9 : (Tryz.prog.info? 9).map (fun i => (i.zero, i.size, i.bytes)) = some (some (.string ⟨#[]⟩), 1, 16) := by kernel_rfl
theorem info53 : (Tryz.prog.info? 53).map (fun i => (i.zero, i.size, i.bytes)) = some (some (.int .i64 0), 1, 8) := by kernel_rfl
theorem info70 : (Tryz.prog.info? 70).map (fun i => (i.zero, i.size, i.bytes)) = some (some (.agg #[(.int .i64 0), (.int .i64 0), (.int .i64 0)]), 3, 24) := by kernel_rfl
structure S24 where
 f0 : Int
 f1 : Int
def z24 : S24 := ⟨(0 : Int), (0 : Int)⟩
def k24 : Kd S24 := Kd.iso (Kd.pair (Kd.int .i64) (Kd.int .i64)) (fun x : S24 => (x.f0, x.f1))
theorem k24_open {w : World} {x : S24} {cs : List Value} (h : k24.K w x cs) : cs = [.int .i64 x.f0, .int .i64 x.f1] := by
 obtain ⟨_, _, rfl, rfl, rfl⟩ := h
 exact rfl
theorem k24_openM {w : World} {base : Nat} {ok : Nat → Prop} {x : S24} {cs : List Value} (h : k24.M w base ok x cs) : cs = [.int .i64 x.f0, .int .i64 x.f1] := by
 obtain ⟨_, _, rfl, rfl, rfl⟩ := h
 exact rfl
theorem k24_mk (w : World) (x : S24)  : k24.K w x [.int .i64 x.f0, .int .i64 x.f1] := ⟨[.int .i64 x.f0], [.int .i64 x.f1], rfl, rfl, rfl⟩
theorem k24_mkM (w : World) (base : Nat) (ok : Nat → Prop) (x : S24)  : k24.M w base ok x [.int .i64 x.f0, .int .i64 x.f1] := ⟨[.int .i64 x.f0], [.int .i64 x.f1], rfl, rfl, rfl⟩
def rd_T24 (xs : List S24) (i : Int) : S24 := xs.getD i.toNat z24
theorem at_T24 {w : World} {A : Option Addr} {n : Nat} {xs : List S24} (h : Kd.C k24 w A n xs) (i : Int) (h0 : 0 ≤ i) (h1 : i < n) : ∃ ad , A = some ad ∧ w.cell? (ad.add (i.toNat * 2)) = some (.int .i64 (rd_T24 xs i).f0) ∧ w.cell? ⟨(ad.add (i.toNat * 2)).block, (ad.add (i.toNat * 2)).off + 1, none⟩ = some (.int .i64 (rd_T24 xs i).f1) := by
 obtain ⟨ad, c, e, _, hK, hc0⟩ := Kd.C_get h z24 i h0 h1
 have hc : ∀ j u, c[j]? = some u → w.cell? (ad.add (i.toNat * 2 + j)) = some u := hc0
 obtain rfl := k24_open hK
 exact ⟨ad, e, hc 0 _ rfl, by rw [← add_field _ _ 1 (by omega)]; exact hc 1 _ rfl⟩
structure S70 where
 f0 : Int
 f1 : S24
def z70 : S70 := ⟨(0 : Int), z24⟩
def k70 : Kd S70 := Kd.iso (Kd.pair (Kd.int .i64) k24) (fun x : S70 => (x.f0, x.f1))
theorem k70_open {w : World} {x : S70} {cs : List Value} (h : k70.K w x cs) : cs = [.int .i64 x.f0, .int .i64 x.f1.f0, .int .i64 x.f1.f1] := by
 obtain ⟨_, _, rfl, rfl, s1⟩ := h
 obtain rfl := k24_open s1
 exact rfl
theorem k70_openM {w : World} {base : Nat} {ok : Nat → Prop} {x : S70} {cs : List Value} (h : k70.M w base ok x cs) : cs = [.int .i64 x.f0, .int .i64 x.f1.f0, .int .i64 x.f1.f1] := by
 obtain ⟨_, _, rfl, rfl, s1⟩ := h
 obtain rfl := k24_openM s1
 exact rfl
theorem k70_mk (w : World) (x : S70)  : k70.K w x [.int .i64 x.f0, .int .i64 x.f1.f0, .int .i64 x.f1.f1] := ⟨[.int .i64 x.f0], [.int .i64 x.f1.f0, .int .i64 x.f1.f1], rfl, rfl, (k24_mk w x.f1 )⟩
theorem k70_mkM (w : World) (base : Nat) (ok : Nat → Prop) (x : S70)  : k70.M w base ok x [.int .i64 x.f0, .int .i64 x.f1.f0, .int .i64 x.f1.f1] := ⟨[.int .i64 x.f0], [.int .i64 x.f1.f0, .int .i64 x.f1.f1], rfl, rfl, (k24_mkM w base ok x.f1 )⟩
def rd_T70 (xs : List S70) (i : Int) : S70 := xs.getD i.toNat z70
theorem at_T70 {w : World} {A : Option Addr} {n : Nat} {xs : List S70} (h : Kd.C k70 w A n xs) (i : Int) (h0 : 0 ≤ i) (h1 : i < n) : ∃ ad , A = some ad ∧ w.cell? (ad.add (i.toNat * 3)) = some (.int .i64 (rd_T70 xs i).f0) ∧ w.cell? ⟨(ad.add (i.toNat * 3)).block, (ad.add (i.toNat * 3)).off + 1, none⟩ = some (.int .i64 (rd_T70 xs i).f1.f0) ∧ w.cell? ⟨(ad.add (i.toNat * 3)).block, (ad.add (i.toNat * 3)).off + 2, none⟩ = some (.int .i64 (rd_T70 xs i).f1.f1) := by
 obtain ⟨ad, c, e, _, hK, hc0⟩ := Kd.C_get h z70 i h0 h1
 have hc : ∀ j u, c[j]? = some u → w.cell? (ad.add (i.toNat * 3 + j)) = some u := hc0
 obtain rfl := k70_open hK
 exact ⟨ad, e, hc 0 _ rfl, by rw [← add_field _ _ 1 (by omega)]; exact hc 1 _ rfl, by rw [← add_field _ _ 2 (by omega)]; exact hc 2 _ rfl⟩
end Go.Proofs.YtohlmoppcmjknaaGreatDoor.P
end
section
namespace Go.Proofs.YtohlmoppcmjknaaGreatDoor.P
open Go.RowKit Go.Proofs.YtohlmoppcmjknaaGreatDoorW.PrintWords Go.Proofs.YtohlmoppcmjknaaGreatDoorW.PrintLast Go.Proofs.YtohlmoppcmjknaaGreatDoorW.PrintMore
attribute [local go_sem] max2_int min2_int max_two min_two max_three min_three max_four min_four
set_option linter.unusedVariables false
set_option linter.unusedSimpArgs false
theorem eqA24 (d : Nat) (w : World) (x0 y0 : Int) (x1 y1 : Int) :
  (Op.equalIn (d + 2) 24 (.agg #[.int .i64 x0, .int .i64 x1]) (.agg #[.int .i64 y0, .int .i64 y1])).run Tryz.prog w = .ok (x0 == y0 && (x1 == y1)) w := by
 refine eqA_of Tryz.underlying24 (by kernel_rfl) ?_
 refine eqf_cons (by rfl) (by go_simp; rfl) (by go_simp; rfl) (by go_simp) ?_
 exact eqf_last (by rfl) (by go_simp; rfl) (by go_simp; rfl) (by go_simp)
end Go.Proofs.YtohlmoppcmjknaaGreatDoor.P
end
section
namespace Go.Proofs.YtohlmoppcmjknaaGreatDoor.P
open Go.RowKit Go.Proofs.YtohlmoppcmjknaaGreatDoorW.PrintWords Go.Proofs.YtohlmoppcmjknaaGreatDoorW.PrintLast Go.Proofs.YtohlmoppcmjknaaGreatDoorW.PrintMore
attribute [local go_sem] max2_int min2_int max_two min_two max_three min_three max_four min_four
set_option linter.unusedVariables false
set_option linter.unusedSimpArgs false
def column_isSheet.f (l0_0 : List Int) (a0_1 : Int) (a0_2 : Int) (a0_3 : Int) : Option (Bool) := some (Col.isSheet l0_0 a0_1 a0_2 a0_3)
end Go.Proofs.YtohlmoppcmjknaaGreatDoor.P
end
section
namespace Go.Proofs.YtohlmoppcmjknaaGreatDoor.P
open Go.RowKit Go.Proofs.YtohlmoppcmjknaaGreatDoorW.PrintWords Go.Proofs.YtohlmoppcmjknaaGreatDoorW.PrintLast Go.Proofs.YtohlmoppcmjknaaGreatDoorW.PrintMore
attribute [local go_sem] max2_int min2_int max_two min_two max_three min_three max_four min_four
set_option linter.unusedVariables false
set_option linter.unusedSimpArgs false
def column_in.f (a0 : Int) (a1 : Int) (a2 : Int) : Option (Bool) := if a0 ≥ a1 then (some (decide (a0 ≤ a2))) else (some false)
set_option maxHeartbeats 8000000 in
set_option maxRecDepth 100000 in
theorem column_in.calls (a0 : Int) (a1 : Int) (a2 : Int) (r : Bool) (w : World) (h : column_in.f a0 a1 a2 = some r) :
  Calls Tryz.prog 72 #[.int .i64 a0, .int .i64 a1, .int .i64 a2] w fun e w' => e = .returned (.bool r) ∧ Drawn0 w w' := by
 have H : (if a0 ≥ a1 then (some (decide (a0 ≤ a2))) else (some false)) = some r := h
 clear h
 by_cases c4 : a0 ≥ a1
 ·rw [if_pos c4] at H
  have c4b0 : decide (a1 ≤ a0) = true := decide_eq_true c4
  clear c4
  obtain rfl := Option.some.inj H
  go_enter Tryz.func72, Tryz.ntmps72
  go_wp2
  go_ret
  exact ⟨by first | rfl | (simp; done) | (simp [*]; done), by repeat (first | exact Drawn0.refl _ | apply Drawn0.step)⟩
 ·rw [if_neg c4] at H
  have c4b0 : decide (a1 ≤ a0) = false := decide_eq_false c4
  clear c4
  obtain rfl := Option.some.inj H
  go_enter Tryz.func72, Tryz.ntmps72
  go_wp2
  go_ret
  exact ⟨by first | rfl | (simp; done) | (simp [*]; done), by repeat (first | exact Drawn0.refl _ | apply Drawn0.step)⟩
end Go.Proofs.YtohlmoppcmjknaaGreatDoor.P
end
section
namespace Go.Proofs.YtohlmoppcmjknaaGreatDoor.P
open Go.RowKit Go.Proofs.YtohlmoppcmjknaaGreatDoorW.PrintWords Go.Proofs.YtohlmoppcmjknaaGreatDoorW.PrintLast Go.Proofs.YtohlmoppcmjknaaGreatDoorW.PrintMore
attribute [local go_sem] max2_int min2_int max_two min_two max_three min_three max_four min_four
set_option linter.unusedVariables false
set_option linter.unusedSimpArgs false
def column_hasRow.f (l0_0 : List Int) (a0_1 : Int) (a0_2 : Int) (a0_3 : Int) (a1 : Int) : Option (Bool) := (column_in.f a1 0 (wrap64 ((l0_0.length : Int) - 1))).bind fun t124 => (some t124)
set_option maxHeartbeats 8000000 in
set_option maxRecDepth 100000 in
theorem column_hasRow.calls (A0_0 : Option Addr) (c0_0 : Nat) (l0_0 : List Int) (a0_1 : Int) (a0_2 : Int) (a0_3 : Int) (a1 : Int) (r : Bool) (w : World) (hr0_0 : Kd.C (Kd.int .i64) w A0_0 l0_0.length l0_0) (hc0_0 : l0_0.length ≤ c0_0) (h : column_hasRow.f l0_0 a0_1 a0_2 a0_3 a1 = some r) :
  Calls Tryz.prog 64 #[.agg #[.slice A0_0 l0_0.length c0_0, .int .i64 a0_1, .int .i64 a0_2, .int .i64 a0_3], .int .i64 a1] w fun e w' => e = .returned (.bool r) ∧ Below w.heap.size w w' := by
 have hu26 := Tryz.underlying26
 have HR0_0 := Aside0.mk hr0_0
 have HC0_0 := Aside0.mk hc0_0
 clear hr0_0 hc0_0
 have HB := Aside0.mk (Below.refl w.heap.size w)
 have H : ((column_in.f a1 0 (wrap64 ((l0_0.length : Int) - 1))).bind fun t124 => (some t124)) = some r := h
 clear h
 replace H := Option.bind_eq_some_iff.mp H
 obtain ⟨t124, A30, H⟩ := H
 replace H : (some t124) = some r := H
 have A3 := Aside0.mk A30
 clear A30
 obtain rfl := Option.some.inj H
 go_enter Tryz.func64, Tryz.ntmps64
 go_wp2_with (first | ((with_reducible refine gate_dst (N := 2) rfl ?_); refine box_event ?hg (N := 2) ?hd (cs := #[.slice A0_0 l0_0.length c0_0, .int .i64 a0_1, .int .i64 a0_2, .int .i64 a0_3]) (t := 26) ?hr ?_; (case hd => rfl); (case hg => rfl); (case hr => first | (go_simp; done) | (go_simp; rfl)); intro gb123 hg w4 hbox hb; have n0_ := Aside0.mk (below_step (wup HB.out) hb); have n1_ := Aside0.mk (hbox); have n2_ := Aside0.mk ((by rw [hg]; exact (below_size (wup HB.out)) : w.heap.size ≤ gb123)); have n3_ := Aside0.mk ((by rw [hg]; exact (below_size (wup HB.out)) : w.heap.size ≤ gb123)); clear HB; have HB := n0_; have BK123 := n1_; have GW123 := n2_; have GE123 := n3_; clear n0_ n1_ n2_ n3_; clear hb hbox hg; have hcz5_0 : w4.cell? ⟨gb123, 0, none⟩ = some (.slice A0_0 l0_0.length c0_0) := (blk_cell BK123.out 0).trans rfl; have hcz5_1 : w4.cell? ⟨gb123, 1, none⟩ = some (.int .i64 a0_1) := (blk_cell BK123.out 1).trans rfl; have hcz5_2 : w4.cell? ⟨gb123, 2, none⟩ = some (.int .i64 a0_2) := (blk_cell BK123.out 2).trans rfl; have hcz5_3 : w4.cell? ⟨gb123, 3, none⟩ = some (.int .i64 a0_3) := (blk_cell BK123.out 3).trans rfl; have hfz5_0 := blk_frozen BK123.out 0; have hfz5_1 := blk_frozen BK123.out 1; have hfz5_2 := blk_frozen BK123.out 2; have hfz5_3 := blk_frozen BK123.out 3) | ((with_reducible refine gate_callee (f := 72) rfl ?_); refine goesL_ (some 10) rfl rfl Tryz.func72 (by kernel_rfl) rfl #[.int .i64 a1, .int .i64 0, .int .i64 (wrap64 ((l0_0.length : Int) - 1))] rfl (by (try simp only [List.map_toArray, List.map_cons, List.map_nil]); first | done | rfl | (simp only [List.length_drop, List.length_take]; rfl)) ?_; (with_reducible refine (column_in.calls a1 0 (wrap64 ((l0_0.length : Int) - 1)) t124 _ A3.out).mono ?_); rintro e w' ⟨rfl, ⟨nd, rfl⟩⟩; refine ⟨_, rfl, ?_⟩))
 go_ret
 exact ⟨by first | rfl | (simp [errW_none, errW_some] <;> rfl) | (simp [*, errW_none, errW_some] <;> rfl), by repeat (first | (with_reducible first | exact HB.out | apply below_alloc | apply pw_below_drewN | apply below_drew1 | refine below_set ?_ GE123.out) | exact HB.out)⟩
end Go.Proofs.YtohlmoppcmjknaaGreatDoor.P
end
section
namespace Go.Proofs.YtohlmoppcmjknaaGreatDoor.P
open Go.RowKit Go.Proofs.YtohlmoppcmjknaaGreatDoorW.PrintWords Go.Proofs.YtohlmoppcmjknaaGreatDoorW.PrintLast Go.Proofs.YtohlmoppcmjknaaGreatDoorW.PrintMore
attribute [local go_sem] max2_int min2_int max_two min_two max_three min_three max_four min_four
set_option linter.unusedVariables false
set_option linter.unusedSimpArgs false
def column_differences.f (l0 : List Int) (a1 : Int) : Option (List Int) := Col.fdiffs l0 a1
end Go.Proofs.YtohlmoppcmjknaaGreatDoor.P
end
section
namespace Go.Proofs.YtohlmoppcmjknaaGreatDoor.Col
def nth (l : List Int) (k : Nat) : Int := l.getD k 0
theorem nth_cons_zero (a : Int) (l : List Int) : nth (a :: l) 0 = a := rfl
theorem nth_cons_succ (a : Int) (l : List Int) (k : Nat) : nth (a :: l) (k + 1) = nth l k := rfl
theorem nth_mem {l : List Int} {k : Nat} (h : k < l.length) : nth l k ∈ l := by
 simp [nth, List.getD_eq_getElem?_getD, h]
theorem ext_nth {l m : List Int} (hl : l.length = m.length) (h : ∀ k, k < l.length → nth l k = nth m k) : l = m := by
 apply List.ext_getElem hl
 intro i h1 h2
 have := h i h1
 simpa [nth, List.getD_eq_getElem?_getD, h1, h2] using this
theorem nth_take {l : List Int} {n k : Nat} (h : k < n) : nth (l.take n) k = nth l k := by
 simp only [nth, List.getD_eq_getElem?_getD, List.getElem?_take, if_pos h]
theorem nth_drop {l : List Int} {n k : Nat} : nth (l.drop n) k = nth l (n + k) := by
 simp only [nth, List.getD_eq_getElem?_getD, List.getElem?_drop]
theorem nth_append_left {l m : List Int} {k : Nat} (h : k < l.length) : nth (l ++ m) k = nth l k := by
 simp only [nth, List.getD_eq_getElem?_getD, List.getElem?_append, if_pos h]
theorem nth_append_right {l m : List Int} {k : Nat} (h : l.length ≤ k) : nth (l ++ m) k = nth m (k - l.length) := by
 simp only [nth, List.getD_eq_getElem?_getD, List.getElem?_append, if_neg (Nat.not_lt.2 h)]
theorem nth_set {l : List Int} {i k : Nat} {x : Int} (h : i < l.length) : nth (l.set i x) k = if i = k then x else nth l k := by
 simp only [nth, List.getD_eq_getElem?_getD, List.getElem?_set]
 by_cases e : i = k
 ·subst e; simp [h]
 ·simp [e]
theorem diff1_length : ∀ l : List Int, (diff1 l).length = l.length - 1
 | [] => rfl
 | [_] => rfl
 | a :: b :: l => by simp [diff1, diff1_length (b :: l)]
theorem diff1_nth : ∀ (l : List Int) (k : Nat), k + 1 < l.length → nth (diff1 l) k = nth l (k + 1) - nth l k
 | a :: b :: l, 0, _ => rfl
 | a :: b :: l, k + 1, h => by
  show nth (diff1 (b :: l)) k = _
  rw [diff1_nth (b :: l) k (by simpa using h)]
  rfl
 | [_], k, h => by simp at h
 | [], k, h => by simp at h
theorem diffs_length (l : List Int) : ∀ n, (diffs n l).length = l.length - n
 | 0 => rfl
 | n + 1 => by rw [diffs, diff1_length, diffs_length l n]; omega
def mix (l : List Int) (i : Nat) : List Int := (diff1 l).take i ++ l.drop i
theorem mix_length {l : List Int} {i : Nat} (h : i ≤ l.length - 1) : (mix l i).length = l.length := by
 simp [mix, diff1_length]; omega
theorem mix_nth {l : List Int} {i k : Nat} (h : i ≤ l.length - 1) : nth (mix l i) k = if k < i then nth (diff1 l) k else nth l k := by
 unfold mix
 have hl : ((diff1 l).take i).length = i := by simp [diff1_length]; omega
 by_cases e : k < i
 ·rw [nth_append_left (by omega), nth_take e, if_pos e]
 ·rw [nth_append_right (by omega), nth_drop, hl, if_neg e]; congr 1; omega
theorem mix_zero (l : List Int) : mix l 0 = l := by simp [mix]
theorem mix_set {l : List Int} {i : Nat} (h : i + 1 < l.length) : (mix l i).set i (nth l (i + 1) - nth l i) = mix l (i + 1) := by
 have hm := mix_length (l := l) (i := i) (by omega)
 apply ext_nth
 ·rw [List.length_set, hm, mix_length (by omega)]
 ·intro k hk
  rw [nth_set (by omega), mix_nth (by omega), mix_nth (by omega)]
  by_cases e : i = k
  ·subst e; rw [if_pos rfl, if_pos (by omega), diff1_nth l i h]
  ·rw [if_neg e]
   by_cases e2 : k < i
   ·rw [if_pos e2, if_pos (by omega)]
   ·rw [if_neg e2, if_neg (by omega)]
theorem mix_take (l : List Int) : (mix l (l.length - 1)).take (l.length - 1) = diff1 l := by
 have h : ((diff1 l).take (l.length - 1)) = diff1 l := List.take_of_length_le (by rw [diff1_length]; omega)
 unfold mix
 rw [h, List.take_left' (by rw [diff1_length])]
def Bd (l : List Int) (b : Int) : Prop := ∀ x ∈ l, -b ≤ x ∧ x ≤ b
theorem Bd.nth {l : List Int} {b : Int} (h : Bd l b) (hb : 0 ≤ b) (k : Nat) : -b ≤ nth l k ∧ Col.nth l k ≤ b := by
 by_cases e : k < l.length
 ·exact h _ (nth_mem e)
 ·have : Col.nth l k = 0 := by simp [Col.nth, List.getD_eq_getElem?_getD, List.getElem?_eq_none (Nat.not_lt.1 e)]
  rw [this]; omega
theorem Bd.diff1 : ∀ {l : List Int} {b : Int}, Bd l b → Bd (diff1 l) (2 * b)
 | [], b, h => by intro x hx; simp [Col.diff1] at hx
 | [_], b, h => by intro x hx; simp [Col.diff1] at hx
 | a :: c :: l, b, h => by
  intro x hx
  rw [Col.diff1, List.mem_cons] at hx
  rcases hx with rfl | hx
  ·have h1 := h a (by simp)
   have h2 := h c (by simp)
   omega
  ·exact Bd.diff1 (fun y hy => h y (List.mem_cons_of_mem _ hy)) x hx
theorem Bd.diffs {l : List Int} {b : Int} (h : Bd l b) : ∀ n, Bd (diffs n l) (b * 2 ^ n)
 | 0 => by simpa [Col.diffs] using h
 | n + 1 => by
  have := (h.diffs n).diff1
  rw [show 2 * (b * 2 ^ n) = b * 2 ^ (n + 1) by rw [Int.pow_succ]; rw [Int.mul_comm, Int.mul_assoc]] at this
  exact this
theorem Bd.mono {l : List Int} {b c : Int} (h : Bd l b) (hc : b ≤ c) : Bd l c := fun x hx => by have := h x hx; omega
theorem bd_of_all {l : List Int} {b : Int} (h : (l.all fun n => inr n (-b) b) = true) : Bd l b := by
 intro x hx
 have := List.all_eq_true.1 h x hx
 simp [inr] at this
 exact this
def jumpingTo (ws : List Int) (lo hi : Int) (k : Nat) : List Int := ((List.range k).filter (jumpsAt ws lo hi)).map fun n : Nat => (n : Int)
theorem jumpingTo_zero (ws : List Int) (lo hi : Int) : jumpingTo ws lo hi 0 = [] := rfl
theorem jumpingTo_yes {ws : List Int} {lo hi : Int} {k : Nat} (h : jumpsAt ws lo hi k = true) : jumpingTo ws lo hi (k + 1) = jumpingTo ws lo hi k ++ [(k : Int)] := by
 simp [jumpingTo, List.range_succ, List.filter_append, h]
theorem jumpingTo_no {ws : List Int} {lo hi : Int} {k : Nat} (h : jumpsAt ws lo hi k = false) : jumpingTo ws lo hi (k + 1) = jumpingTo ws lo hi k := by
 simp [jumpingTo, List.range_succ, List.filter_append, h]
theorem jumpingTo_length (ws : List Int) (lo hi : Int) (k : Nat) : (jumpingTo ws lo hi k).length ≤ k := by
 have := List.length_filter_le (jumpsAt ws lo hi) (List.range k)
 simpa [jumpingTo] using this
theorem jumpingTo_all (ws : List Int) (lo hi : Int) : jumpingTo ws lo hi ws.length = jumping ws lo hi := rfl
end Go.Proofs.YtohlmoppcmjknaaGreatDoor.Col
end
section
namespace Go.Proofs.YtohlmoppcmjknaaGreatDoor.P
open Go.RowKit Go.Proofs.YtohlmoppcmjknaaGreatDoorW.PrintWords Go.Proofs.YtohlmoppcmjknaaGreatDoorW.PrintLast Go.Proofs.YtohlmoppcmjknaaGreatDoorW.PrintMore
attribute [local go_sem] max2_int min2_int max_two min_two max_three min_three max_four min_four
set_option linter.unusedVariables false
set_option linter.unusedSimpArgs false
def slices_Clone_int_int.f (l0 : List Int) : Option (List Int) := if l0.length ≤ 17592186044416 then some l0 else none
end Go.Proofs.YtohlmoppcmjknaaGreatDoor.P
end
section
namespace Go.Proofs.YtohlmoppcmjknaaGreatDoor.P
open Go.RowKit Go.Proofs.YtohlmoppcmjknaaGreatDoorW.PrintWords Go.Proofs.YtohlmoppcmjknaaGreatDoorW.PrintLast Go.Proofs.YtohlmoppcmjknaaGreatDoorW.PrintMore
attribute [local go_sem] max2_int min2_int max_two min_two max_three min_three max_four min_four
set_option linter.unusedVariables false
set_option linter.unusedSimpArgs false
def T_Same.l0 : Nat → List Int → List Int → Int → Option (Bool)
 | 0, _, _, _ => none
 | k + 1, x0, x1, x5 => if x5 < (x0.length : Int) then (if 0 ≤ x5 then (if x5 < (x1.length : Int) then (if (rd x0 x5) = (rd x1 x5) then (T_Same.l0 k x0 x1 (wrap64 (x5 + 1))) else (some false)) else (none)) else (none)) else (some true)
def T_Same.f (k : Nat) (l0 : List Int) (l1 : List Int) : Option (Bool) := if (l0.length : Int) = (l1.length : Int) then (T_Same.l0 k l0 l1 0) else (some false)
theorem T_Same.mono_l : ∀ k, (∀ y0 y1 y2, LeO (T_Same.l0 k y0 y1 y2) (T_Same.l0 (k + 1) y0 y1 y2))
 | 0 => fun _ _ _ r h => by simp [T_Same.l0] at h
 | k + 1 => by
  have ih0 := T_Same.mono_l k
  ·intro y0 y1 y2
   unfold T_Same.l0
   repeat' first
   | (with_reducible exact ih0 _ _ _)
   | (with_reducible exact LeO.refl _)
   | (with_reducible exact LeO.none _)
   | (with_reducible refine LeO.ite ?_ ?_)
   | (with_reducible refine LeO.bind ?_ (fun _ => ?_))
   | exact ih0 _ _ _
   | exact LeO.none _
   | refine LeO.ite ?_ ?_
   | refine LeO.bind ?_ (fun _ => ?_)
theorem T_Same.mono : ∀ a0 a1 k, LeO (T_Same.f k a0 a1) (T_Same.f (k + 1) a0 a1) := by
 intro a0 a1 k
 have ih0 := T_Same.mono_l k
 unfold T_Same.f
 repeat' first
   | (with_reducible exact ih0 _ _ _)
   | (with_reducible exact LeO.refl _)
   | (with_reducible exact LeO.none _)
   | (with_reducible refine LeO.ite ?_ ?_)
   | (with_reducible refine LeO.bind ?_ (fun _ => ?_))
   | exact ih0 _ _ _
   | exact LeO.none _
   | refine LeO.ite ?_ ?_
   | refine LeO.bind ?_ (fun _ => ?_)
set_option maxHeartbeats 8000000 in
set_option maxRecDepth 100000 in
theorem T_Same.calls (k : Nat) (A0 : Option Addr) (c0 : Nat) (l0 : List Int) (A1 : Option Addr) (c1 : Nat) (l1 : List Int) (r : Bool) (w : World) (hr0 : Kd.C (Kd.int .i64) w A0 l0.length l0) (hc0 : l0.length ≤ c0) (hr1 : Kd.C (Kd.int .i64) w A1 l1.length l1) (hc1 : l1.length ≤ c1) (h : T_Same.f k l0 l1 = some r) :
  Calls Tryz.prog 19 #[.slice A0 l0.length c0, .slice A1 l1.length c1] w fun e w' => e = .returned (.bool r) ∧ Drawn0 w w' := by
 have HR0 := Aside0.mk hr0
 have HC0 := Aside0.mk hc0
 clear hr0 hc0
 have HR1 := Aside0.mk hr1
 have HC1 := Aside0.mk hc1
 clear hr1 hc1
 have H : (if (l0.length : Int) = (l1.length : Int) then (T_Same.l0 k l0 l1 0) else (some false)) = some r := h
 clear h
 by_cases c3 : (l0.length : Int) = (l1.length : Int)
 ·rw [if_pos c3] at H
  have c3b0 : ((l0.length : Int) == (l1.length : Int)) = true := beq_iff_eq.mpr c3
  have c3b1 : ((l0.length : Int) != (l1.length : Int)) = false := bne_eq_false_iff_eq.mpr c3
  have c3b2 : (l0.length == l1.length) = true := by first | simpa using c3 | (simp at c3 ⊢; omega)
  clear c3
  have H' := Aside0.mk H
  clear H
  go_enter Tryz.func19, Tryz.ntmps19
  go_wp2
  repeat (go_quiet (fail); try go_wp2)
  go_loopg [5] k (fun kq v5 w' => ∃ (x5_1 : Int), v5 = .int .i64 x5_1 ∧ Aside0 (T_Same.l0 kq l0 l1 x5_1 = some r) ∧ Aside0 (kq ≤ k) ∧ Drawn0 w w')
  case atStart => exact ⟨(0), (by first | rfl | (simp; done) | (simp [*]; done)), H', ⟨Nat.le_refl _⟩, by repeat (first | exact Drawn0.refl _ | apply Drawn0.step)⟩
  case round =>
   clear H'
   obtain ⟨x5_1, rfl, HA, HK1, ⟨m1, rfl⟩⟩ := hrel
   cases gk with
   | zero => exact absurd HA.out (by simp [T_Same.l0])
   | succ k1 =>
    have H := HA.out
    clear HA
    simp only [T_Same.l0] at H
    by_cases c4 : x5_1 < (l0.length : Int)
    ·rw [if_pos c4] at H
     have c4b0 : decide (x5_1 < (l0.length : Int)) = true := decide_eq_true c4
     clear c4
     by_cases c5 : 0 ≤ x5_1
     ·rw [if_pos c5] at H
      have c5b0 : decide (0 ≤ x5_1) = true := decide_eq_true c5
      clear c5
      by_cases c6 : x5_1 < (l1.length : Int)
      ·rw [if_pos c6] at H
       have c6b0 : decide (x5_1 < (l1.length : Int)) = true := decide_eq_true c6
       clear c6
       by_cases c7 : (rd l0 x5_1) = (rd l1 x5_1)
       ·rw [if_pos c7] at H
        have c7b0 : ((rd l0 x5_1) == (rd l1 x5_1)) = true := beq_iff_eq.mpr c7
        have c7b1 : ((rd l0 x5_1) != (rd l1 x5_1)) = false := bne_eq_false_iff_eq.mpr c7
        clear c7
        have H' := Aside0.mk H
        clear H
        have p137 : 0 ≤ (x5_1 : Int) := of_decide_eq_true (by first | (with_reducible assumption) | assumption)
        have q137 : x5_1 < (l0.length : Int) := of_decide_eq_true (by first | (with_reducible assumption) | assumption)
        obtain ⟨ad137, e137, hx137_0⟩ := Kd.at_int HR0.out x5_1 p137 q137
        cases e137
        replace p137 := eq_true p137
        replace q137 := eq_true q137
        have p138 : 0 ≤ (x5_1 : Int) := of_decide_eq_true (by first | (with_reducible assumption) | assumption)
        have q138 : x5_1 < (l1.length : Int) := of_decide_eq_true (by first | (with_reducible assumption) | assumption)
        obtain ⟨ad138, e138, hx138_0⟩ := Kd.at_int HR1.out x5_1 p138 q138
        cases e138
        replace p138 := eq_true p138
        replace q138 := eq_true q138
        go_wp2
        repeat (go_quiet (fail); try go_wp2)
        go_roundg k1
        case measure => have := HK1.out; omega
        case rel => exact ⟨(wrap64 (x5_1 + 1)), (by first | rfl | (simp; done) | (simp [*]; done)), H', ⟨by have := HK1.out; omega⟩, by repeat (first | exact Drawn0.refl _ | apply Drawn0.step)⟩
       ·rw [if_neg c7] at H
        have c7b0 : ((rd l0 x5_1) == (rd l1 x5_1)) = false := beq_eq_false_iff_ne.mpr c7
        have c7b1 : ((rd l0 x5_1) != (rd l1 x5_1)) = true := bne_iff_ne.mpr c7
        obtain rfl := Option.some.inj H
        have p137 : 0 ≤ (x5_1 : Int) := of_decide_eq_true (by first | (with_reducible assumption) | assumption)
        have q137 : x5_1 < (l0.length : Int) := of_decide_eq_true (by first | (with_reducible assumption) | assumption)
        obtain ⟨ad137, e137, hx137_0⟩ := Kd.at_int HR0.out x5_1 p137 q137
        cases e137
        replace p137 := eq_true p137
        replace q137 := eq_true q137
        have p138 : 0 ≤ (x5_1 : Int) := of_decide_eq_true (by first | (with_reducible assumption) | assumption)
        have q138 : x5_1 < (l1.length : Int) := of_decide_eq_true (by first | (with_reducible assumption) | assumption)
        obtain ⟨ad138, e138, hx138_0⟩ := Kd.at_int HR1.out x5_1 p138 q138
        cases e138
        replace p138 := eq_true p138
        replace q138 := eq_true q138
        go_wp2
        repeat (go_quiet (fail); try go_wp2)
        go_ret
        exact ⟨by first | rfl | (simp; done) | (simp [*]; done), by repeat (first | exact Drawn0.refl _ | apply Drawn0.step)⟩
      ·rw [if_neg c6] at H
       exact absurd H (by simp)
     ·rw [if_neg c5] at H
      exact absurd H (by simp)
    ·rw [if_neg c4] at H
     have c4b0 : decide (x5_1 < (l0.length : Int)) = false := decide_eq_false c4
     clear c4
     obtain rfl := Option.some.inj H
     go_wp2
     repeat (go_quiet (fail); try go_wp2)
     go_ret
     exact ⟨by first | rfl | (simp; done) | (simp [*]; done), by repeat (first | exact Drawn0.refl _ | apply Drawn0.step)⟩
 ·rw [if_neg c3] at H
  have c3b0 : ((l0.length : Int) == (l1.length : Int)) = false := beq_eq_false_iff_ne.mpr c3
  have c3b1 : ((l0.length : Int) != (l1.length : Int)) = true := bne_iff_ne.mpr c3
  have c3b2 : (l0.length == l1.length) = false := by first | simpa using c3 | (simp at c3 ⊢; omega)
  obtain rfl := Option.some.inj H
  go_enter Tryz.func19, Tryz.ntmps19
  go_wp2
  repeat (go_quiet (fail); try go_wp2)
  go_ret
  exact ⟨by first | rfl | (simp; done) | (simp [*]; done), by repeat (first | exact Drawn0.refl _ | apply Drawn0.step)⟩
end Go.Proofs.YtohlmoppcmjknaaGreatDoor.P
end
section
namespace Go.Proofs.YtohlmoppcmjknaaGreatDoor.P
open Go.RowKit Go.Proofs.YtohlmoppcmjknaaGreatDoorW.PrintWords Go.Proofs.YtohlmoppcmjknaaGreatDoorW.PrintLast Go.Proofs.YtohlmoppcmjknaaGreatDoorW.PrintMore
attribute [local go_sem] max2_int min2_int max_two min_two max_three min_three max_four min_four
set_option linter.unusedVariables false
set_option linter.unusedSimpArgs false
def column_Wide.f (l0_0 : List Int) (a0_1 : Int) (a0_2 : Int) (a0_3 : Int) : Option (Int × Int × Int) := Col.fWide l0_0 a0_1 a0_2 a0_3
end Go.Proofs.YtohlmoppcmjknaaGreatDoor.P
end
section
namespace Go.Proofs.YtohlmoppcmjknaaGreatDoor.P
open Go.RowKit Go.Proofs.YtohlmoppcmjknaaGreatDoorW.PrintWords Go.Proofs.YtohlmoppcmjknaaGreatDoorW.PrintLast Go.Proofs.YtohlmoppcmjknaaGreatDoorW.PrintMore
attribute [local go_sem] max2_int min2_int max_two min_two max_three min_three max_four min_four
set_option linter.unusedVariables false
set_option linter.unusedSimpArgs false
def column_Jumps.f (l0_0 : List Int) (a0_1 : Int) (a0_2 : Int) (a0_3 : Int) : Option (List Int × Int) := Col.fJumps l0_0 a0_1 a0_2 a0_3
end Go.Proofs.YtohlmoppcmjknaaGreatDoor.P
end
section
namespace Go.Proofs.YtohlmoppcmjknaaGreatDoor.P
open Go.RowKit Go.Proofs.YtohlmoppcmjknaaGreatDoorW.PrintWords Go.Proofs.YtohlmoppcmjknaaGreatDoorW.PrintLast Go.Proofs.YtohlmoppcmjknaaGreatDoorW.PrintMore
attribute [local go_sem] max2_int min2_int max_two min_two max_three min_three max_four min_four
set_option linter.unusedVariables false
set_option linter.unusedSimpArgs false
def column_Order.f (l0_0 : List Int) (a0_1 : Int) (a0_2 : Int) (a0_3 : Int) : Option (Int × Int) := Col.fOrder l0_0 a0_1 a0_2 a0_3
end Go.Proofs.YtohlmoppcmjknaaGreatDoor.P
end
section
namespace Go.Proofs.YtohlmoppcmjknaaGreatDoor.P
open Go.RowKit Go.Proofs.YtohlmoppcmjknaaGreatDoorW.PrintWords Go.Proofs.YtohlmoppcmjknaaGreatDoorW.PrintLast Go.Proofs.YtohlmoppcmjknaaGreatDoorW.PrintMore
attribute [local go_sem] max2_int min2_int max_two min_two max_three min_three max_four min_four
set_option linter.unusedVariables false
set_option linter.unusedSimpArgs false
def column_Read.f (a0 : ByteArray) : Option (List Int × Int × Int × Int × Int) := Col.fRead a0
end Go.Proofs.YtohlmoppcmjknaaGreatDoor.P
end
section
namespace Go.Proofs.YtohlmoppcmjknaaGreatDoor.P
open Go.RowKit Go.Proofs.YtohlmoppcmjknaaGreatDoorW.PrintWords Go.Proofs.YtohlmoppcmjknaaGreatDoorW.PrintLast Go.Proofs.YtohlmoppcmjknaaGreatDoorW.PrintMore
attribute [local go_sem] max2_int min2_int max_two min_two max_three min_three max_four min_four
set_option linter.unusedVariables false
set_option linter.unusedSimpArgs false
def column_Wrong.f (l0_0 : List Int) (a0_1 : Int) (a0_2 : Int) (a0_3 : Int) : Option (List Int × Int) := Col.fWrong l0_0 a0_1 a0_2 a0_3
end Go.Proofs.YtohlmoppcmjknaaGreatDoor.P
end
section
namespace Go.Proofs.YtohlmoppcmjknaaGreatDoor.P
open Go.RowKit Go.Proofs.YtohlmoppcmjknaaGreatDoorW.PrintWords Go.Proofs.YtohlmoppcmjknaaGreatDoorW.PrintLast Go.Proofs.YtohlmoppcmjknaaGreatDoorW.PrintMore
attribute [local go_sem] max2_int min2_int max_two min_two max_three min_three max_four min_four
set_option linter.unusedVariables false
set_option linter.unusedSimpArgs false
def column_Count.f (l0_0 : List Int) (a0_1 : Int) (a0_2 : Int) (a0_3 : Int) : Option (Int × Int) := Col.fCount l0_0 a0_1 a0_2 a0_3
end Go.Proofs.YtohlmoppcmjknaaGreatDoor.P
end
section
namespace Go.Proofs.YtohlmoppcmjknaaGreatDoor.P
open Go.RowKit Go.Proofs.YtohlmoppcmjknaaGreatDoorW.PrintWords Go.Proofs.YtohlmoppcmjknaaGreatDoorW.PrintLast Go.Proofs.YtohlmoppcmjknaaGreatDoorW.PrintMore
attribute [local go_sem] max2_int min2_int max_two min_two max_three min_three max_four min_four
set_option linter.unusedVariables false
set_option linter.unusedSimpArgs false
def column_Suspect.f (l0_0 : List Int) (a0_1 : Int) (a0_2 : Int) (a0_3 : Int) : Option (List Int × Int) := Col.fSuspect l0_0 a0_1 a0_2 a0_3
end Go.Proofs.YtohlmoppcmjknaaGreatDoor.P
end
section
namespace Go.Proofs.YtohlmoppcmjknaaGreatDoor.P
open Go.RowKit Go.Proofs.YtohlmoppcmjknaaGreatDoorW.PrintWords Go.Proofs.YtohlmoppcmjknaaGreatDoorW.PrintLast Go.Proofs.YtohlmoppcmjknaaGreatDoorW.PrintMore
attribute [local go_sem] max2_int min2_int max_two min_two max_three min_three max_four min_four
set_option linter.unusedVariables false
set_option linter.unusedSimpArgs false
def L_span.f (a0 : Int) (a1 : Int) : Option (Int × Int) := some (a0, a1)
set_option maxHeartbeats 8000000 in
set_option maxRecDepth 100000 in
theorem L_span.calls (a0 : Int) (a1 : Int) (r1 : Int) (r2 : Int) (w : World) (h : L_span.f a0 a1 = some (r1, r2)) :
  Calls Tryz.prog 38 #[.int .i64 a0, .int .i64 a1] w fun e w' => e = .returned (.agg #[.int .i64 r1, .int .i64 r2]) ∧ Below w.heap.size w w' := by
 have hu24 := Tryz.underlying24
 have HB := Aside0.mk (Below.refl w.heap.size w)
 have H : (some (a0, a1)) = some (r1, r2) := h
 clear h
 simp only [Option.some.injEq, Prod.mk.injEq] at H
 obtain ⟨rfl, rfl⟩ := H
 go_enter Tryz.func38, Tryz.ntmps38
 go_wp2_with (first | ((with_reducible refine gate_dst (N := 4) rfl ?_); refine box_event ?hg (N := 4) ?hd (cs := #[.int .i64 0, .int .i64 0]) (t := 24) ?hr ?_; (case hd => rfl); (case hg => rfl); (case hr => first | (go_simp; done) | (go_simp; rfl)); intro gb340 hg w3 hbox hb; have n0_ := Aside0.mk (below_step (wup HB.out) hb); have n1_ := Aside0.mk (hbox); have n2_ := Aside0.mk ((by rw [hg]; exact (below_size (wup HB.out)) : w.heap.size ≤ gb340)); have n3_ := Aside0.mk ((by rw [hg]; exact (below_size (wup HB.out)) : w.heap.size ≤ gb340)); clear HB; have HB := n0_; have BK340 := n1_; have GW340 := n2_; have GE340 := n3_; clear n0_ n1_ n2_ n3_; clear hb hbox hg; have hcz4_0 : w3.cell? ⟨gb340, 0, none⟩ = some (.int .i64 0) := (blk_cell BK340.out 0).trans rfl; have hcz4_1 : w3.cell? ⟨gb340, 1, none⟩ = some (.int .i64 0) := (blk_cell BK340.out 1).trans rfl; have hfz4_0 := blk_frozen BK340.out 0; have hfz4_1 := blk_frozen BK340.out 1))
 refine bodyPost_ret (results_cell_row rfl _ _ gb340 24 #[.int .i64 a0, .int .i64 a1] (0, 0) _ rfl (by (with_reducible repeat (first | refine blk_drewN ?_ _ | refine blk_drew ?_ | refine blk_alloc ?_ _)); refine blk_put (cs := #[.int .i64 a0, .int .i64 0]) ?_ 1 _ rfl; (with_reducible repeat (first | refine blk_drewN ?_ _ | refine blk_drew ?_ | refine blk_alloc ?_ _)); refine blk_put (cs := #[.int .i64 0, .int .i64 0]) ?_ 0 _ rfl; (with_reducible repeat (first | refine blk_drewN ?_ _ | refine blk_drew ?_ | refine blk_alloc ?_ _)); exact BK340.out) Tryz.underlying24 rfl (by kernel_rfl)) rfl ?_
 exact ⟨by first | rfl | (simp [errW_none, errW_some] <;> rfl) | (simp [*, errW_none, errW_some] <;> rfl), by repeat (first | (with_reducible first | exact HB.out | apply below_alloc | apply pw_below_drewN | apply below_drew1 | refine below_set ?_ GE340.out) | exact HB.out)⟩
end Go.Proofs.YtohlmoppcmjknaaGreatDoor.P
end
section
namespace Go.Proofs.YtohlmoppcmjknaaGreatDoor.P
open Go.RowKit Go.Proofs.YtohlmoppcmjknaaGreatDoorW.PrintWords Go.Proofs.YtohlmoppcmjknaaGreatDoorW.PrintLast Go.Proofs.YtohlmoppcmjknaaGreatDoorW.PrintMore
attribute [local go_sem] max2_int min2_int max_two min_two max_three min_three max_four min_four
set_option linter.unusedVariables false
set_option linter.unusedSimpArgs false
def column_between.f (l0_0 : List Int) (a0_1 : Int) (a0_2 : Int) (a0_3 : Int) (a1 : Int) : Option (Int × Int) := Col.fbetween l0_0 a0_1 a0_2 a0_3 a1
end Go.Proofs.YtohlmoppcmjknaaGreatDoor.P
end
section
namespace Go.Proofs.YtohlmoppcmjknaaGreatDoor.P
open Go.RowKit Go.Proofs.YtohlmoppcmjknaaGreatDoorW.PrintWords Go.Proofs.YtohlmoppcmjknaaGreatDoorW.PrintLast Go.Proofs.YtohlmoppcmjknaaGreatDoorW.PrintMore
attribute [local go_sem] max2_int min2_int max_two min_two max_three min_three max_four min_four
set_option linter.unusedVariables false
set_option linter.unusedSimpArgs false
def column_runs.f (l0_0 : List Int) (a0_1 : Int) (a0_2 : Int) (a0_3 : Int) : Option (Bool) := Col.fruns l0_0 a0_1 a0_2 a0_3
end Go.Proofs.YtohlmoppcmjknaaGreatDoor.P
end
section
namespace Go.Proofs.YtohlmoppcmjknaaGreatDoor.Col
def rowsOf (i m : Nat) : List (Int × Int) := (List.range m).map fun r : Nat => ((i : Int), (i : Int) + (r : Int))
def metsTo (ws : List Int) (o lo hi : Int) (k : Nat) : List (Int × Int) := (List.range k).flatMap fun i => if jumpsAt ws lo hi i = true then rowsOf i (o.toNat + 1) else []
theorem rowsOf_zero (i : Nat) : rowsOf i 0 = [] := rfl
theorem rowsOf_succ (i m : Nat) : rowsOf i (m + 1) = rowsOf i m ++ [((i : Int), (i : Int) + (m : Int))] := by simp [rowsOf, List.range_succ]
theorem metsTo_zero (ws : List Int) (o lo hi : Int) : metsTo ws o lo hi 0 = [] := rfl
theorem metsTo_yes {ws : List Int} {o lo hi : Int} {k : Nat} (h : jumpsAt ws lo hi k = true) : metsTo ws o lo hi (k + 1) = metsTo ws o lo hi k ++ rowsOf k (o.toNat + 1) := by
 simp [metsTo, List.range_succ, h]
theorem metsTo_no {ws : List Int} {o lo hi : Int} {k : Nat} (h : jumpsAt ws lo hi k = false) : metsTo ws o lo hi (k + 1) = metsTo ws o lo hi k := by
 simp [metsTo, List.range_succ, h]
theorem mem_rowsOf {i m : Nat} {x : Int × Int} : x ∈ rowsOf i m ↔ x.1 = i ∧ (i : Int) ≤ x.2 ∧ x.2 < i + m := by
 unfold rowsOf
 rw [List.mem_map]
 constructor
 ·rintro ⟨r, hr, rfl⟩
  have := List.mem_range.1 hr
  exact ⟨rfl, by simp; omega, by simp; omega⟩
 ·rintro ⟨h1, h2, h3⟩
  refine ⟨(x.2 - i).toNat, List.mem_range.2 (by omega), ?_⟩
  obtain ⟨a, b⟩ := x
  simp only at h1 h2 h3
  subst h1
  simp only [Prod.mk.injEq, true_and]
  omega
theorem mem_metsTo {ws : List Int} {o lo hi : Int} {k : Nat} {x : Int × Int} : x ∈ metsTo ws o lo hi k ↔ ∃ i, i < k ∧ jumpsAt ws lo hi i = true ∧ x.1 = (i : Int) ∧ (i : Int) ≤ x.2 ∧ x.2 < i + (o.toNat + 1 : Nat) := by
 unfold metsTo
 rw [List.mem_flatMap]
 constructor
 ·rintro ⟨i, hi, hx⟩
  split at hx
  ·rename_i hj
   exact ⟨i, List.mem_range.1 hi, hj, mem_rowsOf.1 hx⟩
  ·cases hx
 ·rintro ⟨i, hi, hj, hx⟩
  exact ⟨i, List.mem_range.2 hi, by rw [if_pos hj]; exact mem_rowsOf.2 hx⟩
theorem new_place (ws : List Int) (o lo hi : Int) (k m : Nat) : (metsTo ws o lo hi k ++ rowsOf k m).contains ((k : Int), (k : Int) + (m : Int)) = false := by
 rw [List.contains_eq_any_beq, List.any_eq_false]
 intro x hx he
 have e : x = ((k : Int), (k : Int) + (m : Int)) := by simpa using (beq_iff_eq.1 he).symm
 subst e
 rcases List.mem_append.1 hx with h | h
 ·obtain ⟨i, hi, _, h1, _⟩ := mem_metsTo.1 h
  simp only at h1
  omega
 ·have := (mem_rowsOf.1 h).2.2
  simp only at this
  omega
theorem met_iff {ws : List Int} {o lo hi : Int} (ho : 0 ≤ o) {i : Nat} (hi_ : i < ws.length) (hj : jumpsAt ws lo hi i = true) (r : Int) : (metsTo ws o lo hi ws.length).contains ((i : Int), r) = inr r i (i + o) := by
 rw [Bool.eq_iff_iff, List.contains_iff_mem, mem_metsTo]
 simp only [inr, Bool.and_eq_true, decide_eq_true_eq]
 constructor
 ·rintro ⟨j, _, _, h1, h2, h3⟩
  omega
 ·rintro ⟨h1, h2⟩
  exact ⟨i, hi_, hj, rfl, h1, by omega⟩
end Go.Proofs.YtohlmoppcmjknaaGreatDoor.Col
end
section
namespace Go.Proofs.YtohlmoppcmjknaaGreatDoor.P
open Go.RowKit Go.Proofs.YtohlmoppcmjknaaGreatDoorW.PrintWords Go.Proofs.YtohlmoppcmjknaaGreatDoorW.PrintLast Go.Proofs.YtohlmoppcmjknaaGreatDoorW.PrintMore
attribute [local go_sem] max2_int min2_int max_two min_two max_three min_three max_four min_four
set_option linter.unusedVariables false
set_option linter.unusedSimpArgs false
def column_Proof.f (l0_0 : List Int) (a0_1 : Int) (a0_2 : Int) (a0_3 : Int) : Option (List Int × Int) := Col.fProof l0_0 a0_1 a0_2 a0_3
end Go.Proofs.YtohlmoppcmjknaaGreatDoor.P
end
section
namespace Go.Proofs.YtohlmoppcmjknaaGreatDoor.P
open Go.RowKit Go.Proofs.YtohlmoppcmjknaaGreatDoorW.PrintWords Go.Proofs.YtohlmoppcmjknaaGreatDoorW.PrintLast Go.Proofs.YtohlmoppcmjknaaGreatDoorW.PrintMore
attribute [local go_sem] max2_int min2_int max_two min_two max_three min_three max_four min_four
set_option linter.unusedVariables false
set_option linter.unusedSimpArgs false
def column_Least.f (l0_0 : List Int) (a0_1 : Int) (a0_2 : Int) (a0_3 : Int) : Option (Int × Int × Int) := Col.fLeast l0_0 a0_1 a0_2 a0_3
end Go.Proofs.YtohlmoppcmjknaaGreatDoor.P
end
section
namespace Go.Proofs.YtohlmoppcmjknaaGreatDoor.P
open Go.RowKit Go.Proofs.YtohlmoppcmjknaaGreatDoorW.PrintWords Go.Proofs.YtohlmoppcmjknaaGreatDoorW.PrintLast Go.Proofs.YtohlmoppcmjknaaGreatDoorW.PrintMore
attribute [local go_sem] max2_int min2_int max_two min_two max_three min_three max_four min_four
set_option linter.unusedVariables false
set_option linter.unusedSimpArgs false
def column_Swaps.f (l0_0 : List Int) (a0_1 : Int) (a0_2 : Int) (a0_3 : Int) : Option (List Int × Int) := some (if Col.isSheet l0_0 a0_1 a0_2 a0_3 = true then (((List.range (l0_0.length - 1)).filter fun j => Col.runs ((l0_0.set j (l0_0.getD (j + 1) 0)).set (j + 1) (l0_0.getD j 0)) a0_1 a0_2 a0_3).map fun n : Nat => (n : Int), 0) else ([], 2))
end Go.Proofs.YtohlmoppcmjknaaGreatDoor.P
end
section
namespace Go.Proofs.YtohlmoppcmjknaaGreatDoor.P
open Go.RowKit Go.Proofs.YtohlmoppcmjknaaGreatDoorW.PrintWords Go.Proofs.YtohlmoppcmjknaaGreatDoorW.PrintLast Go.Proofs.YtohlmoppcmjknaaGreatDoorW.PrintMore
attribute [local go_sem] max2_int min2_int max_two min_two max_three min_three max_four min_four
set_option linter.unusedVariables false
set_option linter.unusedSimpArgs false
def column_Insert.f (l0_0 : List Int) (a0_1 : Int) (a0_2 : Int) (a0_3 : Int) : Option ((List (S70)) × Int) := some ((Col.fInsert l0_0 a0_1 a0_2 a0_3).1.map fun x => (⟨x.1, ⟨x.2.1, x.2.2⟩⟩ : S70), (Col.fInsert l0_0 a0_1 a0_2 a0_3).2)
end Go.Proofs.YtohlmoppcmjknaaGreatDoor.P
end
section
namespace Go.Proofs.YtohlmoppcmjknaaGreatDoor.P
open Go.RowKit Go.Proofs.YtohlmoppcmjknaaGreatDoorW.PrintWords Go.Proofs.YtohlmoppcmjknaaGreatDoorW.PrintLast Go.Proofs.YtohlmoppcmjknaaGreatDoorW.PrintMore
attribute [local go_sem] max2_int min2_int max_two min_two max_three min_three max_four min_four
set_option linter.unusedVariables false
set_option linter.unusedSimpArgs false
mutual
def T_Decimal.j0 : Nat → Int → Bool → Option (ByteArray)
 | 0, _, _ => none
 | k + 1, x0, x8 => if x8 = true then ((some (([(wrap64 (48 - x0)) % 256] : List Int) : List Int)).bind fun y675 => (if 1 + (strOfNums y675).size ≤ 9223372036854775807 then (some ((⟨#[45]⟩ : ByteArray) ++ (strOfNums y675))) else (none))) else (if x0 < 0 then ((T_Decimal.f k (wrap64 (Int.tdiv x0 10))).bind fun t678 => ((some (([(wrap64 (48 - (Int.tmod x0 10))) % 256] : List Int) : List Int)).bind fun y679 => (if t678.size + (strOfNums y679).size ≤ 9223372036854775807 then (some (t678 ++ (strOfNums y679))) else (none)))) else (if x0 < 10 then (some (strOfNums (([(wrap64 (48 + x0)) % 256] : List Int)))) else ((T_Decimal.f k (wrap64 (Int.tdiv x0 10))).bind fun t685 => ((some (([(wrap64 (48 + (Int.tmod x0 10))) % 256] : List Int) : List Int)).bind fun y686 => (if t685.size + (strOfNums y686).size ≤ 9223372036854775807 then (some (t685 ++ (strOfNums y686))) else (none))))))
def T_Decimal.f : Nat → Int → Option (ByteArray)
 | 0, _ => none
 | k + 1, a0 => if a0 > (-10) then (T_Decimal.j0 k a0 (decide (a0 < 0))) else (T_Decimal.j0 k a0 false)
end
theorem T_Decimal.mono_l : ∀ k, (∀ y0, LeO (T_Decimal.f k y0) (T_Decimal.f (k + 1) y0)) ∧ (∀ y0 y1, LeO (T_Decimal.j0 k y0 y1) (T_Decimal.j0 (k + 1) y0 y1))
 | 0 => ⟨fun _ r h => by simp [T_Decimal.f] at h, fun _ _ r h => by simp [T_Decimal.j0] at h⟩
 | k + 1 => by
  obtain ⟨ih0, ih1⟩ := T_Decimal.mono_l k
  refine ⟨?_, ?_⟩
  ·intro y0
   unfold T_Decimal.f
   repeat' first
   | (with_reducible exact ih0 _)
   | (with_reducible exact ih1 _ _)
   | (with_reducible exact LeO.refl _)
   | (with_reducible exact LeO.none _)
   | (with_reducible refine LeO.ite ?_ ?_)
   | (with_reducible refine LeO.bind ?_ (fun _ => ?_))
   | exact ih0 _
   | exact ih1 _ _
   | exact LeO.none _
   | refine LeO.ite ?_ ?_
   | refine LeO.bind ?_ (fun _ => ?_)
  ·intro y0 y1
   unfold T_Decimal.j0
   repeat' first
   | (with_reducible exact ih0 _)
   | (with_reducible exact ih1 _ _)
   | (with_reducible exact LeO.refl _)
   | (with_reducible exact LeO.none _)
   | (with_reducible refine LeO.ite ?_ ?_)
   | (with_reducible refine LeO.bind ?_ (fun _ => ?_))
   | exact ih0 _
   | exact ih1 _ _
   | exact LeO.none _
   | refine LeO.ite ?_ ?_
   | refine LeO.bind ?_ (fun _ => ?_)
theorem T_Decimal.mono : ∀ a0 k, LeO (T_Decimal.f k a0) (T_Decimal.f (k + 1) a0) := by
 intro a0 k
 obtain ⟨ih0, ih1⟩ := T_Decimal.mono_l k
 exact ih0 a0
def T_Decimal.T4 : Bool × List (List Nat × List Nat) := (true, [([], []), ([0], [0]), ([1], [1]), ([], []), ([3], [3]), ([4], [4]), ([5], [5]), ([6], [6]), ([7], [7]), ([2, 8], [2, 8]), ([9, 2, 0, 1, 2, 3, 4, 5, 6, 7, 8, 9], [9])])
def T_Decimal.B4 : List Nat := [0, 1, 3, 0, 8, 24, 56, 120, 248, 511, 1023]
theorem T_Decimal.tab4 : rtab .any (opsOf Tryz.f126 4) = T_Decimal.T4 := by kernel_rfl
theorem T_Decimal.bits4 : waitsOk T_Decimal.T4.2 T_Decimal.B4 = true := by kernel_rfl
def T_Decimal.T7 : Bool × List (List Nat × List Nat) := (true, [([], []), ([0], [0]), ([1], [1]), ([], []), ([3], [3]), ([4], [4]), ([5], [5]), ([6], [6]), ([7], [7]), ([2, 8], [2, 8]), ([9, 2, 0, 1, 2, 3, 4, 5, 6, 7, 8, 9], [9])])
def T_Decimal.B7 : List Nat := [0, 1, 3, 0, 8, 24, 56, 120, 248, 511, 1023]
theorem T_Decimal.tab7 : rtab .any (opsOf Tryz.f126 7) = T_Decimal.T7 := by kernel_rfl
theorem T_Decimal.bits7 : waitsOk T_Decimal.T7.2 T_Decimal.B7 = true := by kernel_rfl
set_option maxHeartbeats 8000000 in
set_option maxRecDepth 100000 in
theorem T_Decimal.calls (k : Nat) : ∀ (a0 : Int) (r : ByteArray) (w : World) (h : T_Decimal.f k a0 = some r),
  Calls Tryz.prog 126 #[.int .i64 a0] w fun e w' => e = .returned (.string r) ∧ Below w.heap.size w w' := by
 induction k using Nat.strongRecOn with
 | _ k ih =>
 intro a0 r w h
 cases k with
 | zero => exact absurd h (by simp [T_Decimal.f])
 | succ k =>
 simp only [T_Decimal.f] at h
 have HB := Aside0.mk (Below.refl w.heap.size w)
 have H : (if a0 > (-10) then (T_Decimal.j0 k a0 (decide (a0 < 0))) else (T_Decimal.j0 k a0 false)) = some r := h
 clear h
 have HC2 := Aside0.mk H
 clear H
 go_enter Tryz.func126, Tryz.ntmps126
 go_upto_region 1 with (fail)
 go_cut [8] (fun v8 wc => ∃ (kq : Nat) (x8_1 : Bool), v8 = .bool x8_1 ∧ Aside0 (T_Decimal.j0 kq a0 x8_1 = some r) ∧ Aside0 (kq ≤ k) ∧ Aside0 (Below w.heap.size w wc))
 case first =>
  have H := HC2.out
  clear HC2
  by_cases c3 : a0 > (-10)
  ·rw [if_pos c3] at H
   have c3b0 : decide ((-10) < a0) = true := decide_eq_true c3
   clear c3
   (first | rw [c3b0] | (simp only [i64_w, i32_w]; rw [c3b0]) | skip)
   have H' := Aside0.mk H
   clear H
   go_wp2
   go_meet
   case rel => exact ⟨_, (decide (a0 < 0)), (by first | rfl | (simp; done) | (simp [*]; done)), H', ⟨by first | omega | exact Nat.le_refl _⟩, ⟨by repeat (first | (with_reducible first | exact HB.out | apply below_alloc | apply pw_below_drewN | apply below_drew1) | exact HB.out)⟩⟩
  ·rw [if_neg c3] at H
   have c3b0 : decide ((-10) < a0) = false := decide_eq_false c3
   clear c3
   (first | rw [c3b0] | (simp only [i64_w, i32_w]; rw [c3b0]) | skip)
   have H' := Aside0.mk H
   clear H
   go_wp2
   go_meet
   case rel => exact ⟨_, (false), (by first | rfl | (simp; done) | (simp [*]; done)), H', ⟨by first | omega | exact Nat.le_refl _⟩, ⟨by repeat (first | (with_reducible first | exact HB.out | apply below_alloc | apply pw_below_drewN | apply below_drew1) | exact HB.out)⟩⟩
 case rest =>
  clear HC2
  obtain ⟨kq, x8_1, rfl, HA, HJ1, HB⟩ := hcut
  cases kq with
  | zero => exact absurd HA.out (by simp [T_Decimal.j0])
  | succ kj1 =>
   have H := HA.out
   clear HA
   simp only [T_Decimal.j0] at H
   by_cases c4 : x8_1 = true
   ·subst c4
    have H1 : ((some (([(wrap64 (48 - a0)) % 256] : List Int) : List Int)).bind fun y675 => (if 1 + (strOfNums y675).size ≤ 9223372036854775807 then (some ((⟨#[45]⟩ : ByteArray) ++ (strOfNums y675))) else (none))) = some r := by rw [if_pos rfl] at H; exact H
    clear H
    have H := H1
    clear H1
    obtain ⟨y675, hy675⟩ : ∃ y_ : List Int, y_ = (([(wrap64 (48 - a0)) % 256] : List Int)) := ⟨_, rfl⟩
    replace H : (if 1 + (strOfNums y675).size ≤ 9223372036854775807 then (some ((⟨#[45]⟩ : ByteArray) ++ (strOfNums y675))) else (none)) = some r := by first | (rw [hy675]; with_reducible exact H) | (have H2_ := (Option.bind_some _ _).symm.trans H; rw [hy675]; with_reducible exact H2_) | (have H2_ := (Option.bind_some _ _).symm.trans H; with_reducible exact H2_) | with_reducible exact H | (rw [hy675]; exact H) | exact H
    have Ny675 := Aside0.mk hy675
    clear hy675
    by_cases c5 : 1 + (strOfNums y675).size ≤ 9223372036854775807
    ·rw [if_pos c5] at H
     have c5b0 := eq_true c5
     have c5b1 : decide (1 + (strOfNums y675).size ≤ 9223372036854775807) = true := decide_eq_true c5
     try have c5b2 : (9223372036854775807 < 1 + (strOfNums y675).size) = False := eq_false (Nat.not_lt.2 c5)
     obtain rfl := Option.some.inj H
     go_wp2_with (first | ((with_reducible refine gate_dst (N := 12) rfl ?_); refine Kd.R_lit (Kd.int .u8) _ 5 ?hg (N := 12) ?hd (xs := ([(wrap64 (48 - a0)) % 256] : List Int)) (inner := [.int .u8 ((wrap64 (48 - a0)) % 256)]) (ok := fun _ => True) (okp := fun _ => True) ?hr ?hp (fun _ hk => hk) trivial (Below.refl _ _) (Nat.le_refl _) (by simp) ?_; (case hd => rfl); (case hg => rfl); (case hr => first | (go_simp; done) | (go_simp; rfl)); (case hp => exact (Reps.one (show Kd.M (Kd.int .u8) _ _ _ ((wrap64 (48 - a0)) % 256) [.int .u8 ((wrap64 (48 - a0)) % 256)] from rfl) (Reps.none _ _))); intro v676 w6 ho7 hb hg_ hnew_; clear hg_ hnew_; (first | rw [← Ny675.out] at ho7 | (simp only [Int.reduceToNat] at ho7; rw [← Ny675.out] at ho7)); have n0_ := Aside0.mk (Kd.R_lower ho7 (below_size (wup HB.out))); have n1_ := Aside0.mk (below_step (wup HB.out) hb); clear HB; have HO677 := n0_; have HB := n1_; clear n0_ n1_; clear hb ho7; have hcv8 := own_string (P := Tryz.prog) Tryz.underlying43 Tryz.underlying5 Tryz.underlying9 (Kd.own_of_R HO677.out)))
     go_ret
     exact ⟨by first | rfl | (simp [errW_none, errW_some] <;> rfl) | (simp [*, errW_none, errW_some] <;> rfl), by repeat (first | (with_reducible first | exact HB.out | apply below_alloc | apply pw_below_drewN | apply below_drew1) | exact HB.out)⟩
    ·rw [if_neg c5] at H
     exact absurd H (by simp)
   ·replace c4 := Bool.eq_false_iff.mpr c4
    subst c4
    have H1 : (if a0 < 0 then ((T_Decimal.f kj1 (wrap64 (Int.tdiv a0 10))).bind fun t678 => ((some (([(wrap64 (48 - (Int.tmod a0 10))) % 256] : List Int) : List Int)).bind fun y679 => (if t678.size + (strOfNums y679).size ≤ 9223372036854775807 then (some (t678 ++ (strOfNums y679))) else (none)))) else (if a0 < 10 then (some (strOfNums (([(wrap64 (48 + a0)) % 256] : List Int)))) else ((T_Decimal.f kj1 (wrap64 (Int.tdiv a0 10))).bind fun t685 => ((some (([(wrap64 (48 + (Int.tmod a0 10))) % 256] : List Int) : List Int)).bind fun y686 => (if t685.size + (strOfNums y686).size ≤ 9223372036854775807 then (some (t685 ++ (strOfNums y686))) else (none)))))) = some r := by rw [if_neg (show ¬ (false = true) by decide)] at H; exact H
    clear H
    have H := H1
    clear H1
    by_cases c9 : a0 < 0
    ·rw [if_pos c9] at H
     have c9b0 : decide (a0 < 0) = true := decide_eq_true c9
     clear c9
     replace H := Option.bind_eq_some_iff.mp H
     obtain ⟨t678, A100, H⟩ := H
     replace H : ((some (([(wrap64 (48 - (Int.tmod a0 10))) % 256] : List Int) : List Int)).bind fun y679 => (if t678.size + (strOfNums y679).size ≤ 9223372036854775807 then (some (t678 ++ (strOfNums y679))) else (none))) = some r := H
     have A10 := Aside0.mk A100
     clear A100
     obtain ⟨y679, hy679⟩ : ∃ y_ : List Int, y_ = (([(wrap64 (48 - (Int.tmod a0 10))) % 256] : List Int)) := ⟨_, rfl⟩
     replace H : (if t678.size + (strOfNums y679).size ≤ 9223372036854775807 then (some (t678 ++ (strOfNums y679))) else (none)) = some r := by first | (rw [hy679]; with_reducible exact H) | (have H2_ := (Option.bind_some _ _).symm.trans H; rw [hy679]; with_reducible exact H2_) | (have H2_ := (Option.bind_some _ _).symm.trans H; with_reducible exact H2_) | with_reducible exact H | (rw [hy679]; exact H) | exact H
     have Ny679 := Aside0.mk hy679
     clear hy679
     by_cases c11 : t678.size + (strOfNums y679).size ≤ 9223372036854775807
     ·rw [if_pos c11] at H
      have c11b0 := eq_true c11
      have c11b1 : decide (t678.size + (strOfNums y679).size ≤ 9223372036854775807) = true := decide_eq_true c11
      try have c11b2 : (9223372036854775807 < t678.size + (strOfNums y679).size) = False := eq_false (Nat.not_lt.2 c11)
      obtain rfl := Option.some.inj H
      try go_wp2
      have n0_ := Aside0.mk (below_drew1 HB.out)
      clear HB
      have HB := n0_
      clear n0_
      refine start_ (n := 11) (S := fun w' => True) (ds := []) #[false,false,false,false,false,false,false,false,false,false,false] (by kernel_rfl) rfl rfl trivial (fun hHeld => ?_); refine with_tabW T_Decimal.tab4 T_Decimal.bits4 (fun HT_ HW_ => ?_)
      generalize wc.drew = w12 at HB hHeld ⊢
      refine pure_ (i := 0) (N := some 17) (v := ?_) (a' := ?_) #[true,false,false,false,false,false,false,false,false,false,false] rfl rfl (any_of HT_.out (by kernel_rfl)) (fun _ _ _ h => h) (Or.inl ⟨by rfl, ?_⟩) ?_ ?_
      rotate_left
      ·intro w'
       go_simp
       with_reducible rfl
      rotate_left
      ·simp only [Act.put, List.setIfInBounds_toArray, List.set_cons_zero, List.set_cons_succ, i64_w, i32_w]
       rfl
      refine pure_ (i := 1) (N := some 18) (v := ?_) (a' := ?_) #[true,true,false,false,false,false,false,false,false,false,false] rfl rfl (any_of HT_.out (by kernel_rfl)) (fun _ _ _ h => h) (Or.inl ⟨by rfl, ?_⟩) ?_ ?_
      rotate_left
      ·intro w'
       go_simp
       with_reducible rfl
      rotate_left
      ·simp only [Act.put, List.setIfInBounds_toArray, List.set_cons_zero, List.set_cons_succ, i64_w, i32_w]
       rfl
      refine pure_ (i := 3) (N := some 20) (v := ?_) (a' := ?_) #[true,true,false,true,false,false,false,false,false,false,false] rfl rfl (any_of HT_.out (by kernel_rfl)) (fun _ _ _ h => h) (Or.inl ⟨by rfl, ?_⟩) ?_ ?_
      rotate_left
      ·intro w'
       go_simp
       with_reducible rfl
      rotate_left
      ·simp only [Act.put, List.setIfInBounds_toArray, List.set_cons_zero, List.set_cons_succ, i64_w, i32_w]
       rfl
      refine pure_ (i := 4) (N := some 21) (v := ?_) (a' := ?_) #[true,true,false,true,true,false,false,false,false,false,false] rfl rfl (any_of HT_.out (by kernel_rfl)) (fun _ _ _ h => h) (Or.inl ⟨by rfl, ?_⟩) ?_ ?_
      rotate_left
      ·intro w'
       go_simp
       with_reducible rfl
      rotate_left
      ·simp only [Act.put, List.setIfInBounds_toArray, List.set_cons_zero, List.set_cons_succ, i64_w, i32_w]
       rfl
      refine pure_ (i := 5) (N := some 22) (v := ?_) (a' := ?_) #[true,true,false,true,true,true,false,false,false,false,false] rfl rfl (any_of HT_.out (by kernel_rfl)) (fun _ _ _ h => h) (Or.inl ⟨by rfl, ?_⟩) ?_ ?_
      rotate_left
      ·intro w'
       go_simp
       with_reducible rfl
      rotate_left
      ·simp only [Act.put, List.setIfInBounds_toArray, List.set_cons_zero, List.set_cons_succ, i64_w, i32_w]
       rfl
      refine pure_ (i := 6) (N := some 23) (v := ?_) (a' := ?_) #[true,true,false,true,true,true,true,false,false,false,false] rfl rfl (any_of HT_.out (by kernel_rfl)) (fun _ _ _ h => h) (Or.inl ⟨by rfl, ?_⟩) ?_ ?_
      rotate_left
      ·intro w'
       go_simp
       with_reducible rfl
      rotate_left
      ·simp only [Act.put, List.setIfInBounds_toArray, List.set_cons_zero, List.set_cons_succ, i64_w, i32_w]
       rfl
      refine join_ (σ := Value) 2 #[true,true,true,true,true,true,true,true,true,false,false] (fun s_ => [(19, .string t678), (24, s_), (25, .string (strOfNums y679))]) (fun s_ w' => (Kd.R (Kd.int .u8) 5 w' w.heap.size (fun _ => True) s_ y679) ∧ (Below w.heap.size w w')) ?_ ?_
      rotate_left
      ·intro hCont
       refine two_ (i := 2) (j := 7) (Ni := some 19) (Nj := some 24) #[true,true,true,true,true,true,true,false,false,false,false] #[true,true,false,true,true,true,true,true,false,false,false] rfl rfl rfl rfl (two_of HT_.out (by kernel_rfl)) (by decide) (by decide) (fun K hK => ?_) (fun K hK => ?_)
       ·skip
        refine goes_ Tryz.func126 (by kernel_rfl) rfl #[.int .i64 (wrap64 (Int.tdiv a0 10))] (by rfl) rfl rfl (by (try simp only [List.map_toArray, List.map_cons, List.map_nil]); first | done | rfl | (simp only [List.length_drop, List.length_take]; rfl)) ?_
        with_reducible refine (ih kj1 (by have := HJ1.out; omega) (wrap64 (Int.tdiv a0 10)) t678 _ A10.out).mono ?_
        rintro e w13 ⟨rfl, hb⟩
        refine ⟨_, rfl, ?_⟩
        have n0_ := Aside0.mk (below_step (wup HB.out) hb)
        clear HB
        have HB := n0_
        clear n0_
        (try clear hb)
        (try clear hb2)
        (try clear hk)
        (try clear hi)
        refine hK.out _ _ trivial (fun hHeld => ?_)
        clear hK K
        refine norm_ (a' := ?_) ?_ ?_
        rotate_left
        ·show Act.put _ (some 19) _ = _
         simp only [Act.put, List.setIfInBounds_toArray, List.set_cons_zero, List.set_cons_succ, i64_w, i32_w]
         rfl
        refine one_ (i := 7) (N := some 24) #[true,true,true,true,true,true,true,true,false,false,false] rfl rfl (one_of HT_.out (by kernel_rfl)) (by decide) (fun K hK => ?_)
        refine Kd.R_lit_step (Kd.int .u8) _ 5 ?hg (N := 24) ?hd (xs := ([(wrap64 (48 - (Int.tmod a0 10))) % 256] : List Int)) (inner := [.int .u8 ((wrap64 (48 - (Int.tmod a0 10))) % 256)]) (ok := fun _ => True) (okp := fun _ => True) ?hr ?hp (fun _ hk => hk) trivial (Below.refl _ _) (Nat.le_refl _) (by simp) ?_; (case hd => rfl); (case hg => rfl); (case hr => first | (go_simp; done) | (go_simp; rfl)); (case hp => exact (Reps.one (show Kd.M (Kd.int .u8) _ _ _ ((wrap64 (48 - (Int.tmod a0 10))) % 256) [.int .u8 ((wrap64 (48 - (Int.tmod a0 10))) % 256)] from rfl) (Reps.none _ _)))
        intro v680 w14 ho15 hb hg_ hnew_
        clear hg_ hnew_
        (first | rw [← Ny679.out] at ho15 | (simp only [Int.reduceToNat] at ho15; rw [← Ny679.out] at ho15))
        have n0_ := Aside0.mk (Kd.R_lower ho15 (below_size (wup HB.out)))
        have n1_ := Aside0.mk (below_step (wup HB.out) hb)
        clear HB
        have HO681 := n0_
        have HB := n1_
        clear n0_ n1_
        clear hb ho15
        refine hK.out _ _ trivial (fun hHeld => ?_)
        clear hK K
        refine norm_ (a' := ?_) ?_ ?_
        rotate_left
        ·show Act.put _ (some 24) _ = _
         simp only [Act.put, List.setIfInBounds_toArray, List.set_cons_zero, List.set_cons_succ, i64_w, i32_w]
         rfl
        refine one_ (i := 8) (N := some 25) #[true,true,true,true,true,true,true,true,true,false,false] rfl rfl (one_of HT_.out (by kernel_rfl)) (by decide) (fun K hK => ?_)
        have hcv16 := own_string (P := Tryz.prog) Tryz.underlying43 Tryz.underlying5 Tryz.underlying9 (Kd.own_of_R HO681.out)
        refine value_ (w1 := ?_) (v := ?_) (by rfl) rfl ?_ ?_
        rotate_left 2
        ·go_simp
         constructor
         ·rfl
         ·rfl
        clear hcv16
        refine hK.out _ _ trivial (fun hHeld => ?_)
        clear hK K
        refine norm_ (a' := ?_) ?_ ?_
        rotate_left
        ·show Act.put _ (some 25) _ = _
         simp only [Act.put, List.setIfInBounds_toArray, List.set_cons_zero, List.set_cons_succ, i64_w, i32_w]
         rfl
        exact norm_ (by simp only [putAll, Act.put, List.setIfInBounds_toArray, List.set_cons_zero, List.set_cons_succ]) (hCont (v680) _ ⟨(rup HO681.out), (wup HB.out)⟩)
       ·skip
        refine Kd.R_lit_step (Kd.int .u8) _ 5 ?hg (N := 24) ?hd (xs := ([(wrap64 (48 - (Int.tmod a0 10))) % 256] : List Int)) (inner := [.int .u8 ((wrap64 (48 - (Int.tmod a0 10))) % 256)]) (ok := fun _ => True) (okp := fun _ => True) ?hr ?hp (fun _ hk => hk) trivial (Below.refl _ _) (Nat.le_refl _) (by simp) ?_; (case hd => rfl); (case hg => rfl); (case hr => first | (go_simp; done) | (go_simp; rfl)); (case hp => exact (Reps.one (show Kd.M (Kd.int .u8) _ _ _ ((wrap64 (48 - (Int.tmod a0 10))) % 256) [.int .u8 ((wrap64 (48 - (Int.tmod a0 10))) % 256)] from rfl) (Reps.none _ _)))
        intro v680 w13 ho14 hb hg_ hnew_
        clear hg_ hnew_
        (first | rw [← Ny679.out] at ho14 | (simp only [Int.reduceToNat] at ho14; rw [← Ny679.out] at ho14))
        have n0_ := Aside0.mk (Kd.R_lower ho14 (below_size (wup HB.out)))
        have n1_ := Aside0.mk (below_step (wup HB.out) hb)
        clear HB
        have HO681 := n0_
        have HB := n1_
        clear n0_ n1_
        clear hb ho14
        refine hK.out _ _ trivial (fun hHeld => ?_)
        clear hK K
        refine norm_ (a' := ?_) ?_ ?_
        rotate_left
        ·show Act.put _ (some 24) _ = _
         simp only [Act.put, List.setIfInBounds_toArray, List.set_cons_zero, List.set_cons_succ, i64_w, i32_w]
         rfl
        refine two_ (i := 2) (j := 8) (Ni := some 19) (Nj := some 25) #[true,true,true,true,true,true,true,true,false,false,false] #[true,true,false,true,true,true,true,true,true,false,false] rfl rfl rfl rfl (two_of HT_.out (by kernel_rfl)) (by decide) (by decide) (fun K hK => ?_) (fun K hK => ?_)
        ·skip
         refine goes_ Tryz.func126 (by kernel_rfl) rfl #[.int .i64 (wrap64 (Int.tdiv a0 10))] (by rfl) rfl rfl (by (try simp only [List.map_toArray, List.map_cons, List.map_nil]); first | done | rfl | (simp only [List.length_drop, List.length_take]; rfl)) ?_
         with_reducible refine (ih kj1 (by have := HJ1.out; omega) (wrap64 (Int.tdiv a0 10)) t678 _ A10.out).mono ?_
         rintro e w15 ⟨rfl, hb⟩
         refine ⟨_, rfl, ?_⟩
         have n0_ := Aside0.mk (Kd.R_below (rup HO681.out) hb)
         have n1_ := Aside0.mk (below_step (wup HB.out) hb)
         clear HO681
         clear HB
         have HO681 := n0_
         have HB := n1_
         clear n0_ n1_
         (try clear hb)
         (try clear hb2)
         (try clear hk)
         (try clear hi)
         refine hK.out _ _ trivial (fun hHeld => ?_)
         clear hK K
         refine norm_ (a' := ?_) ?_ ?_
         rotate_left
         ·show Act.put _ (some 19) _ = _
          simp only [Act.put, List.setIfInBounds_toArray, List.set_cons_zero, List.set_cons_succ, i64_w, i32_w]
          rfl
         refine one_ (i := 8) (N := some 25) #[true,true,true,true,true,true,true,true,true,false,false] rfl rfl (one_of HT_.out (by kernel_rfl)) (by decide) (fun K hK => ?_)
         have hcv16 := own_string (P := Tryz.prog) Tryz.underlying43 Tryz.underlying5 Tryz.underlying9 (Kd.own_of_R HO681.out)
         refine value_ (w1 := ?_) (v := ?_) (by rfl) rfl ?_ ?_
         rotate_left 2
         ·go_simp
          constructor
          ·rfl
          ·rfl
         clear hcv16
         refine hK.out _ _ trivial (fun hHeld => ?_)
         clear hK K
         refine norm_ (a' := ?_) ?_ ?_
         rotate_left
         ·show Act.put _ (some 25) _ = _
          simp only [Act.put, List.setIfInBounds_toArray, List.set_cons_zero, List.set_cons_succ, i64_w, i32_w]
          rfl
         exact norm_ (by simp only [putAll, Act.put, List.setIfInBounds_toArray, List.set_cons_zero, List.set_cons_succ]) (hCont (v680) _ ⟨(rup HO681.out), (wup HB.out)⟩)
        ·skip
         have hcv15 := own_string (P := Tryz.prog) Tryz.underlying43 Tryz.underlying5 Tryz.underlying9 (Kd.own_of_R HO681.out)
         refine value_ (w1 := ?_) (v := ?_) (by rfl) rfl ?_ ?_
         rotate_left 2
         ·go_simp
          constructor
          ·rfl
          ·rfl
         clear hcv15
         refine hK.out _ _ trivial (fun hHeld => ?_)
         clear hK K
         refine norm_ (a' := ?_) ?_ ?_
         rotate_left
         ·show Act.put _ (some 25) _ = _
          simp only [Act.put, List.setIfInBounds_toArray, List.set_cons_zero, List.set_cons_succ, i64_w, i32_w]
          rfl
         refine one_ (i := 2) (N := some 19) #[true,true,true,true,true,true,true,true,true,false,false] rfl rfl (one_of HT_.out (by kernel_rfl)) (by decide) (fun K hK => ?_)
         refine goes_ Tryz.func126 (by kernel_rfl) rfl #[.int .i64 (wrap64 (Int.tdiv a0 10))] (by rfl) rfl rfl (by (try simp only [List.map_toArray, List.map_cons, List.map_nil]); first | done | rfl | (simp only [List.length_drop, List.length_take]; rfl)) ?_
         with_reducible refine (ih kj1 (by have := HJ1.out; omega) (wrap64 (Int.tdiv a0 10)) t678 _ A10.out).mono ?_
         rintro e w16 ⟨rfl, hb⟩
         refine ⟨_, rfl, ?_⟩
         have n0_ := Aside0.mk (Kd.R_below (rup HO681.out) hb)
         have n1_ := Aside0.mk (below_step (wup HB.out) hb)
         clear HO681
         clear HB
         have HO681 := n0_
         have HB := n1_
         clear n0_ n1_
         (try clear hb)
         (try clear hb2)
         (try clear hk)
         (try clear hi)
         refine hK.out _ _ trivial (fun hHeld => ?_)
         clear hK K
         refine norm_ (a' := ?_) ?_ ?_
         rotate_left
         ·show Act.put _ (some 19) _ = _
          simp only [Act.put, List.setIfInBounds_toArray, List.set_cons_zero, List.set_cons_succ, i64_w, i32_w]
          rfl
         exact norm_ (by simp only [putAll, Act.put, List.setIfInBounds_toArray, List.set_cons_zero, List.set_cons_succ]) (hCont (v680) _ ⟨(rup HO681.out), (wup HB.out)⟩)
      rintro v680 w17 ⟨h0_, h1_⟩
      have n0_ : Aside0 (Kd.R (Kd.int .u8) 5 w17 w.heap.size (fun _ => True) v680 y679) := ⟨h0_⟩
      have n1_ : Aside0 (Below w.heap.size w w17) := ⟨h1_⟩
      clear HB
      clear h0_ h1_
      have HO681 := n0_
      have HB := n1_
      clear n0_ n1_
      have hHeld := trivial
      refine norm_ (a' := ?_) ?_ ?_
      rotate_left
      ·simp only [putAll, Act.put, List.setIfInBounds_toArray, List.set_cons_zero, List.set_cons_succ]
       rfl
      refine pure_ (i := 9) (N := some 26) (v := ?_) (a' := ?_) #[true,true,true,true,true,true,true,true,true,true,false] rfl rfl (any_of HT_.out (by kernel_rfl)) (fun _ _ _ h => h) (Or.inl ⟨by rfl, ?_⟩) ?_ ?_
      rotate_left
      ·intro w'
       go_simp
       with_reducible rfl
      rotate_left
      ·simp only [Act.put, List.setIfInBounds_toArray, List.set_cons_zero, List.set_cons_succ, i64_w, i32_w]
       rfl
      refine pure_ (i := 10) (N := some 2) (v := ?_) (a' := ?_) #[true,true,true,true,true,true,true,true,true,true,true] rfl rfl (any_of HT_.out (by kernel_rfl)) (fun _ _ _ h => h) (Or.inl ⟨by rfl, ?_⟩) ?_ ?_
      rotate_left
      ·intro w'
       go_simp
       with_reducible rfl
      rotate_left
      ·simp only [Act.put, List.setIfInBounds_toArray, List.set_cons_zero, List.set_cons_succ, i64_w, i32_w]
       rfl
      refine done_ (done_of HT_.out (by kernel_rfl)) ?_
      try go_wp2
      go_ret
      exact ⟨by first | rfl | (simp [errW_none, errW_some] <;> rfl) | (simp [*, errW_none, errW_some] <;> rfl), by repeat (first | (with_reducible first | exact HB.out | apply below_alloc | apply pw_below_drewN | apply below_drew1) | exact HB.out)⟩
     ·rw [if_neg c11] at H
      exact absurd H (by simp)
    ·rw [if_neg c9] at H
     have c9b0 : decide (a0 < 0) = false := decide_eq_false c9
     clear c9
     by_cases c18 : a0 < 10
     ·rw [if_pos c18] at H
      have c18b0 : decide (a0 < 10) = true := decide_eq_true c18
      clear c18
      obtain ⟨y682, hy682⟩ : ∃ y_ : List Int, y_ = (([(wrap64 (48 + a0)) % 256] : List Int)) := ⟨_, rfl⟩
      replace H : (some (strOfNums y682)) = some r := by first | (rw [hy682]; with_reducible exact H) | (have H2_ := (Option.bind_some _ _).symm.trans H; rw [hy682]; with_reducible exact H2_) | (have H2_ := (Option.bind_some _ _).symm.trans H; with_reducible exact H2_) | with_reducible exact H | (rw [hy682]; exact H) | exact H
      have Ny682 := Aside0.mk hy682
      clear hy682
      obtain rfl := Option.some.inj H
      go_wp2_with (first | ((with_reducible refine gate_dst (N := 32) rfl ?_); refine Kd.R_lit (Kd.int .u8) _ 5 ?hg (N := 32) ?hd (xs := ([(wrap64 (48 + a0)) % 256] : List Int)) (inner := [.int .u8 ((wrap64 (48 + a0)) % 256)]) (ok := fun _ => True) (okp := fun _ => True) ?hr ?hp (fun _ hk => hk) trivial (Below.refl _ _) (Nat.le_refl _) (by simp) ?_; (case hd => rfl); (case hg => rfl); (case hr => first | (go_simp; done) | (go_simp; rfl)); (case hp => exact (Reps.one (show Kd.M (Kd.int .u8) _ _ _ ((wrap64 (48 + a0)) % 256) [.int .u8 ((wrap64 (48 + a0)) % 256)] from rfl) (Reps.none _ _))); intro v683 w19 ho20 hb hg_ hnew_; clear hg_ hnew_; (first | rw [← Ny682.out] at ho20 | (simp only [Int.reduceToNat] at ho20; rw [← Ny682.out] at ho20)); have n0_ := Aside0.mk (Kd.R_lower ho20 (below_size (wup HB.out))); have n1_ := Aside0.mk (below_step (wup HB.out) hb); clear HB; have HO684 := n0_; have HB := n1_; clear n0_ n1_; clear hb ho20; have hcv21 := own_string (P := Tryz.prog) Tryz.underlying43 Tryz.underlying5 Tryz.underlying9 (Kd.own_of_R HO684.out)))
      go_ret
      exact ⟨by first | rfl | (simp [errW_none, errW_some] <;> rfl) | (simp [*, errW_none, errW_some] <;> rfl), by repeat (first | (with_reducible first | exact HB.out | apply below_alloc | apply pw_below_drewN | apply below_drew1) | exact HB.out)⟩
     ·rw [if_neg c18] at H
      have c18b0 : decide (a0 < 10) = false := decide_eq_false c18
      clear c18
      replace H := Option.bind_eq_some_iff.mp H
      obtain ⟨t685, A220, H⟩ := H
      replace H : ((some (([(wrap64 (48 + (Int.tmod a0 10))) % 256] : List Int) : List Int)).bind fun y686 => (if t685.size + (strOfNums y686).size ≤ 9223372036854775807 then (some (t685 ++ (strOfNums y686))) else (none))) = some r := H
      have A22 := Aside0.mk A220
      clear A220
      obtain ⟨y686, hy686⟩ : ∃ y_ : List Int, y_ = (([(wrap64 (48 + (Int.tmod a0 10))) % 256] : List Int)) := ⟨_, rfl⟩
      replace H : (if t685.size + (strOfNums y686).size ≤ 9223372036854775807 then (some (t685 ++ (strOfNums y686))) else (none)) = some r := by first | (rw [hy686]; with_reducible exact H) | (have H2_ := (Option.bind_some _ _).symm.trans H; rw [hy686]; with_reducible exact H2_) | (have H2_ := (Option.bind_some _ _).symm.trans H; with_reducible exact H2_) | with_reducible exact H | (rw [hy686]; exact H) | exact H
      have Ny686 := Aside0.mk hy686
      clear hy686
      by_cases c23 : t685.size + (strOfNums y686).size ≤ 9223372036854775807
      ·rw [if_pos c23] at H
       have c23b0 := eq_true c23
       have c23b1 : decide (t685.size + (strOfNums y686).size ≤ 9223372036854775807) = true := decide_eq_true c23
       try have c23b2 : (9223372036854775807 < t685.size + (strOfNums y686).size) = False := eq_false (Nat.not_lt.2 c23)
       obtain rfl := Option.some.inj H
       try go_wp2
       have n0_ := Aside0.mk (below_drew1 HB.out)
       clear HB
       have HB := n0_
       clear n0_
       refine start_ (n := 11) (S := fun w' => True) (ds := []) #[false,false,false,false,false,false,false,false,false,false,false] (by kernel_rfl) rfl rfl trivial (fun hHeld => ?_); refine with_tabW T_Decimal.tab7 T_Decimal.bits7 (fun HT_ HW_ => ?_)
       generalize wc.drew = w24 at HB hHeld ⊢
       refine pure_ (i := 0) (N := some 34) (v := ?_) (a' := ?_) #[true,false,false,false,false,false,false,false,false,false,false] rfl rfl (any_of HT_.out (by kernel_rfl)) (fun _ _ _ h => h) (Or.inl ⟨by rfl, ?_⟩) ?_ ?_
       rotate_left
       ·intro w'
        go_simp
        with_reducible rfl
       rotate_left
       ·simp only [Act.put, List.setIfInBounds_toArray, List.set_cons_zero, List.set_cons_succ, i64_w, i32_w]
        rfl
       refine pure_ (i := 1) (N := some 35) (v := ?_) (a' := ?_) #[true,true,false,false,false,false,false,false,false,false,false] rfl rfl (any_of HT_.out (by kernel_rfl)) (fun _ _ _ h => h) (Or.inl ⟨by rfl, ?_⟩) ?_ ?_
       rotate_left
       ·intro w'
        go_simp
        with_reducible rfl
       rotate_left
       ·simp only [Act.put, List.setIfInBounds_toArray, List.set_cons_zero, List.set_cons_succ, i64_w, i32_w]
        rfl
       refine pure_ (i := 3) (N := some 37) (v := ?_) (a' := ?_) #[true,true,false,true,false,false,false,false,false,false,false] rfl rfl (any_of HT_.out (by kernel_rfl)) (fun _ _ _ h => h) (Or.inl ⟨by rfl, ?_⟩) ?_ ?_
       rotate_left
       ·intro w'
        go_simp
        with_reducible rfl
       rotate_left
       ·simp only [Act.put, List.setIfInBounds_toArray, List.set_cons_zero, List.set_cons_succ, i64_w, i32_w]
        rfl
       refine pure_ (i := 4) (N := some 38) (v := ?_) (a' := ?_) #[true,true,false,true,true,false,false,false,false,false,false] rfl rfl (any_of HT_.out (by kernel_rfl)) (fun _ _ _ h => h) (Or.inl ⟨by rfl, ?_⟩) ?_ ?_
       rotate_left
       ·intro w'
        go_simp
        with_reducible rfl
       rotate_left
       ·simp only [Act.put, List.setIfInBounds_toArray, List.set_cons_zero, List.set_cons_succ, i64_w, i32_w]
        rfl
       refine pure_ (i := 5) (N := some 39) (v := ?_) (a' := ?_) #[true,true,false,true,true,true,false,false,false,false,false] rfl rfl (any_of HT_.out (by kernel_rfl)) (fun _ _ _ h => h) (Or.inl ⟨by rfl, ?_⟩) ?_ ?_
       rotate_left
       ·intro w'
        go_simp
        with_reducible rfl
       rotate_left
       ·simp only [Act.put, List.setIfInBounds_toArray, List.set_cons_zero, List.set_cons_succ, i64_w, i32_w]
        rfl
       refine pure_ (i := 6) (N := some 40) (v := ?_) (a' := ?_) #[true,true,false,true,true,true,true,false,false,false,false] rfl rfl (any_of HT_.out (by kernel_rfl)) (fun _ _ _ h => h) (Or.inl ⟨by rfl, ?_⟩) ?_ ?_
       rotate_left
       ·intro w'
        go_simp
        with_reducible rfl
       rotate_left
       ·simp only [Act.put, List.setIfInBounds_toArray, List.set_cons_zero, List.set_cons_succ, i64_w, i32_w]
        rfl
       refine join_ (σ := Value) 2 #[true,true,true,true,true,true,true,true,true,false,false] (fun s_ => [(36, .string t685), (41, s_), (42, .string (strOfNums y686))]) (fun s_ w' => (Kd.R (Kd.int .u8) 5 w' w.heap.size (fun _ => True) s_ y686) ∧ (Below w.heap.size w w')) ?_ ?_
       rotate_left
       ·intro hCont
        refine two_ (i := 2) (j := 7) (Ni := some 36) (Nj := some 41) #[true,true,true,true,true,true,true,false,false,false,false] #[true,true,false,true,true,true,true,true,false,false,false] rfl rfl rfl rfl (two_of HT_.out (by kernel_rfl)) (by decide) (by decide) (fun K hK => ?_) (fun K hK => ?_)
        ·skip
         refine goes_ Tryz.func126 (by kernel_rfl) rfl #[.int .i64 (wrap64 (Int.tdiv a0 10))] (by rfl) rfl rfl (by (try simp only [List.map_toArray, List.map_cons, List.map_nil]); first | done | rfl | (simp only [List.length_drop, List.length_take]; rfl)) ?_
         with_reducible refine (ih kj1 (by have := HJ1.out; omega) (wrap64 (Int.tdiv a0 10)) t685 _ A22.out).mono ?_
         rintro e w25 ⟨rfl, hb⟩
         refine ⟨_, rfl, ?_⟩
         have n0_ := Aside0.mk (below_step (wup HB.out) hb)
         clear HB
         have HB := n0_
         clear n0_
         (try clear hb)
         (try clear hb2)
         (try clear hk)
         (try clear hi)
         refine hK.out _ _ trivial (fun hHeld => ?_)
         clear hK K
         refine norm_ (a' := ?_) ?_ ?_
         rotate_left
         ·show Act.put _ (some 36) _ = _
          simp only [Act.put, List.setIfInBounds_toArray, List.set_cons_zero, List.set_cons_succ, i64_w, i32_w]
          rfl
         refine one_ (i := 7) (N := some 41) #[true,true,true,true,true,true,true,true,false,false,false] rfl rfl (one_of HT_.out (by kernel_rfl)) (by decide) (fun K hK => ?_)
         refine Kd.R_lit_step (Kd.int .u8) _ 5 ?hg (N := 41) ?hd (xs := ([(wrap64 (48 + (Int.tmod a0 10))) % 256] : List Int)) (inner := [.int .u8 ((wrap64 (48 + (Int.tmod a0 10))) % 256)]) (ok := fun _ => True) (okp := fun _ => True) ?hr ?hp (fun _ hk => hk) trivial (Below.refl _ _) (Nat.le_refl _) (by simp) ?_; (case hd => rfl); (case hg => rfl); (case hr => first | (go_simp; done) | (go_simp; rfl)); (case hp => exact (Reps.one (show Kd.M (Kd.int .u8) _ _ _ ((wrap64 (48 + (Int.tmod a0 10))) % 256) [.int .u8 ((wrap64 (48 + (Int.tmod a0 10))) % 256)] from rfl) (Reps.none _ _)))
         intro v687 w26 ho27 hb hg_ hnew_
         clear hg_ hnew_
         (first | rw [← Ny686.out] at ho27 | (simp only [Int.reduceToNat] at ho27; rw [← Ny686.out] at ho27))
         have n0_ := Aside0.mk (Kd.R_lower ho27 (below_size (wup HB.out)))
         have n1_ := Aside0.mk (below_step (wup HB.out) hb)
         clear HB
         have HO688 := n0_
         have HB := n1_
         clear n0_ n1_
         clear hb ho27
         refine hK.out _ _ trivial (fun hHeld => ?_)
         clear hK K
         refine norm_ (a' := ?_) ?_ ?_
         rotate_left
         ·show Act.put _ (some 41) _ = _
          simp only [Act.put, List.setIfInBounds_toArray, List.set_cons_zero, List.set_cons_succ, i64_w, i32_w]
          rfl
         refine one_ (i := 8) (N := some 42) #[true,true,true,true,true,true,true,true,true,false,false] rfl rfl (one_of HT_.out (by kernel_rfl)) (by decide) (fun K hK => ?_)
         have hcv28 := own_string (P := Tryz.prog) Tryz.underlying43 Tryz.underlying5 Tryz.underlying9 (Kd.own_of_R HO688.out)
         refine value_ (w1 := ?_) (v := ?_) (by rfl) rfl ?_ ?_
         rotate_left 2
         ·go_simp
          constructor
          ·rfl
          ·rfl
         clear hcv28
         refine hK.out _ _ trivial (fun hHeld => ?_)
         clear hK K
         refine norm_ (a' := ?_) ?_ ?_
         rotate_left
         ·show Act.put _ (some 42) _ = _
          simp only [Act.put, List.setIfInBounds_toArray, List.set_cons_zero, List.set_cons_succ, i64_w, i32_w]
          rfl
         exact norm_ (by simp only [putAll, Act.put, List.setIfInBounds_toArray, List.set_cons_zero, List.set_cons_succ]) (hCont (v687) _ ⟨(rup HO688.out), (wup HB.out)⟩)
        ·skip
         refine Kd.R_lit_step (Kd.int .u8) _ 5 ?hg (N := 41) ?hd (xs := ([(wrap64 (48 + (Int.tmod a0 10))) % 256] : List Int)) (inner := [.int .u8 ((wrap64 (48 + (Int.tmod a0 10))) % 256)]) (ok := fun _ => True) (okp := fun _ => True) ?hr ?hp (fun _ hk => hk) trivial (Below.refl _ _) (Nat.le_refl _) (by simp) ?_; (case hd => rfl); (case hg => rfl); (case hr => first | (go_simp; done) | (go_simp; rfl)); (case hp => exact (Reps.one (show Kd.M (Kd.int .u8) _ _ _ ((wrap64 (48 + (Int.tmod a0 10))) % 256) [.int .u8 ((wrap64 (48 + (Int.tmod a0 10))) % 256)] from rfl) (Reps.none _ _)))
         intro v687 w25 ho26 hb hg_ hnew_
         clear hg_ hnew_
         (first | rw [← Ny686.out] at ho26 | (simp only [Int.reduceToNat] at ho26; rw [← Ny686.out] at ho26))
         have n0_ := Aside0.mk (Kd.R_lower ho26 (below_size (wup HB.out)))
         have n1_ := Aside0.mk (below_step (wup HB.out) hb)
         clear HB
         have HO688 := n0_
         have HB := n1_
         clear n0_ n1_
         clear hb ho26
         refine hK.out _ _ trivial (fun hHeld => ?_)
         clear hK K
         refine norm_ (a' := ?_) ?_ ?_
         rotate_left
         ·show Act.put _ (some 41) _ = _
          simp only [Act.put, List.setIfInBounds_toArray, List.set_cons_zero, List.set_cons_succ, i64_w, i32_w]
          rfl
         refine two_ (i := 2) (j := 8) (Ni := some 36) (Nj := some 42) #[true,true,true,true,true,true,true,true,false,false,false] #[true,true,false,true,true,true,true,true,true,false,false] rfl rfl rfl rfl (two_of HT_.out (by kernel_rfl)) (by decide) (by decide) (fun K hK => ?_) (fun K hK => ?_)
         ·skip
          refine goes_ Tryz.func126 (by kernel_rfl) rfl #[.int .i64 (wrap64 (Int.tdiv a0 10))] (by rfl) rfl rfl (by (try simp only [List.map_toArray, List.map_cons, List.map_nil]); first | done | rfl | (simp only [List.length_drop, List.length_take]; rfl)) ?_
          with_reducible refine (ih kj1 (by have := HJ1.out; omega) (wrap64 (Int.tdiv a0 10)) t685 _ A22.out).mono ?_
          rintro e w27 ⟨rfl, hb⟩
          refine ⟨_, rfl, ?_⟩
          have n0_ := Aside0.mk (Kd.R_below (rup HO688.out) hb)
          have n1_ := Aside0.mk (below_step (wup HB.out) hb)
          clear HO688
          clear HB
          have HO688 := n0_
          have HB := n1_
          clear n0_ n1_
          (try clear hb)
          (try clear hb2)
          (try clear hk)
          (try clear hi)
          refine hK.out _ _ trivial (fun hHeld => ?_)
          clear hK K
          refine norm_ (a' := ?_) ?_ ?_
          rotate_left
          ·show Act.put _ (some 36) _ = _
           simp only [Act.put, List.setIfInBounds_toArray, List.set_cons_zero, List.set_cons_succ, i64_w, i32_w]
           rfl
          refine one_ (i := 8) (N := some 42) #[true,true,true,true,true,true,true,true,true,false,false] rfl rfl (one_of HT_.out (by kernel_rfl)) (by decide) (fun K hK => ?_)
          have hcv28 := own_string (P := Tryz.prog) Tryz.underlying43 Tryz.underlying5 Tryz.underlying9 (Kd.own_of_R HO688.out)
          refine value_ (w1 := ?_) (v := ?_) (by rfl) rfl ?_ ?_
          rotate_left 2
          ·go_simp
           constructor
           ·rfl
           ·rfl
          clear hcv28
          refine hK.out _ _ trivial (fun hHeld => ?_)
          clear hK K
          refine norm_ (a' := ?_) ?_ ?_
          rotate_left
          ·show Act.put _ (some 42) _ = _
           simp only [Act.put, List.setIfInBounds_toArray, List.set_cons_zero, List.set_cons_succ, i64_w, i32_w]
           rfl
          exact norm_ (by simp only [putAll, Act.put, List.setIfInBounds_toArray, List.set_cons_zero, List.set_cons_succ]) (hCont (v687) _ ⟨(rup HO688.out), (wup HB.out)⟩)
         ·skip
          have hcv27 := own_string (P := Tryz.prog) Tryz.underlying43 Tryz.underlying5 Tryz.underlying9 (Kd.own_of_R HO688.out)
          refine value_ (w1 := ?_) (v := ?_) (by rfl) rfl ?_ ?_
          rotate_left 2
          ·go_simp
           constructor
           ·rfl
           ·rfl
          clear hcv27
          refine hK.out _ _ trivial (fun hHeld => ?_)
          clear hK K
          refine norm_ (a' := ?_) ?_ ?_
          rotate_left
          ·show Act.put _ (some 42) _ = _
           simp only [Act.put, List.setIfInBounds_toArray, List.set_cons_zero, List.set_cons_succ, i64_w, i32_w]
           rfl
          refine one_ (i := 2) (N := some 36) #[true,true,true,true,true,true,true,true,true,false,false] rfl rfl (one_of HT_.out (by kernel_rfl)) (by decide) (fun K hK => ?_)
          refine goes_ Tryz.func126 (by kernel_rfl) rfl #[.int .i64 (wrap64 (Int.tdiv a0 10))] (by rfl) rfl rfl (by (try simp only [List.map_toArray, List.map_cons, List.map_nil]); first | done | rfl | (simp only [List.length_drop, List.length_take]; rfl)) ?_
          with_reducible refine (ih kj1 (by have := HJ1.out; omega) (wrap64 (Int.tdiv a0 10)) t685 _ A22.out).mono ?_
          rintro e w28 ⟨rfl, hb⟩
          refine ⟨_, rfl, ?_⟩
          have n0_ := Aside0.mk (Kd.R_below (rup HO688.out) hb)
          have n1_ := Aside0.mk (below_step (wup HB.out) hb)
          clear HO688
          clear HB
          have HO688 := n0_
          have HB := n1_
          clear n0_ n1_
          (try clear hb)
          (try clear hb2)
          (try clear hk)
          (try clear hi)
          refine hK.out _ _ trivial (fun hHeld => ?_)
          clear hK K
          refine norm_ (a' := ?_) ?_ ?_
          rotate_left
          ·show Act.put _ (some 36) _ = _
           simp only [Act.put, List.setIfInBounds_toArray, List.set_cons_zero, List.set_cons_succ, i64_w, i32_w]
           rfl
          exact norm_ (by simp only [putAll, Act.put, List.setIfInBounds_toArray, List.set_cons_zero, List.set_cons_succ]) (hCont (v687) _ ⟨(rup HO688.out), (wup HB.out)⟩)
       rintro v687 w29 ⟨h0_, h1_⟩
       have n0_ : Aside0 (Kd.R (Kd.int .u8) 5 w29 w.heap.size (fun _ => True) v687 y686) := ⟨h0_⟩
       have n1_ : Aside0 (Below w.heap.size w w29) := ⟨h1_⟩
       clear HB
       clear h0_ h1_
       have HO688 := n0_
       have HB := n1_
       clear n0_ n1_
       have hHeld := trivial
       refine norm_ (a' := ?_) ?_ ?_
       rotate_left
       ·simp only [putAll, Act.put, List.setIfInBounds_toArray, List.set_cons_zero, List.set_cons_succ]
        rfl
       refine pure_ (i := 9) (N := some 43) (v := ?_) (a' := ?_) #[true,true,true,true,true,true,true,true,true,true,false] rfl rfl (any_of HT_.out (by kernel_rfl)) (fun _ _ _ h => h) (Or.inl ⟨by rfl, ?_⟩) ?_ ?_
       rotate_left
       ·intro w'
        go_simp
        with_reducible rfl
       rotate_left
       ·simp only [Act.put, List.setIfInBounds_toArray, List.set_cons_zero, List.set_cons_succ, i64_w, i32_w]
        rfl
       refine pure_ (i := 10) (N := some 2) (v := ?_) (a' := ?_) #[true,true,true,true,true,true,true,true,true,true,true] rfl rfl (any_of HT_.out (by kernel_rfl)) (fun _ _ _ h => h) (Or.inl ⟨by rfl, ?_⟩) ?_ ?_
       rotate_left
       ·intro w'
        go_simp
        with_reducible rfl
       rotate_left
       ·simp only [Act.put, List.setIfInBounds_toArray, List.set_cons_zero, List.set_cons_succ, i64_w, i32_w]
        rfl
       refine done_ (done_of HT_.out (by kernel_rfl)) ?_
       try go_wp2
       go_ret
       exact ⟨by first | rfl | (simp [errW_none, errW_some] <;> rfl) | (simp [*, errW_none, errW_some] <;> rfl), by repeat (first | (with_reducible first | exact HB.out | apply below_alloc | apply pw_below_drewN | apply below_drew1) | exact HB.out)⟩
      ·rw [if_neg c23] at H
       exact absurd H (by simp)
end Go.Proofs.YtohlmoppcmjknaaGreatDoor.P
end
section
namespace Go.Proofs.YtohlmoppcmjknaaGreatDoor.P
open Go.RowKit Go.Proofs.YtohlmoppcmjknaaGreatDoorW.PrintWords Go.Proofs.YtohlmoppcmjknaaGreatDoorW.PrintLast Go.Proofs.YtohlmoppcmjknaaGreatDoorW.PrintMore
attribute [local go_sem] max2_int min2_int max_two min_two max_three min_three max_four min_four
set_option linter.unusedVariables false
set_option linter.unusedSimpArgs false
def T_Row.l0 : Nat → ByteArray → List Int → Int → Option (ByteArray)
 | 0, _, _, _ => none
 | k + 1, x0, x1, x5 => if x5 < (x1.length : Int) then (if x0.size + 1 ≤ 9223372036854775807 then (if 0 ≤ x5 then ((T_Decimal.f k (rd x1 x5)).bind fun t690 => (if (x0 ++ (⟨#[32]⟩ : ByteArray)).size + t690.size ≤ 9223372036854775807 then (T_Row.l0 k ((x0 ++ (⟨#[32]⟩ : ByteArray)) ++ t690) x1 (wrap64 (x5 + 1))) else (none))) else (none)) else (none)) else (some x0)
def T_Row.f (k : Nat) (a0 : ByteArray) (l1 : List Int) : Option (ByteArray) := T_Row.l0 k a0 l1 0
theorem T_Row.mono_l : ∀ k, (∀ y0 y1 y2, LeO (T_Row.l0 k y0 y1 y2) (T_Row.l0 (k + 1) y0 y1 y2))
 | 0 => fun _ _ _ r h => by simp [T_Row.l0] at h
 | k + 1 => by
  have ih0 := T_Row.mono_l k
  ·intro y0 y1 y2
   unfold T_Row.l0
   repeat' first
   | (with_reducible exact ih0 _ _ _)
   | (with_reducible exact T_Decimal.mono _ _)
   | (with_reducible exact LeO.refl _)
   | (with_reducible exact LeO.none _)
   | (with_reducible refine LeO.ite ?_ ?_)
   | (with_reducible refine LeO.bind ?_ (fun _ => ?_))
   | exact ih0 _ _ _
   | exact T_Decimal.mono _ _
   | exact LeO.none _
   | refine LeO.ite ?_ ?_
   | refine LeO.bind ?_ (fun _ => ?_)
theorem T_Row.mono : ∀ a0 a1 k, LeO (T_Row.f k a0 a1) (T_Row.f (k + 1) a0 a1) := by
 intro a0 a1 k
 have ih0 := T_Row.mono_l k
 unfold T_Row.f
 repeat' first
   | (with_reducible exact ih0 _ _ _)
   | (with_reducible exact T_Decimal.mono _ _)
   | (with_reducible exact LeO.refl _)
   | (with_reducible exact LeO.none _)
   | (with_reducible refine LeO.ite ?_ ?_)
   | (with_reducible refine LeO.bind ?_ (fun _ => ?_))
   | exact ih0 _ _ _
   | exact T_Decimal.mono _ _
   | exact LeO.none _
   | refine LeO.ite ?_ ?_
   | refine LeO.bind ?_ (fun _ => ?_)
set_option maxHeartbeats 8000000 in
set_option maxRecDepth 100000 in
theorem T_Row.calls (k : Nat) (a0 : ByteArray) (A1 : Option Addr) (c1 : Nat) (l1 : List Int) (r : ByteArray) (w : World) (hr1 : Kd.C (Kd.int .i64) w A1 l1.length l1) (hc1 : l1.length ≤ c1) (h : T_Row.f k a0 l1 = some r) :
  Calls Tryz.prog 93 #[.string a0, .slice A1 l1.length c1] w fun e w' => e = .returned (.string r) ∧ Below w.heap.size w w' := by
 have HR1 := Aside0.mk hr1
 have HC1 := Aside0.mk hc1
 clear hr1 hc1
 have HB := Aside0.mk (Below.refl w.heap.size w)
 have H : (T_Row.l0 k a0 l1 0) = some r := h
 clear h
 have H' := Aside0.mk H
 clear H
 go_enter Tryz.func93, Tryz.ntmps93
 go_wp2
 go_loopg [0, 5] k (fun kq v0 v5 w' => ∃ (x0_1 : ByteArray) (x5_1 : Int), v0 = .string x0_1 ∧ v5 = .int .i64 x5_1 ∧ Aside0 (T_Row.l0 kq x0_1 l1 x5_1 = some r) ∧ Aside0 (kq ≤ k) ∧ Aside0 (Below w.heap.size w w'))
 case atStart => exact ⟨(a0), (0), (by first | rfl | (simp; done) | (simp [*]; done)), (by first | rfl | (simp; done) | (simp [*]; done)), H', ⟨Nat.le_refl _⟩, ⟨by repeat (first | (with_reducible first | exact HB.out | apply below_alloc | apply pw_below_drewN | apply below_drew1) | exact HB.out)⟩⟩
 case round =>
  clear H'
  obtain ⟨x0_1, x5_1, rfl, rfl, HA, HK1, HB⟩ := hrel
  cases gk with
  | zero => exact absurd HA.out (by simp [T_Row.l0])
  | succ k1 =>
   have H := HA.out
   clear HA
   simp only [T_Row.l0] at H
   by_cases c3 : x5_1 < (l1.length : Int)
   ·rw [if_pos c3] at H
    have c3b0 : decide (x5_1 < (l1.length : Int)) = true := decide_eq_true c3
    clear c3
    by_cases c4 : x0_1.size + 1 ≤ 9223372036854775807
    ·rw [if_pos c4] at H
     have c4b0 := eq_true c4
     have c4b1 : decide (x0_1.size + 1 ≤ 9223372036854775807) = true := decide_eq_true c4
     try have c4b2 : (9223372036854775807 < x0_1.size + 1) = False := eq_false (Nat.not_lt.2 c4)
     by_cases c5 : 0 ≤ x5_1
     ·rw [if_pos c5] at H
      have c5b0 : decide (0 ≤ x5_1) = true := decide_eq_true c5
      clear c5
      replace H := Option.bind_eq_some_iff.mp H
      obtain ⟨t690, A60, H⟩ := H
      replace H : (if (x0_1 ++ (⟨#[32]⟩ : ByteArray)).size + t690.size ≤ 9223372036854775807 then (T_Row.l0 k1 ((x0_1 ++ (⟨#[32]⟩ : ByteArray)) ++ t690) l1 (wrap64 (x5_1 + 1))) else (none)) = some r := H
      have A6 := Aside0.mk A60
      clear A60
      by_cases c7 : (x0_1 ++ (⟨#[32]⟩ : ByteArray)).size + t690.size ≤ 9223372036854775807
      ·rw [if_pos c7] at H
       have c7b0 := eq_true c7
       have c7b1 : decide ((x0_1 ++ (⟨#[32]⟩ : ByteArray)).size + t690.size ≤ 9223372036854775807) = true := decide_eq_true c7
       try have c7b2 : (9223372036854775807 < (x0_1 ++ (⟨#[32]⟩ : ByteArray)).size + t690.size) = False := eq_false (Nat.not_lt.2 c7)
       try have c7b3 : (9223372036854775807 < x0_1.size + 1 + t690.size) = False := eq_false (Nat.not_lt.2 (by have z_ := c7; (repeat rw [ByteArray.size_append] at z_); first | exact z_ | (simpa using z_) | (simp at z_; omega)))
       have H' := Aside0.mk H
       clear H
       have p689 : 0 ≤ (x5_1 : Int) := of_decide_eq_true (by first | (with_reducible assumption) | assumption)
       have q689 : x5_1 < (l1.length : Int) := of_decide_eq_true (by first | (with_reducible assumption) | assumption)
       obtain ⟨ad689, e689, hx689_0⟩ := Kd.at_int HR1.out x5_1 p689 q689
       cases e689
       replace hx689_0 := (HB.out.cell (World.block_lt_of_cell? w _ hx689_0)).trans hx689_0
       replace p689 := eq_true p689
       replace q689 := eq_true q689
       go_wp2_with (first | ((with_reducible refine gate_callee (f := 126) rfl ?_); refine goesL_ (some 18) rfl rfl Tryz.func126 (by kernel_rfl) rfl #[.int .i64 (rd l1 x5_1)] rfl (by (try simp only [List.map_toArray, List.map_cons, List.map_nil]); first | done | rfl | (simp only [List.length_drop, List.length_take]; rfl)) ?_; (with_reducible refine (T_Decimal.calls k1 (rd l1 x5_1) t690 _ A6.out).mono ?_); rintro e w8 ⟨rfl, hb⟩; refine ⟨_, rfl, ?_⟩; have n0_ := Aside0.mk (below_step (wup HB.out) hb); clear HB; have HB := n0_; clear n0_; (try clear hb); (try clear hb2); (try clear hk); (try clear hi)))
       go_roundg k1
       case measure => have := HK1.out; omega
       case rel => exact ⟨((x0_1 ++ (⟨#[32]⟩ : ByteArray)) ++ t690), (wrap64 (x5_1 + 1)), (by first | rfl | (simp; done) | (simp [*]; done)), (by first | rfl | (simp; done) | (simp [*]; done)), H', ⟨by have := HK1.out; omega⟩, ⟨by repeat (first | (with_reducible first | exact HB.out | apply below_alloc | apply pw_below_drewN | apply below_drew1) | exact HB.out)⟩⟩
      ·rw [if_neg c7] at H
       exact absurd H (by simp)
     ·rw [if_neg c5] at H
      exact absurd H (by simp)
    ·rw [if_neg c4] at H
     exact absurd H (by simp)
   ·rw [if_neg c3] at H
    have c3b0 : decide (x5_1 < (l1.length : Int)) = false := decide_eq_false c3
    clear c3
    obtain rfl := Option.some.inj H
    go_wp2
    go_ret
    exact ⟨by first | rfl | (simp [errW_none, errW_some] <;> rfl) | (simp [*, errW_none, errW_some] <;> rfl), by repeat (first | (with_reducible first | exact HB.out | apply below_alloc | apply pw_below_drewN | apply below_drew1) | exact HB.out)⟩
end Go.Proofs.YtohlmoppcmjknaaGreatDoor.P
end
section
namespace Go.Proofs.YtohlmoppcmjknaaGreatDoor.P
open Go.RowKit Go.Proofs.YtohlmoppcmjknaaGreatDoorW.PrintWords Go.Proofs.YtohlmoppcmjknaaGreatDoorW.PrintLast Go.Proofs.YtohlmoppcmjknaaGreatDoorW.PrintMore
attribute [local go_sem] max2_int min2_int max_two min_two max_three min_three max_four min_four
set_option linter.unusedVariables false
set_option linter.unusedSimpArgs false
mutual
def T_Sealed.l0 : Nat → List ByteArray → Int → ByteArray → Int → Int → Option (ByteArray)
 | 0, _, _, _, _, _ => none
 | k + 1, x0, x1, x5, x6, x7 => if x7 < (x0.length : Int) then (T_Sealed.l1 k x0 x1 x5 x6 x7 0) else (if x1 = 0 then (none) else (if x5.size + 4 ≤ 9223372036854775807 then ((T_Decimal.f k (wrap64 (Int.tdiv (Int.tmod x6 x1) 100))).bind fun t691 => (if (x5 ++ (⟨#[101, 110, 100, 32]⟩ : ByteArray)).size + t691.size ≤ 9223372036854775807 then ((T_Decimal.f k (Int.tmod (wrap64 (Int.tdiv (Int.tmod x6 x1) 10)) 10)).bind fun t692 => (if ((x5 ++ (⟨#[101, 110, 100, 32]⟩ : ByteArray)) ++ t691).size + t692.size ≤ 9223372036854775807 then ((T_Decimal.f k (Int.tmod (Int.tmod x6 x1) 10)).bind fun t693 => (if (((x5 ++ (⟨#[101, 110, 100, 32]⟩ : ByteArray)) ++ t691) ++ t692).size + t693.size ≤ 9223372036854775807 then (if ((((x5 ++ (⟨#[101, 110, 100, 32]⟩ : ByteArray)) ++ t691) ++ t692) ++ t693).size + 1 ≤ 9223372036854775807 then (some (((((x5 ++ (⟨#[101, 110, 100, 32]⟩ : ByteArray)) ++ t691) ++ t692) ++ t693) ++ (⟨#[10]⟩ : ByteArray))) else (none)) else (none))) else (none))) else (none))) else (none)))
def T_Sealed.l1 : Nat → List ByteArray → Int → ByteArray → Int → Int → Int → Option (ByteArray)
 | 0, _, _, _, _, _, _ => none
 | k + 1, x0, x1, x5, x6, x7, x8 => if 0 ≤ x7 then (if x7 < (x0.length : Int) then (if x8 < ((rdOf ByteArray.empty x0 x7).size : Int) then (if 0 ≤ x8 then (T_Sealed.l1 k x0 x1 x5 (wrap64 (x6 + (wrap64 ((wrap64 ((wrap64 (bt (rdOf ByteArray.empty x0 x7) x8)) * (wrap64 (x8 + 1)))) * (wrap64 (x7 + 1)))))) x7 (wrap64 (x8 + 1))) else (none)) else (if x5.size + (rdOf ByteArray.empty x0 x7).size ≤ 9223372036854775807 then (if (x5 ++ (rdOf ByteArray.empty x0 x7)).size + 1 ≤ 9223372036854775807 then (T_Sealed.l0 k x0 x1 ((x5 ++ (rdOf ByteArray.empty x0 x7)) ++ (⟨#[10]⟩ : ByteArray)) x6 (wrap64 (x7 + 1))) else (none)) else (none))) else (none)) else (none)
end
def T_Sealed.f (k : Nat) (l0 : List ByteArray) (a1 : Int) : Option (ByteArray) := T_Sealed.l0 k l0 a1 (⟨#[]⟩ : ByteArray) 0 0
theorem T_Sealed.mono_l : ∀ k, (∀ y0 y1 y2 y3 y4, LeO (T_Sealed.l0 k y0 y1 y2 y3 y4) (T_Sealed.l0 (k + 1) y0 y1 y2 y3 y4)) ∧ (∀ y0 y1 y2 y3 y4 y5, LeO (T_Sealed.l1 k y0 y1 y2 y3 y4 y5) (T_Sealed.l1 (k + 1) y0 y1 y2 y3 y4 y5))
 | 0 => ⟨fun _ _ _ _ _ r h => by simp [T_Sealed.l0] at h, fun _ _ _ _ _ _ r h => by simp [T_Sealed.l1] at h⟩
 | k + 1 => by
  obtain ⟨ih0, ih1⟩ := T_Sealed.mono_l k
  refine ⟨?_, ?_⟩
  ·intro y0 y1 y2 y3 y4
   unfold T_Sealed.l0
   repeat' first
   | (with_reducible exact ih0 _ _ _ _ _)
   | (with_reducible exact ih1 _ _ _ _ _ _)
   | (with_reducible exact T_Decimal.mono _ _)
   | (with_reducible exact LeO.refl _)
   | (with_reducible exact LeO.none _)
   | (with_reducible refine LeO.ite ?_ ?_)
   | (with_reducible refine LeO.bind ?_ (fun _ => ?_))
   | exact ih0 _ _ _ _ _
   | exact ih1 _ _ _ _ _ _
   | exact T_Decimal.mono _ _
   | exact LeO.none _
   | refine LeO.ite ?_ ?_
   | refine LeO.bind ?_ (fun _ => ?_)
  ·intro y0 y1 y2 y3 y4 y5
   unfold T_Sealed.l1
   repeat' first
   | (with_reducible exact ih0 _ _ _ _ _)
   | (with_reducible exact ih1 _ _ _ _ _ _)
   | (with_reducible exact T_Decimal.mono _ _)
   | (with_reducible exact LeO.refl _)
   | (with_reducible exact LeO.none _)
   | (with_reducible refine LeO.ite ?_ ?_)
   | (with_reducible refine LeO.bind ?_ (fun _ => ?_))
   | exact ih0 _ _ _ _ _
   | exact ih1 _ _ _ _ _ _
   | exact T_Decimal.mono _ _
   | exact LeO.none _
   | refine LeO.ite ?_ ?_
   | refine LeO.bind ?_ (fun _ => ?_)
theorem T_Sealed.mono : ∀ a0 a1 k, LeO (T_Sealed.f k a0 a1) (T_Sealed.f (k + 1) a0 a1) := by
 intro a0 a1 k
 obtain ⟨ih0, ih1⟩ := T_Sealed.mono_l k
 unfold T_Sealed.f
 repeat' first
   | (with_reducible exact ih0 _ _ _ _ _)
   | (with_reducible exact ih1 _ _ _ _ _ _)
   | (with_reducible exact T_Decimal.mono _ _)
   | (with_reducible exact LeO.refl _)
   | (with_reducible exact LeO.none _)
   | (with_reducible refine LeO.ite ?_ ?_)
   | (with_reducible refine LeO.bind ?_ (fun _ => ?_))
   | exact ih0 _ _ _ _ _
   | exact ih1 _ _ _ _ _ _
   | exact T_Decimal.mono _ _
   | exact LeO.none _
   | refine LeO.ite ?_ ?_
   | refine LeO.bind ?_ (fun _ => ?_)
set_option maxHeartbeats 8000000 in
set_option maxRecDepth 100000 in
theorem T_Sealed.calls (k : Nat) (A0 : Option Addr) (c0 : Nat) (l0 : List ByteArray) (a1 : Int) (r : ByteArray) (w : World) (hr0 : Kd.C Kd.string w A0 l0.length l0) (hc0 : l0.length ≤ c0) (h : T_Sealed.f k l0 a1 = some r) :
  Calls Tryz.prog 94 #[.slice A0 l0.length c0, .int .i64 a1] w fun e w' => e = .returned (.string r) ∧ Below w.heap.size w w' := by
 have HR0 := Aside0.mk hr0
 have HC0 := Aside0.mk hc0
 clear hr0 hc0
 have HB := Aside0.mk (Below.refl w.heap.size w)
 have H : (T_Sealed.l0 k l0 a1 (⟨#[]⟩ : ByteArray) 0 0) = some r := h
 clear h
 have H' := Aside0.mk H
 clear H
 go_enter Tryz.func94, Tryz.ntmps94
 go_wp2
 go_loopg [5, 6, 7] k (fun kq v5 v6 v7 w' => ∃ (x5_1 : ByteArray) (x6_1 : Int) (x7_1 : Int), v5 = .string x5_1 ∧ v6 = .int .i64 x6_1 ∧ v7 = .int .i64 x7_1 ∧ Aside0 (T_Sealed.l0 kq l0 a1 x5_1 x6_1 x7_1 = some r) ∧ Aside0 (kq ≤ k) ∧ Aside0 (Below w.heap.size w w'))
 case atStart => exact ⟨((⟨#[]⟩ : ByteArray)), (0), (0), (by first | rfl | (simp; done) | (simp [*]; done)), (by first | rfl | (simp; done) | (simp [*]; done)), (by first | rfl | (simp; done) | (simp [*]; done)), H', ⟨Nat.le_refl _⟩, ⟨by repeat (first | (with_reducible first | exact HB.out | apply below_alloc | apply pw_below_drewN | apply below_drew1) | exact HB.out)⟩⟩
 case round =>
  clear H'
  obtain ⟨x5_1, x6_1, x7_1, rfl, rfl, rfl, HA, HK1, HB⟩ := hrel
  cases gk with
  | zero => exact absurd HA.out (by simp [T_Sealed.l0])
  | succ k1 =>
   have H := HA.out
   clear HA
   simp only [T_Sealed.l0] at H
   by_cases c3 : x7_1 < (l0.length : Int)
   ·rw [if_pos c3] at H
    have c3b0 : decide (x7_1 < (l0.length : Int)) = true := decide_eq_true c3
    clear c3
    have H' := Aside0.mk H
    clear H
    go_wp2
    go_loopg [6, 8] k1 (fun kq v6 v8 w' => ∃ (x6_2 : Int) (x8_2 : Int), v6 = .int .i64 x6_2 ∧ v8 = .int .i64 x8_2 ∧ Aside0 (T_Sealed.l1 kq l0 a1 x5_1 x6_2 x7_1 x8_2 = some r) ∧ Aside0 (kq ≤ k1) ∧ Aside0 (Below w.heap.size w w'))
    case atStart => exact ⟨(x6_1), (0), (by first | rfl | (simp; done) | (simp [*]; done)), (by first | rfl | (simp; done) | (simp [*]; done)), H', ⟨Nat.le_refl _⟩, ⟨by repeat (first | (with_reducible first | exact HB.out | apply below_alloc | apply pw_below_drewN | apply below_drew1) | exact HB.out)⟩⟩
    case round =>
     clear H'
     obtain ⟨x6_2, x8_2, rfl, rfl, HA, HK2, HB⟩ := hrel
     cases gk with
     | zero => exact absurd HA.out (by simp [T_Sealed.l1])
     | succ k2 =>
      have H := HA.out
      clear HA
      simp only [T_Sealed.l1] at H
      by_cases c4 : 0 ≤ x7_1
      ·rw [if_pos c4] at H
       have c4b0 : decide (0 ≤ x7_1) = true := decide_eq_true c4
       clear c4
       by_cases c5 : x7_1 < (l0.length : Int)
       ·rw [if_pos c5] at H
        have c5b0 : decide (x7_1 < (l0.length : Int)) = true := decide_eq_true c5
        clear c5
        by_cases c6 : x8_2 < ((rdOf ByteArray.empty l0 x7_1).size : Int)
        ·rw [if_pos c6] at H
         have c6b0 : decide (x8_2 < ((rdOf ByteArray.empty l0 x7_1).size : Int)) = true := decide_eq_true c6
         clear c6
         by_cases c7 : 0 ≤ x8_2
         ·rw [if_pos c7] at H
          have c7b0 : decide (0 ≤ x8_2) = true := decide_eq_true c7
          clear c7
          have H' := Aside0.mk H
          clear H
          have p694 : 0 ≤ (x7_1 : Int) := of_decide_eq_true (by first | (with_reducible assumption) | assumption)
          have q694 : x7_1 < (l0.length : Int) := of_decide_eq_true (by first | (with_reducible assumption) | assumption)
          obtain ⟨ad694, e694, hx694_0⟩ := Kd.at_string HR0.out x7_1 p694 q694
          cases e694
          replace hx694_0 := (HB.out.cell (World.block_lt_of_cell? w _ hx694_0)).trans hx694_0
          replace p694 := eq_true p694
          replace q694 := eq_true q694
          have p695 : 0 ≤ (x7_1 : Int) := of_decide_eq_true (by first | (with_reducible assumption) | assumption)
          have q695 : x7_1 < (l0.length : Int) := of_decide_eq_true (by first | (with_reducible assumption) | assumption)
          obtain ⟨ad695, e695, hx695_0⟩ := Kd.at_string HR0.out x7_1 p695 q695
          obtain rfl : ad694 = ad695 := (by injection e695)
          replace hx695_0 := (HB.out.cell (World.block_lt_of_cell? w _ hx695_0)).trans hx695_0
          replace p695 := eq_true p695
          replace q695 := eq_true q695
          have p8 : 0 ≤ (x8_2 : Int) := of_decide_eq_true (by first | (with_reducible assumption) | assumption)
          have q8 : x8_2 < ((rdOf ByteArray.empty l0 x7_1).size : Int) := of_decide_eq_true (by first | (with_reducible assumption) | assumption)
          have hx8 := bt_at (rdOf ByteArray.empty l0 x7_1) x8_2
          replace p8 := eq_true p8
          replace q8 := eq_true q8
          go_wp2
          go_roundg k2
          case measure => have := HK1.out; have := HK2.out; omega
          case rel => exact ⟨(wrap64 (x6_2 + (wrap64 ((wrap64 ((wrap64 (bt (rdOf ByteArray.empty l0 x7_1) x8_2)) * (wrap64 (x8_2 + 1)))) * (wrap64 (x7_1 + 1)))))), (wrap64 (x8_2 + 1)), (by first | rfl | (simp; done) | (simp [*]; done)), (by first | rfl | (simp; done) | (simp [*]; done)), H', ⟨by have := HK1.out; have := HK2.out; omega⟩, ⟨by repeat (first | (with_reducible first | exact HB.out | apply below_alloc | apply pw_below_drewN | apply below_drew1) | exact HB.out)⟩⟩
         ·rw [if_neg c7] at H
          exact absurd H (by simp)
        ·rw [if_neg c6] at H
         have c6b0 : decide (x8_2 < ((rdOf ByteArray.empty l0 x7_1).size : Int)) = false := decide_eq_false c6
         clear c6
         by_cases c9 : x5_1.size + (rdOf ByteArray.empty l0 x7_1).size ≤ 9223372036854775807
         ·rw [if_pos c9] at H
          have c9b0 := eq_true c9
          have c9b1 : decide (x5_1.size + (rdOf ByteArray.empty l0 x7_1).size ≤ 9223372036854775807) = true := decide_eq_true c9
          try have c9b2 : (9223372036854775807 < x5_1.size + (rdOf ByteArray.empty l0 x7_1).size) = False := eq_false (Nat.not_lt.2 c9)
          by_cases c10 : (x5_1 ++ (rdOf ByteArray.empty l0 x7_1)).size + 1 ≤ 9223372036854775807
          ·rw [if_pos c10] at H
           have c10b0 := eq_true c10
           have c10b1 : decide ((x5_1 ++ (rdOf ByteArray.empty l0 x7_1)).size + 1 ≤ 9223372036854775807) = true := decide_eq_true c10
           try have c10b2 : (9223372036854775807 < (x5_1 ++ (rdOf ByteArray.empty l0 x7_1)).size + 1) = False := eq_false (Nat.not_lt.2 c10)
           try have c10b3 : (9223372036854775807 < x5_1.size + (rdOf ByteArray.empty l0 x7_1).size + 1) = False := eq_false (Nat.not_lt.2 (by have z_ := c10; (repeat rw [ByteArray.size_append] at z_); first | exact z_ | (simpa using z_) | (simp at z_; omega)))
           have H' := Aside0.mk H
           clear H
           have p694 : 0 ≤ (x7_1 : Int) := of_decide_eq_true (by first | (with_reducible assumption) | assumption)
           have q694 : x7_1 < (l0.length : Int) := of_decide_eq_true (by first | (with_reducible assumption) | assumption)
           obtain ⟨ad694, e694, hx694_0⟩ := Kd.at_string HR0.out x7_1 p694 q694
           cases e694
           replace hx694_0 := (HB.out.cell (World.block_lt_of_cell? w _ hx694_0)).trans hx694_0
           replace p694 := eq_true p694
           replace q694 := eq_true q694
           have p696 : 0 ≤ (x7_1 : Int) := of_decide_eq_true (by first | (with_reducible assumption) | assumption)
           have q696 : x7_1 < (l0.length : Int) := of_decide_eq_true (by first | (with_reducible assumption) | assumption)
           obtain ⟨ad696, e696, hx696_0⟩ := Kd.at_string HR0.out x7_1 p696 q696
           obtain rfl : ad694 = ad696 := (by injection e696)
           replace hx696_0 := (HB.out.cell (World.block_lt_of_cell? w _ hx696_0)).trans hx696_0
           replace p696 := eq_true p696
           replace q696 := eq_true q696
           go_wp2
           go_roundg k2
           case measure => have := HK1.out; have := HK2.out; omega
           case rel => exact ⟨((x5_1 ++ (rdOf ByteArray.empty l0 x7_1)) ++ (⟨#[10]⟩ : ByteArray)), (x6_2), (wrap64 (x7_1 + 1)), (by first | rfl | (simp; done) | (simp [*]; done)), (by first | rfl | (simp; done) | (simp [*]; done)), (by first | rfl | (simp; done) | (simp [*]; done)), H', ⟨by have := HK1.out; have := HK2.out; omega⟩, ⟨by repeat (first | (with_reducible first | exact HB.out | apply below_alloc | apply pw_below_drewN | apply below_drew1) | exact HB.out)⟩⟩
          ·rw [if_neg c10] at H
           exact absurd H (by simp)
         ·rw [if_neg c9] at H
          exact absurd H (by simp)
       ·rw [if_neg c5] at H
        exact absurd H (by simp)
      ·rw [if_neg c4] at H
       exact absurd H (by simp)
   ·rw [if_neg c3] at H
    have c3b0 : decide (x7_1 < (l0.length : Int)) = false := decide_eq_false c3
    clear c3
    by_cases c11 : a1 = 0
    ·rw [if_pos c11] at H
     exact absurd H (by simp)
    ·rw [if_neg c11] at H
     have c11b0 : (a1 == 0) = false := beq_eq_false_iff_ne.mpr c11
     have c11b1 : (a1 != 0) = true := bne_iff_ne.mpr c11
     by_cases c12 : x5_1.size + 4 ≤ 9223372036854775807
     ·rw [if_pos c12] at H
      have c12b0 := eq_true c12
      have c12b1 : decide (x5_1.size + 4 ≤ 9223372036854775807) = true := decide_eq_true c12
      try have c12b2 : (9223372036854775807 < x5_1.size + 4) = False := eq_false (Nat.not_lt.2 c12)
      replace H := Option.bind_eq_some_iff.mp H
      obtain ⟨t691, A130, H⟩ := H
      replace H : (if (x5_1 ++ (⟨#[101, 110, 100, 32]⟩ : ByteArray)).size + t691.size ≤ 9223372036854775807 then ((T_Decimal.f k1 (Int.tmod (wrap64 (Int.tdiv (Int.tmod x6_1 a1) 10)) 10)).bind fun t692 => (if ((x5_1 ++ (⟨#[101, 110, 100, 32]⟩ : ByteArray)) ++ t691).size + t692.size ≤ 9223372036854775807 then ((T_Decimal.f k1 (Int.tmod (Int.tmod x6_1 a1) 10)).bind fun t693 => (if (((x5_1 ++ (⟨#[101, 110, 100, 32]⟩ : ByteArray)) ++ t691) ++ t692).size + t693.size ≤ 9223372036854775807 then (if ((((x5_1 ++ (⟨#[101, 110, 100, 32]⟩ : ByteArray)) ++ t691) ++ t692) ++ t693).size + 1 ≤ 9223372036854775807 then (some (((((x5_1 ++ (⟨#[101, 110, 100, 32]⟩ : ByteArray)) ++ t691) ++ t692) ++ t693) ++ (⟨#[10]⟩ : ByteArray))) else (none)) else (none))) else (none))) else (none)) = some r := H
      have A13 := Aside0.mk A130
      clear A130
      by_cases c14 : (x5_1 ++ (⟨#[101, 110, 100, 32]⟩ : ByteArray)).size + t691.size ≤ 9223372036854775807
      ·rw [if_pos c14] at H
       have c14b0 := eq_true c14
       have c14b1 : decide ((x5_1 ++ (⟨#[101, 110, 100, 32]⟩ : ByteArray)).size + t691.size ≤ 9223372036854775807) = true := decide_eq_true c14
       try have c14b2 : (9223372036854775807 < (x5_1 ++ (⟨#[101, 110, 100, 32]⟩ : ByteArray)).size + t691.size) = False := eq_false (Nat.not_lt.2 c14)
       try have c14b3 : (9223372036854775807 < x5_1.size + 4 + t691.size) = False := eq_false (Nat.not_lt.2 (by have z_ := c14; (repeat rw [ByteArray.size_append] at z_); first | exact z_ | (simpa using z_) | (simp at z_; omega)))
       replace H := Option.bind_eq_some_iff.mp H
       obtain ⟨t692, A150, H⟩ := H
       replace H : (if ((x5_1 ++ (⟨#[101, 110, 100, 32]⟩ : ByteArray)) ++ t691).size + t692.size ≤ 9223372036854775807 then ((T_Decimal.f k1 (Int.tmod (Int.tmod x6_1 a1) 10)).bind fun t693 => (if (((x5_1 ++ (⟨#[101, 110, 100, 32]⟩ : ByteArray)) ++ t691) ++ t692).size + t693.size ≤ 9223372036854775807 then (if ((((x5_1 ++ (⟨#[101, 110, 100, 32]⟩ : ByteArray)) ++ t691) ++ t692) ++ t693).size + 1 ≤ 9223372036854775807 then (some (((((x5_1 ++ (⟨#[101, 110, 100, 32]⟩ : ByteArray)) ++ t691) ++ t692) ++ t693) ++ (⟨#[10]⟩ : ByteArray))) else (none)) else (none))) else (none)) = some r := H
       have A15 := Aside0.mk A150
       clear A150
       by_cases c16 : ((x5_1 ++ (⟨#[101, 110, 100, 32]⟩ : ByteArray)) ++ t691).size + t692.size ≤ 9223372036854775807
       ·rw [if_pos c16] at H
        have c16b0 := eq_true c16
        have c16b1 : decide (((x5_1 ++ (⟨#[101, 110, 100, 32]⟩ : ByteArray)) ++ t691).size + t692.size ≤ 9223372036854775807) = true := decide_eq_true c16
        try have c16b2 : (9223372036854775807 < ((x5_1 ++ (⟨#[101, 110, 100, 32]⟩ : ByteArray)) ++ t691).size + t692.size) = False := eq_false (Nat.not_lt.2 c16)
        try have c16b3 : (9223372036854775807 < x5_1.size + 4 + t691.size + t692.size) = False := eq_false (Nat.not_lt.2 (by have z_ := c16; (repeat rw [ByteArray.size_append] at z_); first | exact z_ | (simpa using z_) | (simp at z_; omega)))
        replace H := Option.bind_eq_some_iff.mp H
        obtain ⟨t693, A170, H⟩ := H
        replace H : (if (((x5_1 ++ (⟨#[101, 110, 100, 32]⟩ : ByteArray)) ++ t691) ++ t692).size + t693.size ≤ 9223372036854775807 then (if ((((x5_1 ++ (⟨#[101, 110, 100, 32]⟩ : ByteArray)) ++ t691) ++ t692) ++ t693).size + 1 ≤ 9223372036854775807 then (some (((((x5_1 ++ (⟨#[101, 110, 100, 32]⟩ : ByteArray)) ++ t691) ++ t692) ++ t693) ++ (⟨#[10]⟩ : ByteArray))) else (none)) else (none)) = some r := H
        have A17 := Aside0.mk A170
        clear A170
        by_cases c18 : (((x5_1 ++ (⟨#[101, 110, 100, 32]⟩ : ByteArray)) ++ t691) ++ t692).size + t693.size ≤ 9223372036854775807
        ·rw [if_pos c18] at H
         have c18b0 := eq_true c18
         have c18b1 : decide ((((x5_1 ++ (⟨#[101, 110, 100, 32]⟩ : ByteArray)) ++ t691) ++ t692).size + t693.size ≤ 9223372036854775807) = true := decide_eq_true c18
         try have c18b2 : (9223372036854775807 < (((x5_1 ++ (⟨#[101, 110, 100, 32]⟩ : ByteArray)) ++ t691) ++ t692).size + t693.size) = False := eq_false (Nat.not_lt.2 c18)
         try have c18b3 : (9223372036854775807 < x5_1.size + 4 + t691.size + t692.size + t693.size) = False := eq_false (Nat.not_lt.2 (by have z_ := c18; (repeat rw [ByteArray.size_append] at z_); first | exact z_ | (simpa using z_) | (simp at z_; omega)))
         by_cases c19 : ((((x5_1 ++ (⟨#[101, 110, 100, 32]⟩ : ByteArray)) ++ t691) ++ t692) ++ t693).size + 1 ≤ 9223372036854775807
         ·rw [if_pos c19] at H
          have c19b0 := eq_true c19
          have c19b1 : decide (((((x5_1 ++ (⟨#[101, 110, 100, 32]⟩ : ByteArray)) ++ t691) ++ t692) ++ t693).size + 1 ≤ 9223372036854775807) = true := decide_eq_true c19
          try have c19b2 : (9223372036854775807 < ((((x5_1 ++ (⟨#[101, 110, 100, 32]⟩ : ByteArray)) ++ t691) ++ t692) ++ t693).size + 1) = False := eq_false (Nat.not_lt.2 c19)
          try have c19b3 : (9223372036854775807 < x5_1.size + 4 + t691.size + t692.size + t693.size + 1) = False := eq_false (Nat.not_lt.2 (by have z_ := c19; (repeat rw [ByteArray.size_append] at z_); first | exact z_ | (simpa using z_) | (simp at z_; omega)))
          obtain rfl := Option.some.inj H
          go_wp2_with (first | ((with_reducible refine gate_callee (f := 126) rfl ?_); refine goesL_ (some 53) rfl rfl Tryz.func126 (by kernel_rfl) rfl #[.int .i64 (wrap64 (Int.tdiv (Int.tmod x6_1 a1) 100))] rfl (by (try simp only [List.map_toArray, List.map_cons, List.map_nil]); first | done | rfl | (simp only [List.length_drop, List.length_take]; rfl)) ?_; (with_reducible refine (T_Decimal.calls k1 (wrap64 (Int.tdiv (Int.tmod x6_1 a1) 100)) t691 _ A13.out).mono ?_); rintro e w20 ⟨rfl, hb⟩; refine ⟨_, rfl, ?_⟩; have n0_ := Aside0.mk (below_step (wup HB.out) hb); clear HB; have HB := n0_; clear n0_; (try clear hb); (try clear hb2); (try clear hk); (try clear hi)) | ((with_reducible refine gate_callee (f := 126) rfl ?_); refine goesL_ (some 58) rfl rfl Tryz.func126 (by kernel_rfl) rfl #[.int .i64 (Int.tmod (wrap64 (Int.tdiv (Int.tmod x6_1 a1) 10)) 10)] rfl (by (try simp only [List.map_toArray, List.map_cons, List.map_nil]); first | done | rfl | (simp only [List.length_drop, List.length_take]; rfl)) ?_; (with_reducible refine (T_Decimal.calls k1 (Int.tmod (wrap64 (Int.tdiv (Int.tmod x6_1 a1) 10)) 10) t692 _ A15.out).mono ?_); rintro e w21 ⟨rfl, hb⟩; refine ⟨_, rfl, ?_⟩; have n0_ := Aside0.mk (below_step (wup HB.out) hb); clear HB; have HB := n0_; clear n0_; (try clear hb); (try clear hb2); (try clear hk); (try clear hi)) | ((with_reducible refine gate_callee (f := 126) rfl ?_); refine goesL_ (some 62) rfl rfl Tryz.func126 (by kernel_rfl) rfl #[.int .i64 (Int.tmod (Int.tmod x6_1 a1) 10)] rfl (by (try simp only [List.map_toArray, List.map_cons, List.map_nil]); first | done | rfl | (simp only [List.length_drop, List.length_take]; rfl)) ?_; (with_reducible refine (T_Decimal.calls k1 (Int.tmod (Int.tmod x6_1 a1) 10) t693 _ A17.out).mono ?_); rintro e w22 ⟨rfl, hb⟩; refine ⟨_, rfl, ?_⟩; have n0_ := Aside0.mk (below_step (wup HB.out) hb); clear HB; have HB := n0_; clear n0_; (try clear hb); (try clear hb2); (try clear hk); (try clear hi)))
          go_ret
          exact ⟨by first | rfl | (simp [errW_none, errW_some] <;> rfl) | (simp [*, errW_none, errW_some] <;> rfl), by repeat (first | (with_reducible first | exact HB.out | apply below_alloc | apply pw_below_drewN | apply below_drew1) | exact HB.out)⟩
         ·rw [if_neg c19] at H
          exact absurd H (by simp)
        ·rw [if_neg c18] at H
         exact absurd H (by simp)
       ·rw [if_neg c16] at H
        exact absurd H (by simp)
      ·rw [if_neg c14] at H
       exact absurd H (by simp)
     ·rw [if_neg c12] at H
      exact absurd H (by simp)
end Go.Proofs.YtohlmoppcmjknaaGreatDoor.P
end
section
namespace Go.Proofs.YtohlmoppcmjknaaGreatDoor.P
open Go.RowKit Go.Proofs.YtohlmoppcmjknaaGreatDoorW.PrintWords Go.Proofs.YtohlmoppcmjknaaGreatDoorW.PrintLast Go.Proofs.YtohlmoppcmjknaaGreatDoorW.PrintMore
attribute [local go_sem] max2_int min2_int max_two min_two max_three min_three max_four min_four
set_option linter.unusedVariables false
set_option linter.unusedSimpArgs false
def R_Print.l0 : Nat → List ByteArray → Int → List Int → Int → Int → Int → Option (ByteArray)
 | 0, _, _, _, _, _, _ => none
 | k + 1, x3, x4, x698000, x698001, x698002, x698003 => if x4 < (x698000.length : Int) then (if 0 ≤ x4 then ((T_Row.f k (⟨#[114, 111, 119]⟩ : ByteArray) (([rd x698000 x4] : List Int))).bind fun t709 => (if x3.length < 8796093022208 then (R_Print.l0 k (x3 ++ [t709]) (wrap64 (x4 + 1)) x698000 x698001 x698002 x698003) else (none))) else (none)) else ((T_Sealed.f k x3 233).bind fun t713 => (some t713))
def R_Print.f (k : Nat) (l0_0 : List Int) (a0_1 : Int) (a0_2 : Int) (a0_3 : Int) : Option (ByteArray) := (T_Row.f k (⟨#[99, 111, 108, 117, 109, 110]⟩ : ByteArray) (([a0_1, a0_2, a0_3] : List Int))).bind fun t701 => (R_Print.l0 k (([t701] : List ByteArray)) 0 l0_0 a0_1 a0_2 a0_3)
theorem R_Print.mono_l : ∀ k, (∀ y0 y1 y2 y3 y4 y5, LeO (R_Print.l0 k y0 y1 y2 y3 y4 y5) (R_Print.l0 (k + 1) y0 y1 y2 y3 y4 y5))
 | 0 => fun _ _ _ _ _ _ r h => by simp [R_Print.l0] at h
 | k + 1 => by
  have ih0 := R_Print.mono_l k
  ·intro y0 y1 y2 y3 y4 y5
   unfold R_Print.l0
   repeat' first
   | (with_reducible exact ih0 _ _ _ _ _ _)
   | (with_reducible exact T_Row.mono _ _ _)
   | (with_reducible exact T_Sealed.mono _ _ _)
   | (with_reducible exact LeO.refl _)
   | (with_reducible exact LeO.none _)
   | (with_reducible refine LeO.ite ?_ ?_)
   | (with_reducible refine LeO.bind ?_ (fun _ => ?_))
   | exact ih0 _ _ _ _ _ _
   | exact T_Row.mono _ _ _
   | exact T_Sealed.mono _ _ _
   | exact LeO.none _
   | refine LeO.ite ?_ ?_
   | refine LeO.bind ?_ (fun _ => ?_)
theorem R_Print.mono : ∀ a0 a1 a2 a3 k, LeO (R_Print.f k a0 a1 a2 a3) (R_Print.f (k + 1) a0 a1 a2 a3) := by
 intro a0 a1 a2 a3 k
 have ih0 := R_Print.mono_l k
 unfold R_Print.f
 repeat' first
   | (with_reducible exact ih0 _ _ _ _ _ _)
   | (with_reducible exact T_Row.mono _ _ _)
   | (with_reducible exact T_Sealed.mono _ _ _)
   | (with_reducible exact LeO.refl _)
   | (with_reducible exact LeO.none _)
   | (with_reducible refine LeO.ite ?_ ?_)
   | (with_reducible refine LeO.bind ?_ (fun _ => ?_))
   | exact ih0 _ _ _ _ _ _
   | exact T_Row.mono _ _ _
   | exact T_Sealed.mono _ _ _
   | exact LeO.none _
   | refine LeO.ite ?_ ?_
   | refine LeO.bind ?_ (fun _ => ?_)
set_option maxHeartbeats 8000000 in
set_option maxRecDepth 100000 in
theorem R_Print.calls (k : Nat) (A0_0 : Option Addr) (c0_0 : Nat) (l0_0 : List Int) (a0_1 : Int) (a0_2 : Int) (a0_3 : Int) (r : ByteArray) (w : World) (hr0_0 : Kd.C (Kd.int .i64) w A0_0 l0_0.length l0_0) (hc0_0 : l0_0.length ≤ c0_0) (h : R_Print.f k l0_0 a0_1 a0_2 a0_3 = some r) :
  Calls Tryz.prog 54 #[.agg #[.slice A0_0 l0_0.length c0_0, .int .i64 a0_1, .int .i64 a0_2, .int .i64 a0_3]] w fun e w' => e = .returned (.string r) ∧ Below w.heap.size w w' := by
 have hu26 := Tryz.underlying26
 have HR0_0 := Aside0.mk hr0_0
 have HC0_0 := Aside0.mk hc0_0
 clear hr0_0 hc0_0
 have HB := Aside0.mk (Below.refl w.heap.size w)
 have H : ((T_Row.f k (⟨#[99, 111, 108, 117, 109, 110]⟩ : ByteArray) (([a0_1, a0_2, a0_3] : List Int))).bind fun t701 => (R_Print.l0 k (([t701] : List ByteArray)) 0 l0_0 a0_1 a0_2 a0_3)) = some r := h
 clear h
 obtain ⟨y698, hy698⟩ : ∃ y_ : List Int, y_ = (([a0_1, a0_2, a0_3] : List Int)) := ⟨_, rfl⟩
 replace H : ((T_Row.f k (⟨#[99, 111, 108, 117, 109, 110]⟩ : ByteArray) y698).bind fun t701 => (R_Print.l0 k (([t701] : List ByteArray)) 0 l0_0 a0_1 a0_2 a0_3)) = some r := by first | (rw [hy698]; with_reducible exact H) | (have H2_ := (Option.bind_some _ _).symm.trans H; rw [hy698]; with_reducible exact H2_) | (have H2_ := (Option.bind_some _ _).symm.trans H; with_reducible exact H2_) | with_reducible exact H | (rw [hy698]; exact H) | exact H
 have Ny698 := Aside0.mk hy698
 clear hy698
 replace H := Option.bind_eq_some_iff.mp H
 obtain ⟨t701, A20, H⟩ := H
 replace H : (R_Print.l0 k (([t701] : List ByteArray)) 0 l0_0 a0_1 a0_2 a0_3) = some r := H
 have A2 := Aside0.mk A20
 clear A20
 obtain ⟨y702, hy702⟩ : ∃ y_ : List ByteArray, y_ = (([t701] : List ByteArray)) := ⟨_, rfl⟩
 replace H : (R_Print.l0 k y702 0 l0_0 a0_1 a0_2 a0_3) = some r := by first | (rw [hy702]; with_reducible exact H) | (have H2_ := (Option.bind_some _ _).symm.trans H; rw [hy702]; with_reducible exact H2_) | (have H2_ := (Option.bind_some _ _).symm.trans H; with_reducible exact H2_) | with_reducible exact H | (rw [hy702]; exact H) | exact H
 have Ny702 := Aside0.mk hy702
 clear hy702
 have H' := Aside0.mk H
 clear H
 go_enter Tryz.func54, Tryz.ntmps54
 go_wp2_with (first | ((with_reducible refine gate_dst (N := 1) rfl ?_); refine box_event ?hg (N := 1) ?hd (cs := #[.slice A0_0 l0_0.length c0_0, .int .i64 a0_1, .int .i64 a0_2, .int .i64 a0_3]) (t := 26) ?hr ?_; (case hd => rfl); (case hg => rfl); (case hr => first | (go_simp; done) | (go_simp; rfl)); intro gb697 hg w3 hbox hb; have n0_ := Aside0.mk (below_step (wup HB.out) hb); have n1_ := Aside0.mk (hbox); have n2_ := Aside0.mk ((by rw [hg]; exact (below_size (wup HB.out)) : w.heap.size ≤ gb697)); have n3_ := Aside0.mk ((by rw [hg]; exact (below_size (wup HB.out)) : w.heap.size ≤ gb697)); clear HB; have HB := n0_; have BK697 := n1_; have GW697 := n2_; have GE697 := n3_; clear n0_ n1_ n2_ n3_; clear hb hbox hg; have hcz4_0 : w3.cell? ⟨gb697, 0, none⟩ = some (.slice A0_0 l0_0.length c0_0) := (blk_cell BK697.out 0).trans rfl; have hcz4_1 : w3.cell? ⟨gb697, 1, none⟩ = some (.int .i64 a0_1) := (blk_cell BK697.out 1).trans rfl; have hcz4_2 : w3.cell? ⟨gb697, 2, none⟩ = some (.int .i64 a0_2) := (blk_cell BK697.out 2).trans rfl; have hcz4_3 : w3.cell? ⟨gb697, 3, none⟩ = some (.int .i64 a0_3) := (blk_cell BK697.out 3).trans rfl; have hfz4_0 := blk_frozen BK697.out 0; have hfz4_1 := blk_frozen BK697.out 1; have hfz4_2 := blk_frozen BK697.out 2; have hfz4_3 := blk_frozen BK697.out 3) | ((with_reducible refine gate_dst (N := 13) rfl ?_); refine Kd.R_lit (Kd.int .i64) _ 3 ?hg (N := 13) ?hd (xs := ([a0_1, a0_2, a0_3] : List Int)) (inner := [.int .i64 a0_1, .int .i64 a0_2, .int .i64 a0_3]) (ok := fun _ => True) (okp := fun _ => True) ?hr ?hp (fun _ hk => hk) trivial (Below.refl _ _) (Nat.le_refl _) (by simp) ?_; (case hd => rfl); (case hg => rfl); (case hr => first | (go_simp; done) | (go_simp; rfl)); (case hp => exact (Reps.one (show Kd.M (Kd.int .i64) _ _ _ a0_1 [.int .i64 a0_1] from rfl) (Reps.one (show Kd.M (Kd.int .i64) _ _ _ a0_2 [.int .i64 a0_2] from rfl) (Reps.one (show Kd.M (Kd.int .i64) _ _ _ a0_3 [.int .i64 a0_3] from rfl) (Reps.none _ _))))); intro v699 w5 ho6 hb hg_ hnew_; clear hg_ hnew_; (first | rw [← Ny698.out] at ho6 | (simp only [Int.reduceToNat] at ho6; rw [← Ny698.out] at ho6)); have n0_ := Aside0.mk (Kd.R_lower ho6 (below_size (by repeat (first | (with_reducible first | exact HB.out | apply below_alloc | apply pw_below_drewN | apply below_drew1 | refine below_set ?_ GE697.out) | exact HB.out)))); have n1_ := Aside0.mk (blk_below (g := gb697) (o := .cells #[.slice A0_0 l0_0.length c0_0, .int .i64 a0_1, .int .i64 a0_2, .int .i64 a0_3] 26 (0, 0)) (bup BK697.out) hb); have n2_ := Aside0.mk (below_step (by repeat (first | (with_reducible first | exact HB.out | apply below_alloc | apply pw_below_drewN | apply below_drew1 | refine below_set ?_ GE697.out) | exact HB.out)) hb); clear BK697; clear HB; have HO700 := n0_; have BK697 := n1_; have HB := n2_; clear n0_ n1_ n2_; clear hb ho6; obtain ⟨Ao7, co7, eo7⟩ := Kd.R_slice HO700.out; subst eo7) | ((with_reducible refine gate_callee (f := 93) rfl ?_); refine goesL_ (some 14) rfl rfl Tryz.func93 (by kernel_rfl) rfl #[.string (⟨#[99, 111, 108, 117, 109, 110]⟩ : ByteArray), .slice Ao7 y698.length co7] rfl (by (try simp only [List.map_toArray, List.map_cons, List.map_nil]); first | done | rfl | (simp only [List.length_drop, List.length_take]; rfl)) ?_; (with_reducible refine (T_Row.calls k (⟨#[99, 111, 108, 117, 109, 110]⟩ : ByteArray) _ _ y698 t701 _ ?side1 ?side2 A2.out).mono ?_); (case side1 => repeat (first | exact (Kd.R_reads' HO700.out).2.2 | (with_reducible refine Kd.C_alloc ?_ _) | (with_reducible refine Kd.C_drewN ?_ _) | (with_reducible refine Kd.C_drew ?_))); (case side2 => exact (Kd.R_reads' HO700.out).2.1); rintro e w8 ⟨rfl, hb⟩; refine ⟨_, rfl, ?_⟩; have n0_ := Aside0.mk (Kd.R_below (rup HO700.out) hb); have n1_ := Aside0.mk (blk_below (g := gb697) (o := .cells #[.slice A0_0 l0_0.length c0_0, .int .i64 a0_1, .int .i64 a0_2, .int .i64 a0_3] 26 (0, 0)) (bup BK697.out) hb); have n2_ := Aside0.mk (below_step (by repeat (first | (with_reducible first | exact HB.out | apply below_alloc | apply pw_below_drewN | apply below_drew1 | refine below_set ?_ GE697.out) | exact HB.out)) hb); clear HO700; clear BK697; clear HB; have HO700 := n0_; have BK697 := n1_; have HB := n2_; clear n0_ n1_ n2_; (try clear hb); (try clear hb2); (try clear hk); (try clear hi)) | ((with_reducible refine gate_dst (N := 15) rfl ?_); refine Kd.R_lit Kd.string _ 9 ?hg (N := 15) ?hd (xs := ([t701] : List ByteArray)) (inner := [.string t701]) (ok := fun _ => True) (okp := fun _ => True) ?hr ?hp (fun _ hk => hk) trivial (Below.refl _ _) (Nat.le_refl _) (by simp) ?_; (case hd => rfl); (case hg => rfl); (case hr => first | (go_simp; done) | (go_simp; rfl)); (case hp => exact (Reps.one (show Kd.M Kd.string _ _ _ t701 [.string t701] from rfl) (Reps.none _ _))); intro v703 w9 ho10 hb hg_ hnew_; clear hg_ hnew_; (first | rw [← Ny702.out] at ho10 | (simp only [Int.reduceToNat] at ho10; rw [← Ny702.out] at ho10)); have n0_ := Aside0.mk (Kd.R_below (rup HO700.out) hb); have n1_ := Aside0.mk (Kd.R_lower ho10 (below_size (by repeat (first | (with_reducible first | exact HB.out | apply below_alloc | apply pw_below_drewN | apply below_drew1 | refine below_set ?_ GE697.out) | exact HB.out)))); have n2_ := Aside0.mk (blk_below (g := gb697) (o := .cells #[.slice A0_0 l0_0.length c0_0, .int .i64 a0_1, .int .i64 a0_2, .int .i64 a0_3] 26 (0, 0)) (bup BK697.out) hb); have n3_ := Aside0.mk (below_step (by repeat (first | (with_reducible first | exact HB.out | apply below_alloc | apply pw_below_drewN | apply below_drew1 | refine below_set ?_ GE697.out) | exact HB.out)) hb); clear HO700; clear BK697; clear HB; have HO700 := n0_; have HO704 := n1_; have BK697 := n2_; have HB := n3_; clear n0_ n1_ n2_ n3_; clear hb ho10))
 go_loopg [3, 4] k (fun kq v3 v4 w' => ∃ (x3_1 : List ByteArray) (x4_1 : Int), v4 = .int .i64 x4_1 ∧ Aside0 (R_Print.l0 kq x3_1 x4_1 l0_0 a0_1 a0_2 a0_3 = some r) ∧ Aside0 (kq ≤ k) ∧ Aside0 (Kd.R Kd.string 9 w' w.heap.size (fun _ => True) v3 x3_1) ∧ Aside0 (w'.heap[gb697]? = some (.cells #[(.slice A0_0 l0_0.length c0_0), .int .i64 a0_1, .int .i64 a0_2, .int .i64 a0_3] 26 (0, 0))) ∧ Aside0 (Below w.heap.size w w'))
 case atStart => exact ⟨(y702), (0), (by first | rfl | (simp; done) | (simp [*]; done)), H', ⟨Nat.le_refl _⟩, ⟨rup HO704.out⟩, ⟨bup BK697.out⟩, ⟨by repeat (first | (with_reducible first | exact HB.out | apply below_alloc | apply pw_below_drewN | apply below_drew1 | refine below_set ?_ GE697.out) | exact HB.out)⟩⟩
 case round =>
  clear H'
  obtain ⟨x3_1, x4_1, rfl, HA, HK1, HO_3, BK697, HB⟩ := hrel
  cases gk with
  | zero => exact absurd HA.out (by simp [R_Print.l0])
  | succ k1 =>
   have H := HA.out
   clear HA
   simp only [R_Print.l0] at H
   by_cases c11 : x4_1 < (l0_0.length : Int)
   ·rw [if_pos c11] at H
    have c11b0 : decide (x4_1 < (l0_0.length : Int)) = true := decide_eq_true c11
    clear c11
    by_cases c12 : 0 ≤ x4_1
    ·rw [if_pos c12] at H
     have c12b0 : decide (0 ≤ x4_1) = true := decide_eq_true c12
     clear c12
     obtain ⟨y706, hy706⟩ : ∃ y_ : List Int, y_ = (([rd l0_0 x4_1] : List Int)) := ⟨_, rfl⟩
     replace H : ((T_Row.f k1 (⟨#[114, 111, 119]⟩ : ByteArray) y706).bind fun t709 => (if x3_1.length < 8796093022208 then (R_Print.l0 k1 (x3_1 ++ [t709]) (wrap64 (x4_1 + 1)) l0_0 a0_1 a0_2 a0_3) else (none))) = some r := by first | (rw [hy706]; with_reducible exact H) | (have H2_ := (Option.bind_some _ _).symm.trans H; rw [hy706]; with_reducible exact H2_) | (have H2_ := (Option.bind_some _ _).symm.trans H; with_reducible exact H2_) | with_reducible exact H | (rw [hy706]; exact H) | exact H
     have Ny706 := Aside0.mk hy706
     clear hy706
     replace H := Option.bind_eq_some_iff.mp H
     obtain ⟨t709, A130, H⟩ := H
     replace H : (if x3_1.length < 8796093022208 then (R_Print.l0 k1 (x3_1 ++ [t709]) (wrap64 (x4_1 + 1)) l0_0 a0_1 a0_2 a0_3) else (none)) = some r := H
     have A13 := Aside0.mk A130
     clear A130
     by_cases c14 : x3_1.length < 8796093022208
     ·rw [if_pos c14] at H
      have LMc14 := Aside0.mk c14
      clear c14
      obtain ⟨y710, hy710⟩ : ∃ y_ : List ByteArray, y_ = (x3_1 ++ [t709]) := ⟨_, rfl⟩
      replace H : (R_Print.l0 k1 y710 (wrap64 (x4_1 + 1)) l0_0 a0_1 a0_2 a0_3) = some r := by first | (rw [hy710]; with_reducible exact H) | (have H2_ := (Option.bind_some _ _).symm.trans H; rw [hy710]; with_reducible exact H2_) | (have H2_ := (Option.bind_some _ _).symm.trans H; with_reducible exact H2_) | with_reducible exact H | (rw [hy710]; exact H) | exact H
      have Ny710 := Aside0.mk hy710
      clear hy710
      have H' := Aside0.mk H
      clear H
      have hcz15_0 : wr.cell? ⟨gb697, 0, none⟩ = some (.slice A0_0 l0_0.length c0_0) := (blk_cell BK697.out 0).trans rfl
      have hcz15_1 : wr.cell? ⟨gb697, 1, none⟩ = some (.int .i64 a0_1) := (blk_cell BK697.out 1).trans rfl
      have hcz15_2 : wr.cell? ⟨gb697, 2, none⟩ = some (.int .i64 a0_2) := (blk_cell BK697.out 2).trans rfl
      have hcz15_3 : wr.cell? ⟨gb697, 3, none⟩ = some (.int .i64 a0_3) := (blk_cell BK697.out 3).trans rfl
      have hfz15_0 := blk_frozen BK697.out 0
      have hfz15_1 := blk_frozen BK697.out 1
      have hfz15_2 := blk_frozen BK697.out 2
      have hfz15_3 := blk_frozen BK697.out 3
      have p705 : 0 ≤ (x4_1 : Int) := of_decide_eq_true (by first | (with_reducible assumption) | assumption)
      have q705 : x4_1 < (l0_0.length : Int) := of_decide_eq_true (by first | (with_reducible assumption) | assumption)
      obtain ⟨ad705, e705, hx705_0⟩ := Kd.at_int HR0_0.out x4_1 p705 q705
      cases e705
      replace hx705_0 := (HB.out.cell (World.block_lt_of_cell? w _ hx705_0)).trans hx705_0
      replace p705 := eq_true p705
      replace q705 := eq_true q705
      go_wp2_with (first | ((with_reducible refine gate_dst (N := 29) rfl ?_); refine Kd.R_lit (Kd.int .i64) _ 3 ?hg (N := 29) ?hd (xs := ([rd l0_0 x4_1] : List Int)) (inner := [.int .i64 (rd l0_0 x4_1)]) (ok := fun _ => True) (okp := fun _ => True) ?hr ?hp (fun _ hk => hk) trivial (Below.refl _ _) (Nat.le_refl _) (by simp) ?_; (case hd => rfl); (case hg => rfl); (case hr => first | (go_simp; done) | (go_simp; rfl)); (case hp => exact (Reps.one (show Kd.M (Kd.int .i64) _ _ _ (rd l0_0 x4_1) [.int .i64 (rd l0_0 x4_1)] from rfl) (Reps.none _ _))); intro v707 w16 ho17 hb hg_ hnew_; clear hg_ hnew_; (first | rw [← Ny706.out] at ho17 | (simp only [Int.reduceToNat] at ho17; rw [← Ny706.out] at ho17)); have n0_ := Aside0.mk (Kd.R_below (rup HO_3.out) hb); have n1_ := Aside0.mk (Kd.R_lower ho17 (below_size (by repeat (first | (with_reducible first | exact HB.out | apply below_alloc | apply pw_below_drewN | apply below_drew1 | refine below_set ?_ GE697.out) | exact HB.out)))); have n2_ := Aside0.mk (blk_below (g := gb697) (o := .cells #[.slice (some ad705) l0_0.length c0_0, .int .i64 a0_1, .int .i64 a0_2, .int .i64 a0_3] 26 (0, 0)) (bup BK697.out) hb); have n3_ := Aside0.mk (below_step (by repeat (first | (with_reducible first | exact HB.out | apply below_alloc | apply pw_below_drewN | apply below_drew1 | refine below_set ?_ GE697.out) | exact HB.out)) hb); clear HO_3; clear BK697; clear HB; have HO_3 := n0_; have HO708 := n1_; have BK697 := n2_; have HB := n3_; clear n0_ n1_ n2_ n3_; clear hb ho17; obtain ⟨Ao18, co18, eo18⟩ := Kd.R_slice HO708.out; subst eo18) | ((with_reducible refine gate_callee (f := 93) rfl ?_); refine goesL_ (some 30) rfl rfl Tryz.func93 (by kernel_rfl) rfl #[.string (⟨#[114, 111, 119]⟩ : ByteArray), .slice Ao18 y706.length co18] rfl (by (try simp only [List.map_toArray, List.map_cons, List.map_nil]); first | done | rfl | (simp only [List.length_drop, List.length_take]; rfl)) ?_; (with_reducible refine (T_Row.calls k1 (⟨#[114, 111, 119]⟩ : ByteArray) _ _ y706 t709 _ ?side1 ?side2 A13.out).mono ?_); (case side1 => repeat (first | exact (Kd.R_reads' HO708.out).2.2 | (with_reducible refine Kd.C_alloc ?_ _) | (with_reducible refine Kd.C_drewN ?_ _) | (with_reducible refine Kd.C_drew ?_))); (case side2 => exact (Kd.R_reads' HO708.out).2.1); rintro e w19 ⟨rfl, hb⟩; refine ⟨_, rfl, ?_⟩; have n0_ := Aside0.mk (Kd.R_below (rup HO_3.out) hb); have n1_ := Aside0.mk (Kd.R_below (rup HO708.out) hb); have n2_ := Aside0.mk (blk_below (g := gb697) (o := .cells #[.slice (some ad705) l0_0.length c0_0, .int .i64 a0_1, .int .i64 a0_2, .int .i64 a0_3] 26 (0, 0)) (bup BK697.out) hb); have n3_ := Aside0.mk (below_step (by repeat (first | (with_reducible first | exact HB.out | apply below_alloc | apply pw_below_drewN | apply below_drew1 | refine below_set ?_ GE697.out) | exact HB.out)) hb); clear HO_3; clear HO708; clear BK697; clear HB; have HO_3 := n0_; have HO708 := n1_; have BK697 := n2_; have HB := n3_; clear n0_ n1_ n2_ n3_; (try clear hb); (try clear hb2); (try clear hk); (try clear hi)) | ((with_reducible refine gate_builtin (b := .append) (xs := #[.tmp 23, .tmp 31]) rfl ?_); at_builtin; refine Kd.R_append Kd.string (w0 := w) w.heap.size rfl (.tmp 23) (.tmp 31) 112 9 (.string ⟨#[]⟩) 16 rfl Tryz.underlying112 info9 rfl (by decide) (by omega) u3 x3_1 t709 [.string t709] (fun _ => True) (fun _ => False) rfl rfl ?aP (fun _ hk => hk.elim) ?aF ?aO ?aB ?aS ?aL ?_; (case aP => exact rfl); (case aB => exact (by repeat (first | (with_reducible first | exact HB.out | apply below_alloc | apply pw_below_drewN | apply below_drew1 | refine below_set ?_ GE697.out) | exact HB.out))); (case aF => exact (fun _ _ => trivial)); (case aO => exact (rup HO_3.out)); (case aS => exact (below_size (by repeat (first | (with_reducible first | exact HB.out | apply below_alloc | apply pw_below_drewN | apply below_drew1 | refine below_set ?_ GE697.out) | exact HB.out)))); (case aL => have := LMc14.out; omega); intro v711 w20 ho hb hg hat; rw [← Ny710.out] at ho; have n0_ := Aside0.mk (blk_grown (g := gb697) (o := .cells #[.slice (some ad705) l0_0.length c0_0, .int .i64 a0_1, .int .i64 a0_2, .int .i64 a0_3] 26 (0, 0)) (bup BK697.out) hg (Kd.R_ne HO_3.out BK697.out (by decide))); have n1_ := Aside0.mk (Kd.R_over' (rup HO708.out) (Kd.R_typed (rup HO_3.out)) (by decide) hg); have n2_ := Aside0.mk (hb); have n3_ := Aside0.mk (ho); clear BK697; clear HO708; clear HB; clear HO_3; have BK697 := n0_; have HO708 := n1_; have HB := n2_; have HO712 := n3_; clear n0_ n1_ n2_ n3_; clear ho hb hg hat))
      go_roundg k1
      case measure => have := HK1.out; omega
      case rel => exact ⟨(y710), (wrap64 (x4_1 + 1)), (by first | rfl | (simp; done) | (simp [*]; done)), H', ⟨by have := HK1.out; omega⟩, ⟨rup HO712.out⟩, ⟨bup BK697.out⟩, ⟨by repeat (first | (with_reducible first | exact HB.out | apply below_alloc | apply pw_below_drewN | apply below_drew1 | refine below_set ?_ GE697.out) | exact HB.out)⟩⟩
     ·rw [if_neg c14] at H
      exact absurd H (by simp)
    ·rw [if_neg c12] at H
     exact absurd H (by simp)
   ·rw [if_neg c11] at H
    have c11b0 : decide (x4_1 < (l0_0.length : Int)) = false := decide_eq_false c11
    clear c11
    replace H := Option.bind_eq_some_iff.mp H
    obtain ⟨t713, A210, H⟩ := H
    replace H : (some t713) = some r := H
    have A21 := Aside0.mk A210
    clear A210
    obtain rfl := Option.some.inj H
    have hcz22_0 : wr.cell? ⟨gb697, 0, none⟩ = some (.slice A0_0 l0_0.length c0_0) := (blk_cell BK697.out 0).trans rfl
    have hcz22_1 : wr.cell? ⟨gb697, 1, none⟩ = some (.int .i64 a0_1) := (blk_cell BK697.out 1).trans rfl
    have hcz22_2 : wr.cell? ⟨gb697, 2, none⟩ = some (.int .i64 a0_2) := (blk_cell BK697.out 2).trans rfl
    have hcz22_3 : wr.cell? ⟨gb697, 3, none⟩ = some (.int .i64 a0_3) := (blk_cell BK697.out 3).trans rfl
    have hfz22_0 := blk_frozen BK697.out 0
    have hfz22_1 := blk_frozen BK697.out 1
    have hfz22_2 := blk_frozen BK697.out 2
    have hfz22_3 := blk_frozen BK697.out 3
    obtain ⟨Ao23, co23, eo23⟩ := Kd.R_slice HO_3.out
    subst eo23
    go_wp2_with (first | ((with_reducible refine gate_callee (f := 94) rfl ?_); refine goesL_ (some 34) rfl rfl Tryz.func94 (by kernel_rfl) rfl #[.slice Ao23 x3_1.length co23, .int .i64 233] rfl (by (try simp only [List.map_toArray, List.map_cons, List.map_nil]); first | done | rfl | (simp only [List.length_drop, List.length_take]; rfl)) ?_; (with_reducible refine (T_Sealed.calls k1 _ _ x3_1 233 t713 _ ?side1 ?side2 A21.out).mono ?_); (case side1 => repeat (first | exact (Kd.R_reads' HO_3.out).2.2 | (with_reducible refine Kd.C_alloc ?_ _) | (with_reducible refine Kd.C_drewN ?_ _) | (with_reducible refine Kd.C_drew ?_))); (case side2 => exact (Kd.R_reads' HO_3.out).2.1); rintro e w24 ⟨rfl, hb⟩; refine ⟨_, rfl, ?_⟩; have n0_ := Aside0.mk (Kd.R_below (rup HO_3.out) hb); have n1_ := Aside0.mk (blk_below (g := gb697) (o := .cells #[.slice A0_0 l0_0.length c0_0, .int .i64 a0_1, .int .i64 a0_2, .int .i64 a0_3] 26 (0, 0)) (bup BK697.out) hb); have n2_ := Aside0.mk (below_step (by repeat (first | (with_reducible first | exact HB.out | apply below_alloc | apply pw_below_drewN | apply below_drew1 | refine below_set ?_ GE697.out) | exact HB.out)) hb); clear HO_3; clear BK697; clear HB; have HO_3 := n0_; have BK697 := n1_; have HB := n2_; clear n0_ n1_ n2_; (try clear hb); (try clear hb2); (try clear hk); (try clear hi)))
    go_ret
    exact ⟨by first | rfl | (simp [errW_none, errW_some] <;> rfl) | (simp [*, errW_none, errW_some] <;> rfl), by repeat (first | (with_reducible first | exact HB.out | apply below_alloc | apply pw_below_drewN | apply below_drew1 | refine below_set ?_ GE697.out) | exact HB.out)⟩
end Go.Proofs.YtohlmoppcmjknaaGreatDoor.P
end
section
namespace Go.Proofs.YtohlmoppcmjknaaGreatDoor.P
open Go.RowKit Go.Proofs.YtohlmoppcmjknaaGreatDoorW.PrintWords Go.Proofs.YtohlmoppcmjknaaGreatDoorW.PrintLast Go.Proofs.YtohlmoppcmjknaaGreatDoorW.PrintMore
attribute [local go_sem] max2_int min2_int max_two min_two max_three min_three max_four min_four
set_option linter.unusedVariables false
set_option linter.unusedSimpArgs false
def L_of.f (l0 : List Int) : Option (List Int × Int × Int × Int) := (L_span.f 2 2).bind fun bt800 => (some (l0, 2, bt800.1, bt800.2))
set_option maxHeartbeats 8000000 in
set_option maxRecDepth 100000 in
theorem L_of.calls (P0_ : Nat → Prop) (u9000_ : Value) (l0 : List Int) (r1 : List Int) (r2 : Int) (r3 : Int) (r4 : Int) (w0 w : World) (hB : Below w0.heap.size w0 w) (ho0 : Kd.R (Kd.int .i64) 3 w w0.heap.size P0_ u9000_ l0) (h : L_of.f l0 = some (r1, r2, r3, r4)) :
  Calls Tryz.prog 97 #[u9000_] w fun e w' => ∃ v0_ : Value, e = .returned (.agg #[v0_, .int .i64 r2, .int .i64 r3, .int .i64 r4]) ∧ Kd.R (Kd.int .i64) 3 w' w0.heap.size (fun k_ => (P0_ k_ ∨ w.heap.size ≤ k_)) v0_ r1 ∧ Below w0.heap.size w0 w' ∧ Kept w w' (fun k_ => P0_ k_) := by
 have hu26 := Tryz.underlying26
 have HO0 := Aside0.mk (show Kd.R (Kd.int .i64) 3 w w0.heap.size (fun k_ => (P0_ k_ ∨ w.heap.size ≤ k_)) u9000_ l0 from Kd.R_mono ho0 (fun k_ hk => (.inl hk)))
 have HK := Aside0.mk (Kept.refl w (fun k_ => P0_ k_))
 have HW0 := Aside0.mk hB.size
 have HB := Aside0.mk hB
 clear hB
 have H : ((L_span.f 2 2).bind fun bt800 => (some (l0, 2, bt800.1, bt800.2))) = some (r1, r2, r3, r4) := h
 clear h
 replace H := Option.bind_eq_some_iff.mp H
 obtain ⟨⟨t800, t801⟩, A20, H⟩ := H
 replace H : (some (l0, 2, t800, t801)) = some (r1, r2, r3, r4) := H
 have A2 := Aside0.mk A20
 clear A20
 simp only [Option.some.injEq, Prod.mk.injEq] at H
 obtain ⟨rfl, rfl, rfl, rfl⟩ := H
 go_enter Tryz.func97, Tryz.ntmps97
 go_wp2_with (first | ((with_reducible refine gate_dst (N := 2) rfl ?_); refine box_event ?hg (N := 2) ?hd (cs := #[.slice none 0 0, .int .i64 0, .int .i64 0, .int .i64 0]) (t := 26) ?hr ?_; (case hd => rfl); (case hg => rfl); (case hr => first | (go_simp; done) | (go_simp; rfl)); intro gb799 hg w3 hbox hb; have n0_ := Aside0.mk (Kd.R_below (rup HO0.out) hb); have n1_ := Aside0.mk (Kept.below (S := (fun k_ => P0_ k_)) (by repeat (first | (with_reducible first | exact HK.out | apply Kept.alloc | apply Kept.drewN | apply Kept.drew) | exact HK.out)) hb); have n2_ := Aside0.mk (below_step (wup HB.out) hb); have n3_ := Aside0.mk (hbox); have n4_ := Aside0.mk ((by rw [hg]; exact (by first | exact HK.out.1 | exact (show Kept w _ (fun k_ => P0_ k_) from by repeat (first | (with_reducible first | exact HK.out | apply Kept.alloc | apply Kept.drewN | apply Kept.drew) | exact HK.out)).1) : w.heap.size ≤ gb799)); have n5_ := Aside0.mk ((by rw [hg]; exact (below_size (wup HB.out)) : w0.heap.size ≤ gb799)); clear HO0; clear HK; clear HB; have HO0 := n0_; have HK := n1_; have HB := n2_; have BK799 := n3_; have GW799 := n4_; have GE799 := n5_; clear n0_ n1_ n2_ n3_ n4_ n5_; clear hb hbox hg) | ((with_reducible refine gate_callee (f := 38) rfl ?_); refine goesL_ (some 4) rfl rfl Tryz.func38 (by kernel_rfl) rfl #[.int .i64 2, .int .i64 2] rfl (by (try simp only [List.map_toArray, List.map_cons, List.map_nil]); first | done | rfl | (simp only [List.length_drop, List.length_take]; rfl)) ?_; (with_reducible refine (L_span.calls 2 2 t800 t801 _ A2.out).mono ?_); rintro e w4 ⟨rfl, hb⟩; refine ⟨_, rfl, ?_⟩; have n0_ := Aside0.mk (Kd.R_below (rup HO0.out) hb); have n1_ := Aside0.mk (blk_below (g := gb799) (o := .cells #[.slice none 0 0, .int .i64 0, .int .i64 0, .int .i64 0] 26 (0, 0)) (bup BK799.out) hb); have n2_ := Aside0.mk (Kept.below (S := (fun k_ => P0_ k_)) (by repeat (first | (with_reducible first | exact HK.out | apply Kept.alloc | apply Kept.drewN | apply Kept.drew | refine Kept.setCell ?_ (.inr GW799.out) _) | exact HK.out)) hb); have n3_ := Aside0.mk (below_step (by repeat (first | (with_reducible first | exact HB.out | apply below_alloc | apply pw_below_drewN | apply below_drew1 | refine below_set ?_ GE799.out) | exact HB.out)) hb); clear HO0; clear BK799; clear HK; clear HB; have HO0 := n0_; have BK799 := n1_; have HK := n2_; have HB := n3_; clear n0_ n1_ n2_ n3_; (try clear hb); (try clear hb2); (try clear hk); (try clear hi); obtain ⟨Ao5, co5, eo5⟩ := Kd.R_slice HO0.out; subst eo5; have hcz6_0 : w4.cell? ⟨gb799, 0, none⟩ = some (.slice none 0 0) := (blk_cell BK799.out 0).trans rfl; have hcz6_1 : w4.cell? ⟨gb799, 1, none⟩ = some (.int .i64 0) := (blk_cell BK799.out 1).trans rfl; have hcz6_2 : w4.cell? ⟨gb799, 2, none⟩ = some (.int .i64 0) := (blk_cell BK799.out 2).trans rfl; have hcz6_3 : w4.cell? ⟨gb799, 3, none⟩ = some (.int .i64 0) := (blk_cell BK799.out 3).trans rfl; have hfz6_0 := blk_frozen BK799.out 0; have hfz6_1 := blk_frozen BK799.out 1; have hfz6_2 := blk_frozen BK799.out 2; have hfz6_3 := blk_frozen BK799.out 3))
 refine bodyPost_ret (results_cell_row rfl _ _ gb799 26 #[.slice Ao5 l0.length co5, .int .i64 2, .int .i64 t800, .int .i64 t801] (0, 0) _ rfl (by (with_reducible repeat (first | refine blk_drewN ?_ _ | refine blk_drew ?_ | refine blk_alloc ?_ _)); refine blk_put (cs := #[.slice Ao5 l0.length co5, .int .i64 2, .int .i64 t800, .int .i64 0]) ?_ 3 _ rfl; (with_reducible repeat (first | refine blk_drewN ?_ _ | refine blk_drew ?_ | refine blk_alloc ?_ _)); refine blk_put (cs := #[.slice Ao5 l0.length co5, .int .i64 2, .int .i64 0, .int .i64 0]) ?_ 2 _ rfl; (with_reducible repeat (first | refine blk_drewN ?_ _ | refine blk_drew ?_ | refine blk_alloc ?_ _)); refine blk_put (cs := #[.slice Ao5 l0.length co5, .int .i64 0, .int .i64 0, .int .i64 0]) ?_ 1 _ rfl; (with_reducible repeat (first | refine blk_drewN ?_ _ | refine blk_drew ?_ | refine blk_alloc ?_ _)); refine blk_put (cs := #[.slice none 0 0, .int .i64 0, .int .i64 0, .int .i64 0]) ?_ 0 _ rfl; (with_reducible repeat (first | refine blk_drewN ?_ _ | refine blk_drew ?_ | refine blk_alloc ?_ _)); exact BK799.out) Tryz.underlying26 rfl (by kernel_rfl)) rfl ?_
 exact ⟨_, by first | rfl | (simp [errW_none, errW_some] <;> rfl) | (simp [*, errW_none, errW_some] <;> rfl), by (with_reducible repeat (first | apply Kd.R_alloc | apply Kd.R_drewN | apply Kd.R_drew)); exact Kd.R_mono (Kd.R_far (p := ⟨gb799, 3, none⟩) (Kd.R_far (p := ⟨gb799, 2, none⟩) (Kd.R_far (p := ⟨gb799, 1, none⟩) (Kd.R_far (p := ⟨gb799, 0, none⟩) (Kd.R_types HO0.out BK799.out (by decide)) (fun _ hk => hk.2) (.slice Ao5 l0.length co5)) (fun _ hk => hk.2) (.int .i64 2)) (fun _ hk => hk.2) (.int .i64 t800)) (fun _ hk => hk.2) (.int .i64 t801)) (fun _ hk => hk.1), by repeat (first | (with_reducible first | exact HB.out | apply below_alloc | apply pw_below_drewN | apply below_drew1 | refine below_set ?_ GE799.out) | exact HB.out), by repeat (first | (with_reducible first | exact HK.out | apply Kept.alloc | apply Kept.drewN | apply Kept.drew | refine Kept.setCell ?_ (.inr GW799.out) _) | exact HK.out)⟩
end Go.Proofs.YtohlmoppcmjknaaGreatDoor.P
end
section
namespace Go.Proofs.YtohlmoppcmjknaaGreatDoor.P
open Go.RowKit Go.Proofs.YtohlmoppcmjknaaGreatDoorW.PrintWords Go.Proofs.YtohlmoppcmjknaaGreatDoorW.PrintLast Go.Proofs.YtohlmoppcmjknaaGreatDoorW.PrintMore
attribute [local go_sem] max2_int min2_int max_two min_two max_three min_three max_four min_four
set_option linter.unusedVariables false
set_option linter.unusedSimpArgs false
def L_A.f  : Option (List Int × Int × Int × Int) := (L_of.f (([0, 1, 4, 9, 16, 26, 36, 49] : List Int))).bind fun bt806 => (some (bt806.1, bt806.2.1, bt806.2.2.1, bt806.2.2.2))
set_option maxHeartbeats 8000000 in
set_option maxRecDepth 100000 in
theorem L_A.calls  (r1 : List Int) (r2 : Int) (r3 : Int) (r4 : Int) (w : World) (h : L_A.f  = some (r1, r2, r3, r4)) :
  Calls Tryz.prog 57 #[] w fun e w' => ∃ v0_ : Value, e = .returned (.agg #[v0_, .int .i64 r2, .int .i64 r3, .int .i64 r4]) ∧ Kd.R (Kd.int .i64) 3 w' w.heap.size (fun _ => True) v0_ r1 ∧ Below w.heap.size w w' := by
 have hu26 := Tryz.underlying26
 have HB := Aside0.mk (Below.refl w.heap.size w)
 have H : ((L_of.f (([0, 1, 4, 9, 16, 26, 36, 49] : List Int))).bind fun bt806 => (some (bt806.1, bt806.2.1, bt806.2.2.1, bt806.2.2.2))) = some (r1, r2, r3, r4) := h
 clear h
 obtain ⟨y803, hy803⟩ : ∃ y_ : List Int, y_ = (([0, 1, 4, 9, 16, 26, 36, 49] : List Int)) := ⟨_, rfl⟩
 replace H : ((L_of.f y803).bind fun bt806 => (some (bt806.1, bt806.2.1, bt806.2.2.1, bt806.2.2.2))) = some (r1, r2, r3, r4) := by first | (rw [hy803]; with_reducible exact H) | (have H2_ := (Option.bind_some _ _).symm.trans H; rw [hy803]; with_reducible exact H2_) | (have H2_ := (Option.bind_some _ _).symm.trans H; with_reducible exact H2_) | with_reducible exact H | (rw [hy803]; exact H) | exact H
 have Ny803 := Aside0.mk hy803
 clear hy803
 replace H := Option.bind_eq_some_iff.mp H
 obtain ⟨⟨t806, t809, t810, t811⟩, A10, H⟩ := H
 replace H : (some (t806, t809, t810, t811)) = some (r1, r2, r3, r4) := H
 have A1 := Aside0.mk A10
 clear A10
 simp only [Option.some.injEq, Prod.mk.injEq] at H
 obtain ⟨rfl, rfl, rfl, rfl⟩ := H
 go_enter Tryz.func57, Tryz.ntmps57
 go_wp2_with (first | ((with_reducible refine gate_dst (N := 0) rfl ?_); refine box_event ?hg (N := 0) ?hd (cs := #[.slice none 0 0, .int .i64 0, .int .i64 0, .int .i64 0]) (t := 26) ?hr ?_; (case hd => rfl); (case hg => rfl); (case hr => first | (go_simp; done) | (go_simp; rfl)); intro gb802 hg w2 hbox hb; have n0_ := Aside0.mk (below_step (wup HB.out) hb); have n1_ := Aside0.mk (hbox); have n2_ := Aside0.mk ((by rw [hg]; exact (below_size (wup HB.out)) : w.heap.size ≤ gb802)); have n3_ := Aside0.mk ((by rw [hg]; exact (below_size (wup HB.out)) : w.heap.size ≤ gb802)); clear HB; have HB := n0_; have BK802 := n1_; have GW802 := n2_; have GE802 := n3_; clear n0_ n1_ n2_ n3_; clear hb hbox hg) | ((with_reducible refine gate_dst (N := 1) rfl ?_); refine Kd.R_lit (Kd.int .i64) _ 3 ?hg (N := 1) ?hd (xs := ([0, 1, 4, 9, 16, 26, 36, 49] : List Int)) (inner := [.int .i64 0, .int .i64 1, .int .i64 4, .int .i64 9, .int .i64 16, .int .i64 26, .int .i64 36, .int .i64 49]) (ok := fun _ => True) (okp := fun _ => True) ?hr ?hp (fun _ hk => hk) trivial (Below.refl _ _) (Nat.le_refl _) (by simp) ?_; (case hd => rfl); (case hg => rfl); (case hr => first | (go_simp; done) | (go_simp; rfl)); (case hp => exact (Reps.one (show Kd.M (Kd.int .i64) _ _ _ 0 [.int .i64 0] from rfl) (Reps.one (show Kd.M (Kd.int .i64) _ _ _ 1 [.int .i64 1] from rfl) (Reps.one (show Kd.M (Kd.int .i64) _ _ _ 4 [.int .i64 4] from rfl) (Reps.one (show Kd.M (Kd.int .i64) _ _ _ 9 [.int .i64 9] from rfl) (Reps.one (show Kd.M (Kd.int .i64) _ _ _ 16 [.int .i64 16] from rfl) (Reps.one (show Kd.M (Kd.int .i64) _ _ _ 26 [.int .i64 26] from rfl) (Reps.one (show Kd.M (Kd.int .i64) _ _ _ 36 [.int .i64 36] from rfl) (Reps.one (show Kd.M (Kd.int .i64) _ _ _ 49 [.int .i64 49] from rfl) (Reps.none _ _)))))))))); intro v804 w3 ho4 hb hg_ hnew_; clear hg_ hnew_; (first | rw [← Ny803.out] at ho4 | (simp only [Int.reduceToNat] at ho4; rw [← Ny803.out] at ho4)); have n0_ := Aside0.mk (Kd.R_lower ho4 (below_size (by repeat (first | (with_reducible first | exact HB.out | apply below_alloc | apply pw_below_drewN | apply below_drew1 | refine below_set ?_ GE802.out) | exact HB.out)))); have n1_ := Aside0.mk (blk_below (g := gb802) (o := .cells #[.slice none 0 0, .int .i64 0, .int .i64 0, .int .i64 0] 26 (0, 0)) (bup BK802.out) hb); have n2_ := Aside0.mk (below_step (by repeat (first | (with_reducible first | exact HB.out | apply below_alloc | apply pw_below_drewN | apply below_drew1 | refine below_set ?_ GE802.out) | exact HB.out)) hb); clear BK802; clear HB; have HO805 := n0_; have BK802 := n1_; have HB := n2_; clear n0_ n1_ n2_; clear hb ho4; obtain ⟨Ao5, co5, eo5⟩ := Kd.R_slice HO805.out; subst eo5) | ((with_reducible refine gate_callee (f := 97) rfl ?_); refine goesL_ (some 2) rfl rfl Tryz.func97 (by kernel_rfl) rfl #[.slice Ao5 y803.length co5] rfl (by (try simp only [List.map_toArray, List.map_cons, List.map_nil]); first | done | rfl | (simp only [List.length_drop, List.length_take]; rfl)) ?_; (with_reducible refine (L_of.calls (fun k_ => some k_ = (.slice Ao5 y803.length co5 : Value).ownBlock) (.slice Ao5 y803.length co5) y803 t806 t809 t810 t811 w _ ?side1 ?side2 A1.out).mono ?_); (case side1 => repeat (first | (with_reducible first | exact HB.out | apply below_alloc | apply pw_below_drewN | apply below_drew1 | refine below_set ?_ GE802.out) | exact HB.out)); (case side2 => exact Kd.R_tight rfl HO805.out); rintro e w6 ⟨v807, rfl, ho0, hb, hkp⟩; refine ⟨_, rfl, ?_⟩; have n0_ := Aside0.mk (blk_kept (bup BK802.out) hkp (fun hs_ => (fun e_ => (Kd.R_ne HO805.out BK802.out (by decide)) e_) hs_)); have n1_ := Aside0.mk (Kd.R_mono (ok' := fun k_ => True) ho0 (fun k_ hk_ => trivial)); have n2_ := Aside0.mk (hb); clear BK802; clear HB; clear HO805; have BK802 := n0_; have HO808 := n1_; have HB := n2_; clear n0_ n1_ n2_; (try clear hb); (try clear hkp); (try clear ho0); obtain ⟨Ao7, co7, eo7⟩ := Kd.R_slice HO808.out; subst eo7; have hcz8_0 : w6.cell? ⟨gb802, 0, none⟩ = some (.slice none 0 0) := (blk_cell BK802.out 0).trans rfl; have hcz8_1 : w6.cell? ⟨gb802, 1, none⟩ = some (.int .i64 0) := (blk_cell BK802.out 1).trans rfl; have hcz8_2 : w6.cell? ⟨gb802, 2, none⟩ = some (.int .i64 0) := (blk_cell BK802.out 2).trans rfl; have hcz8_3 : w6.cell? ⟨gb802, 3, none⟩ = some (.int .i64 0) := (blk_cell BK802.out 3).trans rfl; have hfz8_0 := blk_frozen BK802.out 0; have hfz8_1 := blk_frozen BK802.out 1; have hfz8_2 := blk_frozen BK802.out 2; have hfz8_3 := blk_frozen BK802.out 3))
 refine bodyPost_ret (results_cell_row rfl _ _ gb802 26 #[.slice Ao7 t806.length co7, .int .i64 t809, .int .i64 t810, .int .i64 t811] (0, 0) _ rfl (by (with_reducible repeat (first | refine blk_drewN ?_ _ | refine blk_drew ?_ | refine blk_alloc ?_ _)); refine blk_put (cs := #[.slice Ao7 t806.length co7, .int .i64 t809, .int .i64 t810, .int .i64 0]) ?_ 3 _ rfl; (with_reducible repeat (first | refine blk_drewN ?_ _ | refine blk_drew ?_ | refine blk_alloc ?_ _)); refine blk_put (cs := #[.slice Ao7 t806.length co7, .int .i64 t809, .int .i64 0, .int .i64 0]) ?_ 2 _ rfl; (with_reducible repeat (first | refine blk_drewN ?_ _ | refine blk_drew ?_ | refine blk_alloc ?_ _)); refine blk_put (cs := #[.slice Ao7 t806.length co7, .int .i64 0, .int .i64 0, .int .i64 0]) ?_ 1 _ rfl; (with_reducible repeat (first | refine blk_drewN ?_ _ | refine blk_drew ?_ | refine blk_alloc ?_ _)); refine blk_put (cs := #[.slice none 0 0, .int .i64 0, .int .i64 0, .int .i64 0]) ?_ 0 _ rfl; (with_reducible repeat (first | refine blk_drewN ?_ _ | refine blk_drew ?_ | refine blk_alloc ?_ _)); exact BK802.out) Tryz.underlying26 rfl (by kernel_rfl)) rfl ?_
 exact ⟨_, by first | rfl | (simp [errW_none, errW_some] <;> rfl) | (simp [*, errW_none, errW_some] <;> rfl), by (with_reducible repeat (first | apply Kd.R_alloc | apply Kd.R_drewN | apply Kd.R_drew)); exact Kd.R_mono (Kd.R_far (p := ⟨gb802, 3, none⟩) (Kd.R_far (p := ⟨gb802, 2, none⟩) (Kd.R_far (p := ⟨gb802, 1, none⟩) (Kd.R_far (p := ⟨gb802, 0, none⟩) (Kd.R_types HO808.out BK802.out (by decide)) (fun _ hk => hk.2) (.slice Ao7 t806.length co7)) (fun _ hk => hk.2) (.int .i64 t809)) (fun _ hk => hk.2) (.int .i64 t810)) (fun _ hk => hk.2) (.int .i64 t811)) (fun _ hk => trivial), by repeat (first | (with_reducible first | exact HB.out | apply below_alloc | apply pw_below_drewN | apply below_drew1 | refine below_set ?_ GE802.out) | exact HB.out)⟩
end Go.Proofs.YtohlmoppcmjknaaGreatDoor.P
end
section
namespace Go.Proofs.YtohlmoppcmjknaaGreatDoor.P
open Go.RowKit Go.Proofs.YtohlmoppcmjknaaGreatDoorW.PrintWords Go.Proofs.YtohlmoppcmjknaaGreatDoorW.PrintLast Go.Proofs.YtohlmoppcmjknaaGreatDoorW.PrintMore
attribute [local go_sem] max2_int min2_int max_two min_two max_three min_three max_four min_four
set_option linter.unusedVariables false
set_option linter.unusedSimpArgs false
def L_D.f  : Option (List Int × Int × Int × Int) := (L_of.f (([0, 1, 4, 9, 16] : List Int))).bind fun bt836 => (some (bt836.1, bt836.2.1, bt836.2.2.1, bt836.2.2.2))
set_option maxHeartbeats 8000000 in
set_option maxRecDepth 100000 in
theorem L_D.calls  (r1 : List Int) (r2 : Int) (r3 : Int) (r4 : Int) (w : World) (h : L_D.f  = some (r1, r2, r3, r4)) :
  Calls Tryz.prog 58 #[] w fun e w' => ∃ v0_ : Value, e = .returned (.agg #[v0_, .int .i64 r2, .int .i64 r3, .int .i64 r4]) ∧ Kd.R (Kd.int .i64) 3 w' w.heap.size (fun _ => True) v0_ r1 ∧ Below w.heap.size w w' := by
 have hu26 := Tryz.underlying26
 have HB := Aside0.mk (Below.refl w.heap.size w)
 have H : ((L_of.f (([0, 1, 4, 9, 16] : List Int))).bind fun bt836 => (some (bt836.1, bt836.2.1, bt836.2.2.1, bt836.2.2.2))) = some (r1, r2, r3, r4) := h
 clear h
 obtain ⟨y833, hy833⟩ : ∃ y_ : List Int, y_ = (([0, 1, 4, 9, 16] : List Int)) := ⟨_, rfl⟩
 replace H : ((L_of.f y833).bind fun bt836 => (some (bt836.1, bt836.2.1, bt836.2.2.1, bt836.2.2.2))) = some (r1, r2, r3, r4) := by first | (rw [hy833]; with_reducible exact H) | (have H2_ := (Option.bind_some _ _).symm.trans H; rw [hy833]; with_reducible exact H2_) | (have H2_ := (Option.bind_some _ _).symm.trans H; with_reducible exact H2_) | with_reducible exact H | (rw [hy833]; exact H) | exact H
 have Ny833 := Aside0.mk hy833
 clear hy833
 replace H := Option.bind_eq_some_iff.mp H
 obtain ⟨⟨t836, t839, t840, t841⟩, A10, H⟩ := H
 replace H : (some (t836, t839, t840, t841)) = some (r1, r2, r3, r4) := H
 have A1 := Aside0.mk A10
 clear A10
 simp only [Option.some.injEq, Prod.mk.injEq] at H
 obtain ⟨rfl, rfl, rfl, rfl⟩ := H
 go_enter Tryz.func58, Tryz.ntmps58
 go_wp2_with (first | ((with_reducible refine gate_dst (N := 0) rfl ?_); refine box_event ?hg (N := 0) ?hd (cs := #[.slice none 0 0, .int .i64 0, .int .i64 0, .int .i64 0]) (t := 26) ?hr ?_; (case hd => rfl); (case hg => rfl); (case hr => first | (go_simp; done) | (go_simp; rfl)); intro gb832 hg w2 hbox hb; have n0_ := Aside0.mk (below_step (wup HB.out) hb); have n1_ := Aside0.mk (hbox); have n2_ := Aside0.mk ((by rw [hg]; exact (below_size (wup HB.out)) : w.heap.size ≤ gb832)); have n3_ := Aside0.mk ((by rw [hg]; exact (below_size (wup HB.out)) : w.heap.size ≤ gb832)); clear HB; have HB := n0_; have BK832 := n1_; have GW832 := n2_; have GE832 := n3_; clear n0_ n1_ n2_ n3_; clear hb hbox hg) | ((with_reducible refine gate_dst (N := 1) rfl ?_); refine Kd.R_lit (Kd.int .i64) _ 3 ?hg (N := 1) ?hd (xs := ([0, 1, 4, 9, 16] : List Int)) (inner := [.int .i64 0, .int .i64 1, .int .i64 4, .int .i64 9, .int .i64 16]) (ok := fun _ => True) (okp := fun _ => True) ?hr ?hp (fun _ hk => hk) trivial (Below.refl _ _) (Nat.le_refl _) (by simp) ?_; (case hd => rfl); (case hg => rfl); (case hr => first | (go_simp; done) | (go_simp; rfl)); (case hp => exact (Reps.one (show Kd.M (Kd.int .i64) _ _ _ 0 [.int .i64 0] from rfl) (Reps.one (show Kd.M (Kd.int .i64) _ _ _ 1 [.int .i64 1] from rfl) (Reps.one (show Kd.M (Kd.int .i64) _ _ _ 4 [.int .i64 4] from rfl) (Reps.one (show Kd.M (Kd.int .i64) _ _ _ 9 [.int .i64 9] from rfl) (Reps.one (show Kd.M (Kd.int .i64) _ _ _ 16 [.int .i64 16] from rfl) (Reps.none _ _))))))); intro v834 w3 ho4 hb hg_ hnew_; clear hg_ hnew_; (first | rw [← Ny833.out] at ho4 | (simp only [Int.reduceToNat] at ho4; rw [← Ny833.out] at ho4)); have n0_ := Aside0.mk (Kd.R_lower ho4 (below_size (by repeat (first | (with_reducible first | exact HB.out | apply below_alloc | apply pw_below_drewN | apply below_drew1 | refine below_set ?_ GE832.out) | exact HB.out)))); have n1_ := Aside0.mk (blk_below (g := gb832) (o := .cells #[.slice none 0 0, .int .i64 0, .int .i64 0, .int .i64 0] 26 (0, 0)) (bup BK832.out) hb); have n2_ := Aside0.mk (below_step (by repeat (first | (with_reducible first | exact HB.out | apply below_alloc | apply pw_below_drewN | apply below_drew1 | refine below_set ?_ GE832.out) | exact HB.out)) hb); clear BK832; clear HB; have HO835 := n0_; have BK832 := n1_; have HB := n2_; clear n0_ n1_ n2_; clear hb ho4; obtain ⟨Ao5, co5, eo5⟩ := Kd.R_slice HO835.out; subst eo5) | ((with_reducible refine gate_callee (f := 97) rfl ?_); refine goesL_ (some 2) rfl rfl Tryz.func97 (by kernel_rfl) rfl #[.slice Ao5 y833.length co5] rfl (by (try simp only [List.map_toArray, List.map_cons, List.map_nil]); first | done | rfl | (simp only [List.length_drop, List.length_take]; rfl)) ?_; (with_reducible refine (L_of.calls (fun k_ => some k_ = (.slice Ao5 y833.length co5 : Value).ownBlock) (.slice Ao5 y833.length co5) y833 t836 t839 t840 t841 w _ ?side1 ?side2 A1.out).mono ?_); (case side1 => repeat (first | (with_reducible first | exact HB.out | apply below_alloc | apply pw_below_drewN | apply below_drew1 | refine below_set ?_ GE832.out) | exact HB.out)); (case side2 => exact Kd.R_tight rfl HO835.out); rintro e w6 ⟨v837, rfl, ho0, hb, hkp⟩; refine ⟨_, rfl, ?_⟩; have n0_ := Aside0.mk (blk_kept (bup BK832.out) hkp (fun hs_ => (fun e_ => (Kd.R_ne HO835.out BK832.out (by decide)) e_) hs_)); have n1_ := Aside0.mk (Kd.R_mono (ok' := fun k_ => True) ho0 (fun k_ hk_ => trivial)); have n2_ := Aside0.mk (hb); clear BK832; clear HB; clear HO835; have BK832 := n0_; have HO838 := n1_; have HB := n2_; clear n0_ n1_ n2_; (try clear hb); (try clear hkp); (try clear ho0); obtain ⟨Ao7, co7, eo7⟩ := Kd.R_slice HO838.out; subst eo7; have hcz8_0 : w6.cell? ⟨gb832, 0, none⟩ = some (.slice none 0 0) := (blk_cell BK832.out 0).trans rfl; have hcz8_1 : w6.cell? ⟨gb832, 1, none⟩ = some (.int .i64 0) := (blk_cell BK832.out 1).trans rfl; have hcz8_2 : w6.cell? ⟨gb832, 2, none⟩ = some (.int .i64 0) := (blk_cell BK832.out 2).trans rfl; have hcz8_3 : w6.cell? ⟨gb832, 3, none⟩ = some (.int .i64 0) := (blk_cell BK832.out 3).trans rfl; have hfz8_0 := blk_frozen BK832.out 0; have hfz8_1 := blk_frozen BK832.out 1; have hfz8_2 := blk_frozen BK832.out 2; have hfz8_3 := blk_frozen BK832.out 3))
 refine bodyPost_ret (results_cell_row rfl _ _ gb832 26 #[.slice Ao7 t836.length co7, .int .i64 t839, .int .i64 t840, .int .i64 t841] (0, 0) _ rfl (by (with_reducible repeat (first | refine blk_drewN ?_ _ | refine blk_drew ?_ | refine blk_alloc ?_ _)); refine blk_put (cs := #[.slice Ao7 t836.length co7, .int .i64 t839, .int .i64 t840, .int .i64 0]) ?_ 3 _ rfl; (with_reducible repeat (first | refine blk_drewN ?_ _ | refine blk_drew ?_ | refine blk_alloc ?_ _)); refine blk_put (cs := #[.slice Ao7 t836.length co7, .int .i64 t839, .int .i64 0, .int .i64 0]) ?_ 2 _ rfl; (with_reducible repeat (first | refine blk_drewN ?_ _ | refine blk_drew ?_ | refine blk_alloc ?_ _)); refine blk_put (cs := #[.slice Ao7 t836.length co7, .int .i64 0, .int .i64 0, .int .i64 0]) ?_ 1 _ rfl; (with_reducible repeat (first | refine blk_drewN ?_ _ | refine blk_drew ?_ | refine blk_alloc ?_ _)); refine blk_put (cs := #[.slice none 0 0, .int .i64 0, .int .i64 0, .int .i64 0]) ?_ 0 _ rfl; (with_reducible repeat (first | refine blk_drewN ?_ _ | refine blk_drew ?_ | refine blk_alloc ?_ _)); exact BK832.out) Tryz.underlying26 rfl (by kernel_rfl)) rfl ?_
 exact ⟨_, by first | rfl | (simp [errW_none, errW_some] <;> rfl) | (simp [*, errW_none, errW_some] <;> rfl), by (with_reducible repeat (first | apply Kd.R_alloc | apply Kd.R_drewN | apply Kd.R_drew)); exact Kd.R_mono (Kd.R_far (p := ⟨gb832, 3, none⟩) (Kd.R_far (p := ⟨gb832, 2, none⟩) (Kd.R_far (p := ⟨gb832, 1, none⟩) (Kd.R_far (p := ⟨gb832, 0, none⟩) (Kd.R_types HO838.out BK832.out (by decide)) (fun _ hk => hk.2) (.slice Ao7 t836.length co7)) (fun _ hk => hk.2) (.int .i64 t839)) (fun _ hk => hk.2) (.int .i64 t840)) (fun _ hk => hk.2) (.int .i64 t841)) (fun _ hk => trivial), by repeat (first | (with_reducible first | exact HB.out | apply below_alloc | apply pw_below_drewN | apply below_drew1 | refine below_set ?_ GE832.out) | exact HB.out)⟩
end Go.Proofs.YtohlmoppcmjknaaGreatDoor.P
end
section
namespace Go.Proofs.YtohlmoppcmjknaaGreatDoor.P
open Go.RowKit Go.Proofs.YtohlmoppcmjknaaGreatDoorW.PrintWords Go.Proofs.YtohlmoppcmjknaaGreatDoorW.PrintLast Go.Proofs.YtohlmoppcmjknaaGreatDoorW.PrintMore
attribute [local go_sem] max2_int min2_int max_two min_two max_three min_three max_four min_four
set_option linter.unusedVariables false
set_option linter.unusedSimpArgs false
def L_C.f  : Option (List Int × Int × Int × Int) := (L_of.f (([0, 1, 9, 4, 16, 25] : List Int))).bind fun bt826 => (some (bt826.1, bt826.2.1, bt826.2.2.1, bt826.2.2.2))
set_option maxHeartbeats 8000000 in
set_option maxRecDepth 100000 in
theorem L_C.calls  (r1 : List Int) (r2 : Int) (r3 : Int) (r4 : Int) (w : World) (h : L_C.f  = some (r1, r2, r3, r4)) :
  Calls Tryz.prog 59 #[] w fun e w' => ∃ v0_ : Value, e = .returned (.agg #[v0_, .int .i64 r2, .int .i64 r3, .int .i64 r4]) ∧ Kd.R (Kd.int .i64) 3 w' w.heap.size (fun _ => True) v0_ r1 ∧ Below w.heap.size w w' := by
 have hu26 := Tryz.underlying26
 have HB := Aside0.mk (Below.refl w.heap.size w)
 have H : ((L_of.f (([0, 1, 9, 4, 16, 25] : List Int))).bind fun bt826 => (some (bt826.1, bt826.2.1, bt826.2.2.1, bt826.2.2.2))) = some (r1, r2, r3, r4) := h
 clear h
 obtain ⟨y823, hy823⟩ : ∃ y_ : List Int, y_ = (([0, 1, 9, 4, 16, 25] : List Int)) := ⟨_, rfl⟩
 replace H : ((L_of.f y823).bind fun bt826 => (some (bt826.1, bt826.2.1, bt826.2.2.1, bt826.2.2.2))) = some (r1, r2, r3, r4) := by first | (rw [hy823]; with_reducible exact H) | (have H2_ := (Option.bind_some _ _).symm.trans H; rw [hy823]; with_reducible exact H2_) | (have H2_ := (Option.bind_some _ _).symm.trans H; with_reducible exact H2_) | with_reducible exact H | (rw [hy823]; exact H) | exact H
 have Ny823 := Aside0.mk hy823
 clear hy823
 replace H := Option.bind_eq_some_iff.mp H
 obtain ⟨⟨t826, t829, t830, t831⟩, A10, H⟩ := H
 replace H : (some (t826, t829, t830, t831)) = some (r1, r2, r3, r4) := H
 have A1 := Aside0.mk A10
 clear A10
 simp only [Option.some.injEq, Prod.mk.injEq] at H
 obtain ⟨rfl, rfl, rfl, rfl⟩ := H
 go_enter Tryz.func59, Tryz.ntmps59
 go_wp2_with (first | ((with_reducible refine gate_dst (N := 0) rfl ?_); refine box_event ?hg (N := 0) ?hd (cs := #[.slice none 0 0, .int .i64 0, .int .i64 0, .int .i64 0]) (t := 26) ?hr ?_; (case hd => rfl); (case hg => rfl); (case hr => first | (go_simp; done) | (go_simp; rfl)); intro gb822 hg w2 hbox hb; have n0_ := Aside0.mk (below_step (wup HB.out) hb); have n1_ := Aside0.mk (hbox); have n2_ := Aside0.mk ((by rw [hg]; exact (below_size (wup HB.out)) : w.heap.size ≤ gb822)); have n3_ := Aside0.mk ((by rw [hg]; exact (below_size (wup HB.out)) : w.heap.size ≤ gb822)); clear HB; have HB := n0_; have BK822 := n1_; have GW822 := n2_; have GE822 := n3_; clear n0_ n1_ n2_ n3_; clear hb hbox hg) | ((with_reducible refine gate_dst (N := 1) rfl ?_); refine Kd.R_lit (Kd.int .i64) _ 3 ?hg (N := 1) ?hd (xs := ([0, 1, 9, 4, 16, 25] : List Int)) (inner := [.int .i64 0, .int .i64 1, .int .i64 9, .int .i64 4, .int .i64 16, .int .i64 25]) (ok := fun _ => True) (okp := fun _ => True) ?hr ?hp (fun _ hk => hk) trivial (Below.refl _ _) (Nat.le_refl _) (by simp) ?_; (case hd => rfl); (case hg => rfl); (case hr => first | (go_simp; done) | (go_simp; rfl)); (case hp => exact (Reps.one (show Kd.M (Kd.int .i64) _ _ _ 0 [.int .i64 0] from rfl) (Reps.one (show Kd.M (Kd.int .i64) _ _ _ 1 [.int .i64 1] from rfl) (Reps.one (show Kd.M (Kd.int .i64) _ _ _ 9 [.int .i64 9] from rfl) (Reps.one (show Kd.M (Kd.int .i64) _ _ _ 4 [.int .i64 4] from rfl) (Reps.one (show Kd.M (Kd.int .i64) _ _ _ 16 [.int .i64 16] from rfl) (Reps.one (show Kd.M (Kd.int .i64) _ _ _ 25 [.int .i64 25] from rfl) (Reps.none _ _)))))))); intro v824 w3 ho4 hb hg_ hnew_; clear hg_ hnew_; (first | rw [← Ny823.out] at ho4 | (simp only [Int.reduceToNat] at ho4; rw [← Ny823.out] at ho4)); have n0_ := Aside0.mk (Kd.R_lower ho4 (below_size (by repeat (first | (with_reducible first | exact HB.out | apply below_alloc | apply pw_below_drewN | apply below_drew1 | refine below_set ?_ GE822.out) | exact HB.out)))); have n1_ := Aside0.mk (blk_below (g := gb822) (o := .cells #[.slice none 0 0, .int .i64 0, .int .i64 0, .int .i64 0] 26 (0, 0)) (bup BK822.out) hb); have n2_ := Aside0.mk (below_step (by repeat (first | (with_reducible first | exact HB.out | apply below_alloc | apply pw_below_drewN | apply below_drew1 | refine below_set ?_ GE822.out) | exact HB.out)) hb); clear BK822; clear HB; have HO825 := n0_; have BK822 := n1_; have HB := n2_; clear n0_ n1_ n2_; clear hb ho4; obtain ⟨Ao5, co5, eo5⟩ := Kd.R_slice HO825.out; subst eo5) | ((with_reducible refine gate_callee (f := 97) rfl ?_); refine goesL_ (some 2) rfl rfl Tryz.func97 (by kernel_rfl) rfl #[.slice Ao5 y823.length co5] rfl (by (try simp only [List.map_toArray, List.map_cons, List.map_nil]); first | done | rfl | (simp only [List.length_drop, List.length_take]; rfl)) ?_; (with_reducible refine (L_of.calls (fun k_ => some k_ = (.slice Ao5 y823.length co5 : Value).ownBlock) (.slice Ao5 y823.length co5) y823 t826 t829 t830 t831 w _ ?side1 ?side2 A1.out).mono ?_); (case side1 => repeat (first | (with_reducible first | exact HB.out | apply below_alloc | apply pw_below_drewN | apply below_drew1 | refine below_set ?_ GE822.out) | exact HB.out)); (case side2 => exact Kd.R_tight rfl HO825.out); rintro e w6 ⟨v827, rfl, ho0, hb, hkp⟩; refine ⟨_, rfl, ?_⟩; have n0_ := Aside0.mk (blk_kept (bup BK822.out) hkp (fun hs_ => (fun e_ => (Kd.R_ne HO825.out BK822.out (by decide)) e_) hs_)); have n1_ := Aside0.mk (Kd.R_mono (ok' := fun k_ => True) ho0 (fun k_ hk_ => trivial)); have n2_ := Aside0.mk (hb); clear BK822; clear HB; clear HO825; have BK822 := n0_; have HO828 := n1_; have HB := n2_; clear n0_ n1_ n2_; (try clear hb); (try clear hkp); (try clear ho0); obtain ⟨Ao7, co7, eo7⟩ := Kd.R_slice HO828.out; subst eo7; have hcz8_0 : w6.cell? ⟨gb822, 0, none⟩ = some (.slice none 0 0) := (blk_cell BK822.out 0).trans rfl; have hcz8_1 : w6.cell? ⟨gb822, 1, none⟩ = some (.int .i64 0) := (blk_cell BK822.out 1).trans rfl; have hcz8_2 : w6.cell? ⟨gb822, 2, none⟩ = some (.int .i64 0) := (blk_cell BK822.out 2).trans rfl; have hcz8_3 : w6.cell? ⟨gb822, 3, none⟩ = some (.int .i64 0) := (blk_cell BK822.out 3).trans rfl; have hfz8_0 := blk_frozen BK822.out 0; have hfz8_1 := blk_frozen BK822.out 1; have hfz8_2 := blk_frozen BK822.out 2; have hfz8_3 := blk_frozen BK822.out 3))
 refine bodyPost_ret (results_cell_row rfl _ _ gb822 26 #[.slice Ao7 t826.length co7, .int .i64 t829, .int .i64 t830, .int .i64 t831] (0, 0) _ rfl (by (with_reducible repeat (first | refine blk_drewN ?_ _ | refine blk_drew ?_ | refine blk_alloc ?_ _)); refine blk_put (cs := #[.slice Ao7 t826.length co7, .int .i64 t829, .int .i64 t830, .int .i64 0]) ?_ 3 _ rfl; (with_reducible repeat (first | refine blk_drewN ?_ _ | refine blk_drew ?_ | refine blk_alloc ?_ _)); refine blk_put (cs := #[.slice Ao7 t826.length co7, .int .i64 t829, .int .i64 0, .int .i64 0]) ?_ 2 _ rfl; (with_reducible repeat (first | refine blk_drewN ?_ _ | refine blk_drew ?_ | refine blk_alloc ?_ _)); refine blk_put (cs := #[.slice Ao7 t826.length co7, .int .i64 0, .int .i64 0, .int .i64 0]) ?_ 1 _ rfl; (with_reducible repeat (first | refine blk_drewN ?_ _ | refine blk_drew ?_ | refine blk_alloc ?_ _)); refine blk_put (cs := #[.slice none 0 0, .int .i64 0, .int .i64 0, .int .i64 0]) ?_ 0 _ rfl; (with_reducible repeat (first | refine blk_drewN ?_ _ | refine blk_drew ?_ | refine blk_alloc ?_ _)); exact BK822.out) Tryz.underlying26 rfl (by kernel_rfl)) rfl ?_
 exact ⟨_, by first | rfl | (simp [errW_none, errW_some] <;> rfl) | (simp [*, errW_none, errW_some] <;> rfl), by (with_reducible repeat (first | apply Kd.R_alloc | apply Kd.R_drewN | apply Kd.R_drew)); exact Kd.R_mono (Kd.R_far (p := ⟨gb822, 3, none⟩) (Kd.R_far (p := ⟨gb822, 2, none⟩) (Kd.R_far (p := ⟨gb822, 1, none⟩) (Kd.R_far (p := ⟨gb822, 0, none⟩) (Kd.R_types HO828.out BK822.out (by decide)) (fun _ hk => hk.2) (.slice Ao7 t826.length co7)) (fun _ hk => hk.2) (.int .i64 t829)) (fun _ hk => hk.2) (.int .i64 t830)) (fun _ hk => hk.2) (.int .i64 t831)) (fun _ hk => trivial), by repeat (first | (with_reducible first | exact HB.out | apply below_alloc | apply pw_below_drewN | apply below_drew1 | refine below_set ?_ GE822.out) | exact HB.out)⟩
end Go.Proofs.YtohlmoppcmjknaaGreatDoor.P
end
section
namespace Go.Proofs.YtohlmoppcmjknaaGreatDoor.P
open Go.RowKit Go.Proofs.YtohlmoppcmjknaaGreatDoorW.PrintWords Go.Proofs.YtohlmoppcmjknaaGreatDoorW.PrintLast Go.Proofs.YtohlmoppcmjknaaGreatDoorW.PrintMore
attribute [local go_sem] max2_int min2_int max_two min_two max_three min_three max_four min_four
set_option linter.unusedVariables false
set_option linter.unusedSimpArgs false
def L_B.f  : Option (List Int × Int × Int × Int) := (L_of.f (([0, 1, 4, 16, 25, 36] : List Int))).bind fun bt816 => (some (bt816.1, bt816.2.1, bt816.2.2.1, bt816.2.2.2))
set_option maxHeartbeats 8000000 in
set_option maxRecDepth 100000 in
theorem L_B.calls  (r1 : List Int) (r2 : Int) (r3 : Int) (r4 : Int) (w : World) (h : L_B.f  = some (r1, r2, r3, r4)) :
  Calls Tryz.prog 60 #[] w fun e w' => ∃ v0_ : Value, e = .returned (.agg #[v0_, .int .i64 r2, .int .i64 r3, .int .i64 r4]) ∧ Kd.R (Kd.int .i64) 3 w' w.heap.size (fun _ => True) v0_ r1 ∧ Below w.heap.size w w' := by
 have hu26 := Tryz.underlying26
 have HB := Aside0.mk (Below.refl w.heap.size w)
 have H : ((L_of.f (([0, 1, 4, 16, 25, 36] : List Int))).bind fun bt816 => (some (bt816.1, bt816.2.1, bt816.2.2.1, bt816.2.2.2))) = some (r1, r2, r3, r4) := h
 clear h
 obtain ⟨y813, hy813⟩ : ∃ y_ : List Int, y_ = (([0, 1, 4, 16, 25, 36] : List Int)) := ⟨_, rfl⟩
 replace H : ((L_of.f y813).bind fun bt816 => (some (bt816.1, bt816.2.1, bt816.2.2.1, bt816.2.2.2))) = some (r1, r2, r3, r4) := by first | (rw [hy813]; with_reducible exact H) | (have H2_ := (Option.bind_some _ _).symm.trans H; rw [hy813]; with_reducible exact H2_) | (have H2_ := (Option.bind_some _ _).symm.trans H; with_reducible exact H2_) | with_reducible exact H | (rw [hy813]; exact H) | exact H
 have Ny813 := Aside0.mk hy813
 clear hy813
 replace H := Option.bind_eq_some_iff.mp H
 obtain ⟨⟨t816, t819, t820, t821⟩, A10, H⟩ := H
 replace H : (some (t816, t819, t820, t821)) = some (r1, r2, r3, r4) := H
 have A1 := Aside0.mk A10
 clear A10
 simp only [Option.some.injEq, Prod.mk.injEq] at H
 obtain ⟨rfl, rfl, rfl, rfl⟩ := H
 go_enter Tryz.func60, Tryz.ntmps60
 go_wp2_with (first | ((with_reducible refine gate_dst (N := 0) rfl ?_); refine box_event ?hg (N := 0) ?hd (cs := #[.slice none 0 0, .int .i64 0, .int .i64 0, .int .i64 0]) (t := 26) ?hr ?_; (case hd => rfl); (case hg => rfl); (case hr => first | (go_simp; done) | (go_simp; rfl)); intro gb812 hg w2 hbox hb; have n0_ := Aside0.mk (below_step (wup HB.out) hb); have n1_ := Aside0.mk (hbox); have n2_ := Aside0.mk ((by rw [hg]; exact (below_size (wup HB.out)) : w.heap.size ≤ gb812)); have n3_ := Aside0.mk ((by rw [hg]; exact (below_size (wup HB.out)) : w.heap.size ≤ gb812)); clear HB; have HB := n0_; have BK812 := n1_; have GW812 := n2_; have GE812 := n3_; clear n0_ n1_ n2_ n3_; clear hb hbox hg) | ((with_reducible refine gate_dst (N := 1) rfl ?_); refine Kd.R_lit (Kd.int .i64) _ 3 ?hg (N := 1) ?hd (xs := ([0, 1, 4, 16, 25, 36] : List Int)) (inner := [.int .i64 0, .int .i64 1, .int .i64 4, .int .i64 16, .int .i64 25, .int .i64 36]) (ok := fun _ => True) (okp := fun _ => True) ?hr ?hp (fun _ hk => hk) trivial (Below.refl _ _) (Nat.le_refl _) (by simp) ?_; (case hd => rfl); (case hg => rfl); (case hr => first | (go_simp; done) | (go_simp; rfl)); (case hp => exact (Reps.one (show Kd.M (Kd.int .i64) _ _ _ 0 [.int .i64 0] from rfl) (Reps.one (show Kd.M (Kd.int .i64) _ _ _ 1 [.int .i64 1] from rfl) (Reps.one (show Kd.M (Kd.int .i64) _ _ _ 4 [.int .i64 4] from rfl) (Reps.one (show Kd.M (Kd.int .i64) _ _ _ 16 [.int .i64 16] from rfl) (Reps.one (show Kd.M (Kd.int .i64) _ _ _ 25 [.int .i64 25] from rfl) (Reps.one (show Kd.M (Kd.int .i64) _ _ _ 36 [.int .i64 36] from rfl) (Reps.none _ _)))))))); intro v814 w3 ho4 hb hg_ hnew_; clear hg_ hnew_; (first | rw [← Ny813.out] at ho4 | (simp only [Int.reduceToNat] at ho4; rw [← Ny813.out] at ho4)); have n0_ := Aside0.mk (Kd.R_lower ho4 (below_size (by repeat (first | (with_reducible first | exact HB.out | apply below_alloc | apply pw_below_drewN | apply below_drew1 | refine below_set ?_ GE812.out) | exact HB.out)))); have n1_ := Aside0.mk (blk_below (g := gb812) (o := .cells #[.slice none 0 0, .int .i64 0, .int .i64 0, .int .i64 0] 26 (0, 0)) (bup BK812.out) hb); have n2_ := Aside0.mk (below_step (by repeat (first | (with_reducible first | exact HB.out | apply below_alloc | apply pw_below_drewN | apply below_drew1 | refine below_set ?_ GE812.out) | exact HB.out)) hb); clear BK812; clear HB; have HO815 := n0_; have BK812 := n1_; have HB := n2_; clear n0_ n1_ n2_; clear hb ho4; obtain ⟨Ao5, co5, eo5⟩ := Kd.R_slice HO815.out; subst eo5) | ((with_reducible refine gate_callee (f := 97) rfl ?_); refine goesL_ (some 2) rfl rfl Tryz.func97 (by kernel_rfl) rfl #[.slice Ao5 y813.length co5] rfl (by (try simp only [List.map_toArray, List.map_cons, List.map_nil]); first | done | rfl | (simp only [List.length_drop, List.length_take]; rfl)) ?_; (with_reducible refine (L_of.calls (fun k_ => some k_ = (.slice Ao5 y813.length co5 : Value).ownBlock) (.slice Ao5 y813.length co5) y813 t816 t819 t820 t821 w _ ?side1 ?side2 A1.out).mono ?_); (case side1 => repeat (first | (with_reducible first | exact HB.out | apply below_alloc | apply pw_below_drewN | apply below_drew1 | refine below_set ?_ GE812.out) | exact HB.out)); (case side2 => exact Kd.R_tight rfl HO815.out); rintro e w6 ⟨v817, rfl, ho0, hb, hkp⟩; refine ⟨_, rfl, ?_⟩; have n0_ := Aside0.mk (blk_kept (bup BK812.out) hkp (fun hs_ => (fun e_ => (Kd.R_ne HO815.out BK812.out (by decide)) e_) hs_)); have n1_ := Aside0.mk (Kd.R_mono (ok' := fun k_ => True) ho0 (fun k_ hk_ => trivial)); have n2_ := Aside0.mk (hb); clear BK812; clear HB; clear HO815; have BK812 := n0_; have HO818 := n1_; have HB := n2_; clear n0_ n1_ n2_; (try clear hb); (try clear hkp); (try clear ho0); obtain ⟨Ao7, co7, eo7⟩ := Kd.R_slice HO818.out; subst eo7; have hcz8_0 : w6.cell? ⟨gb812, 0, none⟩ = some (.slice none 0 0) := (blk_cell BK812.out 0).trans rfl; have hcz8_1 : w6.cell? ⟨gb812, 1, none⟩ = some (.int .i64 0) := (blk_cell BK812.out 1).trans rfl; have hcz8_2 : w6.cell? ⟨gb812, 2, none⟩ = some (.int .i64 0) := (blk_cell BK812.out 2).trans rfl; have hcz8_3 : w6.cell? ⟨gb812, 3, none⟩ = some (.int .i64 0) := (blk_cell BK812.out 3).trans rfl; have hfz8_0 := blk_frozen BK812.out 0; have hfz8_1 := blk_frozen BK812.out 1; have hfz8_2 := blk_frozen BK812.out 2; have hfz8_3 := blk_frozen BK812.out 3))
 refine bodyPost_ret (results_cell_row rfl _ _ gb812 26 #[.slice Ao7 t816.length co7, .int .i64 t819, .int .i64 t820, .int .i64 t821] (0, 0) _ rfl (by (with_reducible repeat (first | refine blk_drewN ?_ _ | refine blk_drew ?_ | refine blk_alloc ?_ _)); refine blk_put (cs := #[.slice Ao7 t816.length co7, .int .i64 t819, .int .i64 t820, .int .i64 0]) ?_ 3 _ rfl; (with_reducible repeat (first | refine blk_drewN ?_ _ | refine blk_drew ?_ | refine blk_alloc ?_ _)); refine blk_put (cs := #[.slice Ao7 t816.length co7, .int .i64 t819, .int .i64 0, .int .i64 0]) ?_ 2 _ rfl; (with_reducible repeat (first | refine blk_drewN ?_ _ | refine blk_drew ?_ | refine blk_alloc ?_ _)); refine blk_put (cs := #[.slice Ao7 t816.length co7, .int .i64 0, .int .i64 0, .int .i64 0]) ?_ 1 _ rfl; (with_reducible repeat (first | refine blk_drewN ?_ _ | refine blk_drew ?_ | refine blk_alloc ?_ _)); refine blk_put (cs := #[.slice none 0 0, .int .i64 0, .int .i64 0, .int .i64 0]) ?_ 0 _ rfl; (with_reducible repeat (first | refine blk_drewN ?_ _ | refine blk_drew ?_ | refine blk_alloc ?_ _)); exact BK812.out) Tryz.underlying26 rfl (by kernel_rfl)) rfl ?_
 exact ⟨_, by first | rfl | (simp [errW_none, errW_some] <;> rfl) | (simp [*, errW_none, errW_some] <;> rfl), by (with_reducible repeat (first | apply Kd.R_alloc | apply Kd.R_drewN | apply Kd.R_drew)); exact Kd.R_mono (Kd.R_far (p := ⟨gb812, 3, none⟩) (Kd.R_far (p := ⟨gb812, 2, none⟩) (Kd.R_far (p := ⟨gb812, 1, none⟩) (Kd.R_far (p := ⟨gb812, 0, none⟩) (Kd.R_types HO818.out BK812.out (by decide)) (fun _ hk => hk.2) (.slice Ao7 t816.length co7)) (fun _ hk => hk.2) (.int .i64 t819)) (fun _ hk => hk.2) (.int .i64 t820)) (fun _ hk => hk.2) (.int .i64 t821)) (fun _ hk => trivial), by repeat (first | (with_reducible first | exact HB.out | apply below_alloc | apply pw_below_drewN | apply below_drew1 | refine below_set ?_ GE812.out) | exact HB.out)⟩
end Go.Proofs.YtohlmoppcmjknaaGreatDoor.P
end
section
namespace Go.Proofs.YtohlmoppcmjknaaGreatDoor.P
open Go.RowKit Go.Proofs.YtohlmoppcmjknaaGreatDoorW.PrintWords Go.Proofs.YtohlmoppcmjknaaGreatDoorW.PrintLast Go.Proofs.YtohlmoppcmjknaaGreatDoorW.PrintMore
attribute [local go_sem] max2_int min2_int max_two min_two max_three min_three max_four min_four
set_option linter.unusedVariables false
set_option linter.unusedSimpArgs false
def R_SameWords.l0 : Nat → List Int → List Int → Int → Option (Bool)
 | 0, _, _, _ => none
 | k + 1, x0, x1, x5 => if x5 < (x0.length : Int) then (if 0 ≤ x5 then (if x5 < (x1.length : Int) then (if (rd x0 x5) = (rd x1 x5) then (R_SameWords.l0 k x0 x1 (wrap64 (x5 + 1))) else (some false)) else (none)) else (none)) else (some true)
def R_SameWords.f (k : Nat) (l0 : List Int) (l1 : List Int) : Option (Bool) := if (l0.length : Int) = (l1.length : Int) then (R_SameWords.l0 k l0 l1 0) else (some false)
theorem R_SameWords.mono_l : ∀ k, (∀ y0 y1 y2, LeO (R_SameWords.l0 k y0 y1 y2) (R_SameWords.l0 (k + 1) y0 y1 y2))
 | 0 => fun _ _ _ r h => by simp [R_SameWords.l0] at h
 | k + 1 => by
  have ih0 := R_SameWords.mono_l k
  ·intro y0 y1 y2
   unfold R_SameWords.l0
   repeat' first
   | (with_reducible exact ih0 _ _ _)
   | (with_reducible exact LeO.refl _)
   | (with_reducible exact LeO.none _)
   | (with_reducible refine LeO.ite ?_ ?_)
   | (with_reducible refine LeO.bind ?_ (fun _ => ?_))
   | exact ih0 _ _ _
   | exact LeO.none _
   | refine LeO.ite ?_ ?_
   | refine LeO.bind ?_ (fun _ => ?_)
theorem R_SameWords.mono : ∀ a0 a1 k, LeO (R_SameWords.f k a0 a1) (R_SameWords.f (k + 1) a0 a1) := by
 intro a0 a1 k
 have ih0 := R_SameWords.mono_l k
 unfold R_SameWords.f
 repeat' first
   | (with_reducible exact ih0 _ _ _)
   | (with_reducible exact LeO.refl _)
   | (with_reducible exact LeO.none _)
   | (with_reducible refine LeO.ite ?_ ?_)
   | (with_reducible refine LeO.bind ?_ (fun _ => ?_))
   | exact ih0 _ _ _
   | exact LeO.none _
   | refine LeO.ite ?_ ?_
   | refine LeO.bind ?_ (fun _ => ?_)
set_option maxHeartbeats 8000000 in
set_option maxRecDepth 100000 in
theorem R_SameWords.calls (k : Nat) (A0 : Option Addr) (c0 : Nat) (l0 : List Int) (A1 : Option Addr) (c1 : Nat) (l1 : List Int) (r : Bool) (w : World) (hr0 : Kd.C (Kd.int .i64) w A0 l0.length l0) (hc0 : l0.length ≤ c0) (hr1 : Kd.C (Kd.int .i64) w A1 l1.length l1) (hc1 : l1.length ≤ c1) (h : R_SameWords.f k l0 l1 = some r) :
  Calls Tryz.prog 61 #[.slice A0 l0.length c0, .slice A1 l1.length c1] w fun e w' => e = .returned (.bool r) ∧ Drawn0 w w' := by
 have HR0 := Aside0.mk hr0
 have HC0 := Aside0.mk hc0
 clear hr0 hc0
 have HR1 := Aside0.mk hr1
 have HC1 := Aside0.mk hc1
 clear hr1 hc1
 have H : (if (l0.length : Int) = (l1.length : Int) then (R_SameWords.l0 k l0 l1 0) else (some false)) = some r := h
 clear h
 by_cases c3 : (l0.length : Int) = (l1.length : Int)
 ·rw [if_pos c3] at H
  have c3b0 : ((l0.length : Int) == (l1.length : Int)) = true := beq_iff_eq.mpr c3
  have c3b1 : ((l0.length : Int) != (l1.length : Int)) = false := bne_eq_false_iff_eq.mpr c3
  have c3b2 : (l0.length == l1.length) = true := by first | simpa using c3 | (simp at c3 ⊢; omega)
  clear c3
  have H' := Aside0.mk H
  clear H
  go_enter Tryz.func61, Tryz.ntmps61
  go_wp2
  repeat (go_quiet (fail); try go_wp2)
  go_loopg [5] k (fun kq v5 w' => ∃ (x5_1 : Int), v5 = .int .i64 x5_1 ∧ Aside0 (R_SameWords.l0 kq l0 l1 x5_1 = some r) ∧ Aside0 (kq ≤ k) ∧ Drawn0 w w')
  case atStart => exact ⟨(0), (by first | rfl | (simp; done) | (simp [*]; done)), H', ⟨Nat.le_refl _⟩, by repeat (first | exact Drawn0.refl _ | apply Drawn0.step)⟩
  case round =>
   clear H'
   obtain ⟨x5_1, rfl, HA, HK1, ⟨m1, rfl⟩⟩ := hrel
   cases gk with
   | zero => exact absurd HA.out (by simp [R_SameWords.l0])
   | succ k1 =>
    have H := HA.out
    clear HA
    simp only [R_SameWords.l0] at H
    by_cases c4 : x5_1 < (l0.length : Int)
    ·rw [if_pos c4] at H
     have c4b0 : decide (x5_1 < (l0.length : Int)) = true := decide_eq_true c4
     clear c4
     by_cases c5 : 0 ≤ x5_1
     ·rw [if_pos c5] at H
      have c5b0 : decide (0 ≤ x5_1) = true := decide_eq_true c5
      clear c5
      by_cases c6 : x5_1 < (l1.length : Int)
      ·rw [if_pos c6] at H
       have c6b0 : decide (x5_1 < (l1.length : Int)) = true := decide_eq_true c6
       clear c6
       by_cases c7 : (rd l0 x5_1) = (rd l1 x5_1)
       ·rw [if_pos c7] at H
        have c7b0 : ((rd l0 x5_1) == (rd l1 x5_1)) = true := beq_iff_eq.mpr c7
        have c7b1 : ((rd l0 x5_1) != (rd l1 x5_1)) = false := bne_eq_false_iff_eq.mpr c7
        clear c7
        have H' := Aside0.mk H
        clear H
        have p795 : 0 ≤ (x5_1 : Int) := of_decide_eq_true (by first | (with_reducible assumption) | assumption)
        have q795 : x5_1 < (l0.length : Int) := of_decide_eq_true (by first | (with_reducible assumption) | assumption)
        obtain ⟨ad795, e795, hx795_0⟩ := Kd.at_int HR0.out x5_1 p795 q795
        cases e795
        replace p795 := eq_true p795
        replace q795 := eq_true q795
        have p796 : 0 ≤ (x5_1 : Int) := of_decide_eq_true (by first | (with_reducible assumption) | assumption)
        have q796 : x5_1 < (l1.length : Int) := of_decide_eq_true (by first | (with_reducible assumption) | assumption)
        obtain ⟨ad796, e796, hx796_0⟩ := Kd.at_int HR1.out x5_1 p796 q796
        cases e796
        replace p796 := eq_true p796
        replace q796 := eq_true q796
        go_wp2
        repeat (go_quiet (fail); try go_wp2)
        go_roundg k1
        case measure => have := HK1.out; omega
        case rel => exact ⟨(wrap64 (x5_1 + 1)), (by first | rfl | (simp; done) | (simp [*]; done)), H', ⟨by have := HK1.out; omega⟩, by repeat (first | exact Drawn0.refl _ | apply Drawn0.step)⟩
       ·rw [if_neg c7] at H
        have c7b0 : ((rd l0 x5_1) == (rd l1 x5_1)) = false := beq_eq_false_iff_ne.mpr c7
        have c7b1 : ((rd l0 x5_1) != (rd l1 x5_1)) = true := bne_iff_ne.mpr c7
        obtain rfl := Option.some.inj H
        have p795 : 0 ≤ (x5_1 : Int) := of_decide_eq_true (by first | (with_reducible assumption) | assumption)
        have q795 : x5_1 < (l0.length : Int) := of_decide_eq_true (by first | (with_reducible assumption) | assumption)
        obtain ⟨ad795, e795, hx795_0⟩ := Kd.at_int HR0.out x5_1 p795 q795
        cases e795
        replace p795 := eq_true p795
        replace q795 := eq_true q795
        have p796 : 0 ≤ (x5_1 : Int) := of_decide_eq_true (by first | (with_reducible assumption) | assumption)
        have q796 : x5_1 < (l1.length : Int) := of_decide_eq_true (by first | (with_reducible assumption) | assumption)
        obtain ⟨ad796, e796, hx796_0⟩ := Kd.at_int HR1.out x5_1 p796 q796
        cases e796
        replace p796 := eq_true p796
        replace q796 := eq_true q796
        go_wp2
        repeat (go_quiet (fail); try go_wp2)
        go_ret
        exact ⟨by first | rfl | (simp; done) | (simp [*]; done), by repeat (first | exact Drawn0.refl _ | apply Drawn0.step)⟩
      ·rw [if_neg c6] at H
       exact absurd H (by simp)
     ·rw [if_neg c5] at H
      exact absurd H (by simp)
    ·rw [if_neg c4] at H
     have c4b0 : decide (x5_1 < (l0.length : Int)) = false := decide_eq_false c4
     clear c4
     obtain rfl := Option.some.inj H
     go_wp2
     repeat (go_quiet (fail); try go_wp2)
     go_ret
     exact ⟨by first | rfl | (simp; done) | (simp [*]; done), by repeat (first | exact Drawn0.refl _ | apply Drawn0.step)⟩
 ·rw [if_neg c3] at H
  have c3b0 : ((l0.length : Int) == (l1.length : Int)) = false := beq_eq_false_iff_ne.mpr c3
  have c3b1 : ((l0.length : Int) != (l1.length : Int)) = true := bne_iff_ne.mpr c3
  have c3b2 : (l0.length == l1.length) = false := by first | simpa using c3 | (simp at c3 ⊢; omega)
  obtain rfl := Option.some.inj H
  go_enter Tryz.func61, Tryz.ntmps61
  go_wp2
  repeat (go_quiet (fail); try go_wp2)
  go_ret
  exact ⟨by first | rfl | (simp; done) | (simp [*]; done), by repeat (first | exact Drawn0.refl _ | apply Drawn0.step)⟩
end Go.Proofs.YtohlmoppcmjknaaGreatDoor.P
end
section
namespace Go.Proofs.YtohlmoppcmjknaaGreatDoor.P
open Go.RowKit Go.Proofs.YtohlmoppcmjknaaGreatDoorW.PrintWords Go.Proofs.YtohlmoppcmjknaaGreatDoorW.PrintLast Go.Proofs.YtohlmoppcmjknaaGreatDoorW.PrintMore
attribute [local go_sem] max2_int min2_int max_two min_two max_three min_three max_four min_four
set_option linter.unusedVariables false
set_option linter.unusedSimpArgs false
theorem eqA70 (d : Nat) (w : World) (x0 y0 : Int) (x1 y1 : Int) (x2 y2 : Int) :
  (Op.equalIn (d + 3) 70 (.agg #[.int .i64 x0, .int .i64 x1, .int .i64 x2]) (.agg #[.int .i64 y0, .int .i64 y1, .int .i64 y2])).run Tryz.prog w = .ok (x0 == y0 && ((x1 == y1 && (x2 == y2)))) w := by
 refine eqA_of Tryz.underlying70 (by kernel_rfl) ?_
 refine eqf_cons (by rfl) (by go_simp; rfl) (by go_simp; rfl) (by go_simp) ?_
 exact eqf_last (by rfl) (by go_simp) (by go_simp) (eqA24 (d + 0) w _ _ _ _)
end Go.Proofs.YtohlmoppcmjknaaGreatDoor.P
end
section
namespace Go.Proofs.YtohlmoppcmjknaaGreatDoor.P
open Go.RowKit Go.Proofs.YtohlmoppcmjknaaGreatDoorW.PrintWords Go.Proofs.YtohlmoppcmjknaaGreatDoorW.PrintLast Go.Proofs.YtohlmoppcmjknaaGreatDoorW.PrintMore
attribute [local go_sem] max2_int min2_int max_two min_two max_three min_three max_four min_four
set_option linter.unusedVariables false
set_option linter.unusedSimpArgs false
attribute [local go_sem high] eqA70
def R_SameFixes.l0 : Nat → List (S70) → List (S70) → Int → Option (Bool)
 | 0, _, _, _ => none
 | k + 1, x0, x1, x5 => if x5 < (x0.length : Int) then (if 0 ≤ x5 then (if x5 < (x1.length : Int) then (if (!(((rd_T70 x0 x5).f0) == ((rd_T70 x1 x5).f0)) || ((!(((rd_T70 x0 x5).f1.f0) == ((rd_T70 x1 x5).f1.f0)) || (!(((rd_T70 x0 x5).f1.f1) == ((rd_T70 x1 x5).f1.f1)))))) = true then (some false) else (R_SameFixes.l0 k x0 x1 (wrap64 (x5 + 1)))) else (none)) else (none)) else (some true)
def R_SameFixes.f (k : Nat) (l0 : List (S70)) (l1 : List (S70)) : Option (Bool) := if (l0.length : Int) = (l1.length : Int) then (R_SameFixes.l0 k l0 l1 0) else (some false)
theorem R_SameFixes.mono_l : ∀ k, (∀ y0 y1 y2, LeO (R_SameFixes.l0 k y0 y1 y2) (R_SameFixes.l0 (k + 1) y0 y1 y2))
 | 0 => fun _ _ _ r h => by simp [R_SameFixes.l0] at h
 | k + 1 => by
  have ih0 := R_SameFixes.mono_l k
  ·intro y0 y1 y2
   unfold R_SameFixes.l0
   repeat' first
   | (with_reducible exact ih0 _ _ _)
   | (with_reducible exact LeO.refl _)
   | (with_reducible exact LeO.none _)
   | (with_reducible refine LeO.ite ?_ ?_)
   | (with_reducible refine LeO.bind ?_ (fun _ => ?_))
   | exact ih0 _ _ _
   | exact LeO.none _
   | refine LeO.ite ?_ ?_
   | refine LeO.bind ?_ (fun _ => ?_)
theorem R_SameFixes.mono : ∀ a0 a1 k, LeO (R_SameFixes.f k a0 a1) (R_SameFixes.f (k + 1) a0 a1) := by
 intro a0 a1 k
 have ih0 := R_SameFixes.mono_l k
 unfold R_SameFixes.f
 repeat' first
   | (with_reducible exact ih0 _ _ _)
   | (with_reducible exact LeO.refl _)
   | (with_reducible exact LeO.none _)
   | (with_reducible refine LeO.ite ?_ ?_)
   | (with_reducible refine LeO.bind ?_ (fun _ => ?_))
   | exact ih0 _ _ _
   | exact LeO.none _
   | refine LeO.ite ?_ ?_
   | refine LeO.bind ?_ (fun _ => ?_)
set_option maxHeartbeats 8000000 in
set_option maxRecDepth 100000 in
theorem R_SameFixes.calls (k : Nat) (A0 : Option Addr) (c0 : Nat) (l0 : List (S70)) (A1 : Option Addr) (c1 : Nat) (l1 : List (S70)) (r : Bool) (w : World) (hr0 : Kd.C k70 w A0 l0.length l0) (hc0 : l0.length ≤ c0) (hr1 : Kd.C k70 w A1 l1.length l1) (hc1 : l1.length ≤ c1) (h : R_SameFixes.f k l0 l1 = some r) :
  Calls Tryz.prog 62 #[.slice A0 l0.length c0, .slice A1 l1.length c1] w fun e w' => e = .returned (.bool r) ∧ Drawn0 w w' := by
 have hu70 := Tryz.underlying70
 have HR0 := Aside0.mk hr0
 have HC0 := Aside0.mk hc0
 clear hr0 hc0
 have HR1 := Aside0.mk hr1
 have HC1 := Aside0.mk hc1
 clear hr1 hc1
 have H : (if (l0.length : Int) = (l1.length : Int) then (R_SameFixes.l0 k l0 l1 0) else (some false)) = some r := h
 clear h
 by_cases c3 : (l0.length : Int) = (l1.length : Int)
 ·rw [if_pos c3] at H
  have c3b0 : ((l0.length : Int) == (l1.length : Int)) = true := beq_iff_eq.mpr c3
  have c3b1 : ((l0.length : Int) != (l1.length : Int)) = false := bne_eq_false_iff_eq.mpr c3
  have c3b2 : (l0.length == l1.length) = true := by first | simpa using c3 | (simp at c3 ⊢; omega)
  clear c3
  have H' := Aside0.mk H
  clear H
  go_enter Tryz.func62, Tryz.ntmps62
  go_wp2
  repeat (go_quiet (fail); try go_wp2)
  go_loopg [5] k (fun kq v5 w' => ∃ (x5_1 : Int), v5 = .int .i64 x5_1 ∧ Aside0 (R_SameFixes.l0 kq l0 l1 x5_1 = some r) ∧ Aside0 (kq ≤ k) ∧ Drawn0 w w')
  case atStart => exact ⟨(0), (by first | rfl | (simp; done) | (simp [*]; done)), H', ⟨Nat.le_refl _⟩, by repeat (first | exact Drawn0.refl _ | apply Drawn0.step)⟩
  case round =>
   clear H'
   obtain ⟨x5_1, rfl, HA, HK1, ⟨m1, rfl⟩⟩ := hrel
   cases gk with
   | zero => exact absurd HA.out (by simp [R_SameFixes.l0])
   | succ k1 =>
    have H := HA.out
    clear HA
    simp only [R_SameFixes.l0] at H
    by_cases c4 : x5_1 < (l0.length : Int)
    ·rw [if_pos c4] at H
     have c4b0 : decide (x5_1 < (l0.length : Int)) = true := decide_eq_true c4
     clear c4
     by_cases c5 : 0 ≤ x5_1
     ·rw [if_pos c5] at H
      have c5b0 : decide (0 ≤ x5_1) = true := decide_eq_true c5
      clear c5
      by_cases c6 : x5_1 < (l1.length : Int)
      ·rw [if_pos c6] at H
       have c6b0 : decide (x5_1 < (l1.length : Int)) = true := decide_eq_true c6
       clear c6
       by_cases c7 : (!(((rd_T70 l0 x5_1).f0) == ((rd_T70 l1 x5_1).f0)) || ((!(((rd_T70 l0 x5_1).f1.f0) == ((rd_T70 l1 x5_1).f1.f0)) || (!(((rd_T70 l0 x5_1).f1.f1) == ((rd_T70 l1 x5_1).f1.f1)))))) = true
       ·rw [if_pos c7] at H
        have c7b0 : (!(((rd_T70 l0 x5_1).f0) == ((rd_T70 l1 x5_1).f0)) || ((!(((rd_T70 l0 x5_1).f1.f0) == ((rd_T70 l1 x5_1).f1.f0)) || (!(((rd_T70 l0 x5_1).f1.f1) == ((rd_T70 l1 x5_1).f1.f1)))))) = true := c7
        clear c7
        obtain rfl := Option.some.inj H
        have p797 : 0 ≤ (x5_1 : Int) := of_decide_eq_true (by first | (with_reducible assumption) | assumption)
        have q797 : x5_1 < (l0.length : Int) := of_decide_eq_true (by first | (with_reducible assumption) | assumption)
        obtain ⟨ad797, e797, hx797_0, hx797_1, hx797_2⟩ := at_T70 HR0.out x5_1 p797 q797
        cases e797
        replace p797 := eq_true p797
        replace q797 := eq_true q797
        have p798 : 0 ≤ (x5_1 : Int) := of_decide_eq_true (by first | (with_reducible assumption) | assumption)
        have q798 : x5_1 < (l1.length : Int) := of_decide_eq_true (by first | (with_reducible assumption) | assumption)
        obtain ⟨ad798, e798, hx798_0, hx798_1, hx798_2⟩ := at_T70 HR1.out x5_1 p798 q798
        cases e798
        replace p798 := eq_true p798
        replace q798 := eq_true q798
        go_wp2
        repeat (go_quiet (fail); try go_wp2)
        go_ret
        exact ⟨by first | rfl | (simp; done) | (simp [*]; done), by repeat (first | exact Drawn0.refl _ | apply Drawn0.step)⟩
       ·rw [if_neg c7] at H
        have c7b0 : (!(((rd_T70 l0 x5_1).f0) == ((rd_T70 l1 x5_1).f0)) || ((!(((rd_T70 l0 x5_1).f1.f0) == ((rd_T70 l1 x5_1).f1.f0)) || (!(((rd_T70 l0 x5_1).f1.f1) == ((rd_T70 l1 x5_1).f1.f1)))))) = false := by simpa using c7
        clear c7
        have H' := Aside0.mk H
        clear H
        have p797 : 0 ≤ (x5_1 : Int) := of_decide_eq_true (by first | (with_reducible assumption) | assumption)
        have q797 : x5_1 < (l0.length : Int) := of_decide_eq_true (by first | (with_reducible assumption) | assumption)
        obtain ⟨ad797, e797, hx797_0, hx797_1, hx797_2⟩ := at_T70 HR0.out x5_1 p797 q797
        cases e797
        replace p797 := eq_true p797
        replace q797 := eq_true q797
        have p798 : 0 ≤ (x5_1 : Int) := of_decide_eq_true (by first | (with_reducible assumption) | assumption)
        have q798 : x5_1 < (l1.length : Int) := of_decide_eq_true (by first | (with_reducible assumption) | assumption)
        obtain ⟨ad798, e798, hx798_0, hx798_1, hx798_2⟩ := at_T70 HR1.out x5_1 p798 q798
        cases e798
        replace p798 := eq_true p798
        replace q798 := eq_true q798
        go_wp2
        repeat (go_quiet (fail); try go_wp2)
        go_roundg k1
        case measure => have := HK1.out; omega
        case rel => exact ⟨(wrap64 (x5_1 + 1)), (by first | rfl | (simp; done) | (simp [*]; done)), H', ⟨by have := HK1.out; omega⟩, by repeat (first | exact Drawn0.refl _ | apply Drawn0.step)⟩
      ·rw [if_neg c6] at H
       exact absurd H (by simp)
     ·rw [if_neg c5] at H
      exact absurd H (by simp)
    ·rw [if_neg c4] at H
     have c4b0 : decide (x5_1 < (l0.length : Int)) = false := decide_eq_false c4
     clear c4
     obtain rfl := Option.some.inj H
     go_wp2
     repeat (go_quiet (fail); try go_wp2)
     go_ret
     exact ⟨by first | rfl | (simp; done) | (simp [*]; done), by repeat (first | exact Drawn0.refl _ | apply Drawn0.step)⟩
 ·rw [if_neg c3] at H
  have c3b0 : ((l0.length : Int) == (l1.length : Int)) = false := beq_eq_false_iff_ne.mpr c3
  have c3b1 : ((l0.length : Int) != (l1.length : Int)) = true := bne_iff_ne.mpr c3
  have c3b2 : (l0.length == l1.length) = false := by first | simpa using c3 | (simp at c3 ⊢; omega)
  obtain rfl := Option.some.inj H
  go_enter Tryz.func62, Tryz.ntmps62
  go_wp2
  repeat (go_quiet (fail); try go_wp2)
  go_ret
  exact ⟨by first | rfl | (simp; done) | (simp [*]; done), by repeat (first | exact Drawn0.refl _ | apply Drawn0.step)⟩
end Go.Proofs.YtohlmoppcmjknaaGreatDoor.P
end
section
namespace Go.Proofs.YtohlmoppcmjknaaGreatDoor.P
open Go.RowKit Go.Proofs.YtohlmoppcmjknaaGreatDoorW.PrintWords Go.Proofs.YtohlmoppcmjknaaGreatDoorW.PrintLast Go.Proofs.YtohlmoppcmjknaaGreatDoorW.PrintMore
attribute [local go_sem] max2_int min2_int max_two min_two max_three min_three max_four min_four
set_option linter.unusedVariables false
set_option linter.unusedSimpArgs false
def column_text.f (l0_0 : List Int) (a0_1 : Int) (a0_2 : Int) (a0_3 : Int) : Option (ByteArray) := Col.ftext l0_0 a0_1 a0_2 a0_3
end Go.Proofs.YtohlmoppcmjknaaGreatDoor.P
end
section
namespace Go.Proofs.YtohlmoppcmjknaaGreatDoor.P
open Go.RowKit Go.Proofs.YtohlmoppcmjknaaGreatDoorW.PrintWords Go.Proofs.YtohlmoppcmjknaaGreatDoorW.PrintLast Go.Proofs.YtohlmoppcmjknaaGreatDoorW.PrintMore
attribute [local go_sem] max2_int min2_int max_two min_two max_three min_three max_four min_four
set_option linter.unusedVariables false
set_option linter.unusedSimpArgs false
def L_known.f  : Option (Bool) := some true
end Go.Proofs.YtohlmoppcmjknaaGreatDoor.P
end
