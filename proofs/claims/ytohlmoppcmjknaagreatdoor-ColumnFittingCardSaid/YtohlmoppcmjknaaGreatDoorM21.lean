/- Contracts of the program's functions, and the words that their proofs take (joined out of several texts). -/
import Derived.Test.YtohlmoppcmjknaaGreatDoorRows
import Derived.ProofKit
import Derived.OpenShut
import Derived.ShutString
import Derived.ChangeOld
import Derived.Below
import Derived.SizedLaws
import Derived.LaidMore
import Derived.Lay
import Derived.Deep.Strs
import Derived.Deep.DeepHandedRow
import Derived.Lib.LaidTab
import Derived.Shelf.Vars
import Derived.SevenTiedAt
import Derived.Stop.Joined
import Derived.Test.YtohlmoppcmjknaaGreatDoorM2
import Derived.Test.YtohlmoppcmjknaaGreatDoorM3
import Derived.Test.YtohlmoppcmjknaaGreatDoorM7
section
namespace Go.Proofs.YtohlmoppcmjknaaGreatDoor.X
open Go.ChangeShapes Go.WideShapes Go.ChangeAt Go.RowKit Go.Deep
open Go.ChangeMaps (open_string shut_string)
open Go.Proofs.YtohlmoppcmjknaaGreatDoorW.PrintWords
set_option linter.unusedVariables false
theorem own : ownKnob Tryz.prog.godebug = none := by kernel_rfl
theorem laidOut : laidOutB Tryz.prog = true := by kernel_rfl
theorem cells3 : Tryz.prog.cellsOf 3 = 1 := by kernel_rfl
theorem cells22 : Tryz.prog.cellsOf 22 = 1 := by kernel_rfl
theorem cells24 : Tryz.prog.cellsOf 24 = 2 := by kernel_rfl
theorem cells26 : Tryz.prog.cellsOf 26 = 4 := by kernel_rfl
abbrev Wf (n : Int) : Prop := (Lit.int .i64 n).wf = true
def IsRow (k : IntKind) (w : World) (a : Option Addr) (len cap : Nat) (zs : List Int) : Prop :=
 (a = none ∧ len = 0 ∧ cap = 0 ∧ zs = []) ∨
 ∃ x, a = some x ∧ len ≤ cap ∧ cap ≤ maxLen ∧ zs.length = cap ∧ (∀ i, i < zs.length → w.cell? (x.add i) = some (.int k (zs.getD i 0))) ∧ ∀ n ∈ zs, (Lit.int k n).wf = true
section
variable {H : Type} {enc : TypeId × Value → H} {W : World} {base : Nat}
theorem open_row {fuel : Nat} {cs : List Value} {x : DataW H × List MemPlace} (h : DataW.trod enc Tryz.prog W 0 (fun _ => true) true fuel 22 cs = some x) :
  ∃ (A : Option Addr) (c : Nat) (l : List Int), cs = [.slice A l.length c] ∧ CI W A l ∧ l.length ≤ c ∧ (∀ n ∈ l, Wf n) := by
 rcases open_ints Tryz.underlying22 Tryz.underlying3 (by kernel_rfl) h with ⟨hcs, _⟩ | ⟨a, l, c, zs, hcs, _, hl, hm, hz, _, hcell, hwz⟩
 ·subst hcs
  obtain ⟨l0, e, hr0, hm0, hw0, hc0⟩ := ReadsInt.ofRowC (k := .i64) (w := W) (a := none) (len := 0) (cap := 0) (zs := []) (.inl ⟨rfl, rfl, rfl, rfl⟩)
  exact ⟨none, 0, l0, by rw [← e], Kd.C_of_reads (d := (0 : Int)) (h1 := fun _ => rfl) (by first | exact hr0 | (rw [← e]; exact hr0)), by omega, hw0⟩
 ·subst hcs
  obtain ⟨l0, e, hr0, hm0, hw0, hc0⟩ := ReadsInt.ofRowC (k := .i64) (w := W) (a := some a) (len := l) (cap := c) (zs := zs) (.inr ⟨_, rfl, hl, hm, by simpa using hz, hcell, hwz⟩)
  subst e
  exact ⟨some a, c, l0, rfl, Kd.C_of_reads (d := (0 : Int)) (h1 := fun _ => rfl) hr0, hc0, hw0⟩
set_option maxRecDepth 100000 in
theorem open_slice_arg {v : Value} {d : DataW H} {ps : List MemPlace} (hv : Value.okWide Tryz.prog W .any base 22 v) (h : DataW.Trod enc Tryz.prog W 0 (fun _ => true) true 22 v d ps) :
  ∃ (A : Option Addr) (c : Nat) (l : List Int), v = .slice A l.length c ∧ CI W A l ∧ l.length ≤ c ∧ (∀ n ∈ l, Wf n) := by
 obtain ⟨a, len, cap, rfl⟩ := okWide_slice Tryz.underlying22 hv
 obtain ⟨fuel, hf⟩ := h
 obtain ⟨A, c, l, e, h1, h2, h3⟩ := open_row hf
 simp [Value.cells] at e
 obtain ⟨rfl, rfl, rfl⟩ := e
 exact ⟨_, _, l, rfl, h1, h2, h3⟩
theorem open_pair {fuel : Nat} {c0 c1 : Value} {x : DataW H × List MemPlace} (h : DataW.trod enc Tryz.prog W 0 (fun _ => true) true fuel 24 [c0, c1] = some x) :
  ∃ lo hi : Int, c0 = .int .i64 lo ∧ c1 = .int .i64 hi ∧ Wf lo ∧ Wf hi := by
 obtain ⟨y0, y1, n, -, hl, t0, t1⟩ := trod_struct2 Tryz.underlying24 h
 simp only [cells3, List.drop, List.take] at t0 t1
 obtain ⟨k0, e0, _, w0⟩ := DataW.trod_int Tryz.underlying3 t0
 obtain ⟨k1, e1, _, w1⟩ := DataW.trod_int Tryz.underlying3 t1
 simp at e0 e1
 exact ⟨k0, k1, e0, e1, w0, w1⟩
set_option maxRecDepth 100000 in
theorem open_span {v : Value} {d : DataW H} {ps : List MemPlace} (hv : Value.okWide Tryz.prog W .any base 24 v) (h : DataW.Trod enc Tryz.prog W 0 (fun _ => true) true 24 v d ps) :
  ∃ lo hi : Int, v = .agg #[.int .i64 lo, .int .i64 hi] ∧ Wf lo ∧ Wf hi := by
 obtain ⟨⟨cs⟩, rfl, hcs⟩ := okWide_struct Tryz.underlying24 hv
 obtain ⟨fuel, hf⟩ := h
 rw [cells24] at hcs
 have hlen : cs.length = 2 := by simpa using hcs
 clear hcs hv
 match cs, hlen with
 | [c0, c1], _ =>
  simp only [Value.cells] at hf
  obtain ⟨lo, hi, rfl, rfl, w0, w1⟩ := open_pair hf
  exact ⟨lo, hi, rfl, w0, w1⟩
set_option maxRecDepth 100000 in
theorem open_sheet {v : Value} {d : DataW H} {ps : List MemPlace} (hv : Value.okWide Tryz.prog W .any base 26 v) (h : DataW.Trod enc Tryz.prog W 0 (fun _ => true) true 26 v d ps) :
  ∃ (A : Option Addr) (c : Nat) (l : List Int) (o lo hi : Int), v = .agg #[.slice A l.length c, .int .i64 o, .int .i64 lo, .int .i64 hi] ∧ CI W A l ∧ l.length ≤ c ∧ (∀ n ∈ l, Wf n) ∧ Wf o ∧ Wf lo ∧ Wf hi := by
 obtain ⟨⟨cs⟩, rfl, hcs⟩ := okWide_struct Tryz.underlying26 hv
 obtain ⟨fuel, hf⟩ := h
 rw [cells26] at hcs
 have hlen : cs.length = 4 := by simpa using hcs
 clear hcs hv
 match cs, hlen with
 | [c0, c1, c2, c3], _ =>
  simp only [Value.cells] at hf
  obtain ⟨y0, y1, y2, n, -, hl, t0, t1, t2⟩ := trod_struct3 Tryz.underlying26 hf
  simp only [cells3, cells22, cells24, List.drop, List.take] at t0 t1 t2
  obtain ⟨A, c, l, e, h1, h2, h3⟩ := open_row t0
  obtain ⟨k1, e1, _, w1⟩ := DataW.trod_int Tryz.underlying3 t1
  obtain ⟨lo, hi, rfl, rfl, w2, w3⟩ := open_pair t2
  simp at e e1
  subst e e1
  exact ⟨A, c, l, k1, lo, hi, rfl, h1, h2, h3, w1, w2, w3⟩
end
set_option maxRecDepth 100000 in
theorem cell_max {w : World} (h : w.ShapedOpen Tryz.prog) : ∃ m, w.cell? ⟨1, 0, none⟩ = some (.int .i64 m) :=
 cell_of_shapedOpen_int (zero := #[.int .i64 0]) (t := 3) h (by decide +kernel) (by kernel_rfl) rfl (by kernel_rfl) (by kernel_rfl) Tryz.underlying3
set_option maxRecDepth 100000 in
theorem glob_of {W : World} (hL : laidMetH Tryz.prog [("math/bits.deBruijn32tab", Rows.laid_math_bits_deBruijn32tab), ("math/bits.deBruijn64tab", Rows.laid_math_bits_deBruijn64tab), ("internal/strconv.uint64pow10", Rows.laid_internal_strconv_uint64pow10), ("unicode/utf8.acceptRanges", Rows.laid_unicode_utf8_acceptRanges), ("unicode/utf8.first", Rows.laid_unicode_utf8_first)] W) (hsh : W.ShapedOpen Tryz.prog) : Tryz.Glob W := by
 refine ⟨?_, cell_max hsh⟩
 rw [MakeChecks.laidMetH_plain _ _ _ (by kernel_rfl)] at hL
 obtain ⟨ps, ⟨g0, t0, cs0, f0, p0, q0, hg0, ht0, hv0, hd0, ⟨g1, t1, cs1, f1, p1, q1, hg1, ht1, hv1, hd1, ⟨g2, t2, cs2, f2, p2, q2, hg2, ht2, hv2, hd2, _, _⟩, _⟩, _⟩, _, _⟩ := hL
 obtain rfl := Option.some.inj ((show Tryz.prog.globalNamed "internal/strconv.uint64pow10" = some 0 by kernel_rfl).symm.trans hg2)
 obtain rfl := Option.some.inj ((show (Tryz.prog.globals[0]?).map (·.type) = some 192 by kernel_rfl).symm.trans ht2)
 have e : (Rows.laid_internal_strconv_uint64pow10 : DataW Unit) = Lib.tabData .u64 Lib.pow10Tab := by kernel_rfl
 rw [e] at hd2
 unfold Lib.TabIs
 rw [hv2, ← Lib.cells_of_tab Tryz.underlying192 Tryz.underlying178 (by kernel_rfl) (by kernel_rfl) hd2]
end Go.Proofs.YtohlmoppcmjknaaGreatDoor.X
end
