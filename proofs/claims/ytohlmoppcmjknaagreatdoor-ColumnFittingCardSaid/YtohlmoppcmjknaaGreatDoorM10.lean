/- Contracts of the program's functions, and the words that their proofs take (joined out of several texts). -/
import Derived.Lib.OthersKept
import Derived.Laws.RangeAny
import Derived.Laws.RangeString
import Derived.Test.YtohlmoppcmjknaaGreatDoorM2
import Derived.Test.YtohlmoppcmjknaaGreatDoorM9
section
namespace Go.Proofs.YtohlmoppcmjknaaGreatDoor.X
open Go.RowKit Go.Proofs.YtohlmoppcmjknaaGreatDoorW.PrintWords Go.Proofs.YtohlmoppcmjknaaGreatDoorW.PrintLast Go.Proofs.YtohlmoppcmjknaaGreatDoorW.PrintMore
open Go.Proofs.YtohlmoppcmjknaaGreatDoor.Col (nth bys)
set_option linter.unusedVariables false
set_option linter.unusedSimpArgs false
def Gives (o : Option Value) (e : Ending) : Prop := match o with
 | some v => e = .returned v
 | none => ∃ s : ByteArray, e = .panicked [{ v := .iface 131 (.agg #[.string s]), recovered := false }]
theorem need_ok (s : ByteArray) (w : World) :
  Calls Tryz.prog 106 #[.bool true, .string s] w fun e w' => e = .returned (.tuple #[]) ∧ w' = w := by
 go_enter Tryz.func106, Tryz.ntmps106
 go_wp2
 simp [bodyPost, results, Tryz.results106]
theorem need_no (s : ByteArray) (w : World) :
  Calls Tryz.prog 106 #[.bool false, .string s] w fun e w' => e = .panicked [{ v := .iface 131 (.agg #[.string s]), recovered := false }] ∧ w' = w := by
 go_enter Tryz.func106, Tryz.ntmps106
 go_wp2
 exact ⟨rfl, rfl, rfl⟩
theorem need_calls (b : Bool) (s : ByteArray) (w : World) :
  Calls Tryz.prog 106 #[.bool b, .string s] w fun e w' => w = w' ∧ (b = true ∧ e = .returned (.tuple #[]) ∨ b = false ∧ e = .panicked [{ v := .iface 131 (.agg #[.string s]), recovered := false }]) := by
 cases b
 ·exact (need_no s w).mono fun e w' h => ⟨h.2.symm, Or.inr ⟨rfl, h.1⟩⟩
 ·exact (need_ok s w).mono fun e w' h => ⟨h.2.symm, Or.inl ⟨rfl, h.1⟩⟩
theorem value_snoc (w : List UInt8) (b : UInt8) : Col.value (w ++ [b]) = 10 * Col.value w + ((b.toNat : Int) - 48) := by simp [Col.value, List.foldl_append]
theorem value_bd : ∀ (k : Nat) (w : List UInt8), w.length = k → w.all Col.isDigit = true → 0 ≤ Col.value w ∧ Col.value w < 10 ^ k := by
 intro k
 induction k with
 | zero => intro w h _; rw [List.length_eq_zero_iff.1 h]; decide
 | succ k ih =>
  intro w h hd
  obtain ⟨u, b, rfl⟩ : ∃ u b, w = u ++ [b] := by
   rcases List.eq_nil_or_concat w with e | ⟨u, b, e⟩
   ·rw [e] at h; cases h
   ·exact ⟨u, b, by simpa using e⟩
  rw [List.all_append, Bool.and_eq_true] at hd
  have h1 := ih u (by simpa using h) hd.1
  have h2 : Col.isDigit b = true := by simpa using hd.2
  unfold Col.isDigit at h2
  rw [Bool.and_eq_true, decide_eq_true_eq, decide_eq_true_eq] at h2
  rw [value_snoc, Int.pow_succ]
  omega
theorem take_snoc (s : List UInt8) {pos : Nat} (hp : pos < s.length) : s.take (pos + 1) = s.take pos ++ [s.getD pos 0] := by
 rw [List.take_succ_eq_append_getElem hp]
 simp [List.getD_eq_getElem?_getD, hp]
theorem value_step {s : List UInt8} {pos : Nat} (hp : pos < s.length) (h5 : s.length ≤ 5) (hdg : (s.take pos).all Col.isDigit = true) (hd : Col.isDigit (s.getD pos 0) = true) :
  wrap64 (wrap64 (10 * Col.value (s.take pos)) + (((s.getD pos 0).toNat : Int) - 48)) = Col.value (s.take (pos + 1)) ∧ (s.take (pos + 1)).all Col.isDigit = true := by
 have hv := value_bd (s.take pos).length (s.take pos) rfl hdg
 have hl : (s.take pos).length = pos := by rw [List.length_take]; omega
 rw [hl] at hv
 have hle : (10 : Int) ^ pos ≤ 10 ^ 5 := by
  have : (10 : Nat) ^ pos ≤ 10 ^ 5 := Nat.pow_le_pow_right (by decide) (by omega)
  exact_mod_cast this
 rw [take_snoc s hp, value_snoc]
 refine ⟨?_, by rw [List.all_append, hdg]; simpa using hd⟩
 unfold Col.isDigit at hd
 rw [Bool.and_eq_true, decide_eq_true_eq, decide_eq_true_eq] at hd
 have hb : (48 : Int) ≤ ((s.getD pos 0).toNat : Int) ∧ ((s.getD pos 0).toNat : Int) ≤ 57 := by omega
 have hv2 : 0 ≤ Col.value (s.take pos) ∧ Col.value (s.take pos) < 100000 := ⟨hv.1, Int.lt_of_lt_of_le hv.2 hle⟩
 clear hd hv hle
 generalize Col.value (s.take pos) = v at *
 generalize ((s.getD pos 0).toNat : Int) = b at *
 have e1 : wrap64 (10 * v) = 10 * v := by unfold wrap64; omega
 rw [e1]
 unfold wrap64
 omega
theorem given_bad {s : List UInt8} {pos : Nat} (hp : pos < s.length) (h : ¬ (Col.isDigit (s.getD pos 0) = true ∧ s.length ≤ 5)) : Col.given s = none := by
 unfold Col.given
 rw [if_neg]
 intro hc
 rw [Bool.and_eq_true, Bool.and_eq_true, Bool.and_eq_true, decide_eq_true_eq, List.all_eq_true] at hc
 refine h ⟨hc.1.1.1 _ ?_, hc.1.1.2⟩
 rw [List.getD_eq_getElem?_getD, List.getElem?_eq_getElem hp]
 exact List.getElem_mem hp
theorem below_iter (w : World) (s : ByteArray) (pos : Nat) : Below w.heap.size w (w.iter s pos) := by
 unfold World.iter
 exact (Below.refl _ _).alloc (Nat.le_refl _) _
set_option maxHeartbeats 4000000 in
set_option maxRecDepth 100000 in
theorem given_calls (s : List UInt8) (w : World) (hG : Tryz.Glob w) :
  Calls Tryz.prog 107 #[.string (bys s)] w fun e w' => Gives ((Col.given s).map (.int .i64)) e ∧ Below w.heap.size w w' := by
 have HG := Lib.hid (fun W (hW : Below w.heap.size w W) => hG.below hW)
 clear hG
 go_enter Tryz.func107, Tryz.ntmps107
 go_wp2
 have hsz : (bys s).size = s.length := Col.bytes_size s
 go_loopw [3] (fun n wr => ∃ pos : Nat, pos ≤ s.length ∧ (s.take pos).all Col.isDigit = true ∧ (0 < pos → s.length ≤ 5) ∧ n = .int .i64 (Col.value (s.take pos)) ∧ wr = w.iter (bys s) pos) (fun _ wr => s.length - wr.iterPos w.heap.size)
 case atStart => exact ⟨0, by omega, by simp, by omega, by simp [Col.value], rfl⟩
 case round =>
  obtain ⟨pos, hpl, hdg, hfive, rfl, rfl⟩ := hrel
  by_cases hp : pos < s.length
  ·have hps : pos < (bys s).size := by omega
   have hby := Col.byte_at s pos hps
   by_cases hok : Col.isDigit (s.getD pos 0) = true ∧ s.length ≤ 5
   ·have hd := hok.1
    unfold Col.isDigit at hd
    rw [Bool.and_eq_true, decide_eq_true_eq, decide_eq_true_eq] at hd
    have hnx : ∀ ty, (Instr.next (.pointer (some ⟨w.heap.size, 0, none⟩)) true ty).run Tryz.prog (w.iter (bys s) pos) = .ok (.tuple #[.bool true, .int .i64 pos, .int .i32 ((s.getD pos 0).toNat : Nat)]) (w.iter (bys s) (pos + 1)) := fun ty => by
     have := run_next_ascii (P := Tryz.prog) w (bys s) pos ty hps (by rw [hby]; omega)
     rw [hby] at this
     exact this
    have h5 : decide ((s.length : Int) ≤ 5) = true := decide_eq_true (by omega)
    have HW := Lib.hid (value_step hp hok.2 hdg hok.1)
    generalize s.getD pos 0 = b at *
    go_wp2_with fail
    refine (need_ok _ _).mono ?_
    rintro e W1 ⟨rfl, rfl⟩
    go_wp2
    go_roundw
    case rel => exact ⟨pos + 1, by omega, HW.out.2, fun _ => hok.2, by rw [HW.out.1], rfl⟩
    case measure => simp; omega
   ·have HN := Lib.hid (given_bad hp hok)
    have HC : Hid (¬ (48 ≤ (Utf8.decode (bys s) pos).1 ∧ (Utf8.decode (bys s) pos).1 ≤ 57 ∧ s.length ≤ 5)) := Lib.hid (by
     intro hc
     by_cases ha : ((bys s)[pos]'hps).toNat < 128
     ·rw [decode_ascii _ pos hps ha, hby] at hc
      exact hok ⟨by unfold Col.isDigit; rw [Bool.and_eq_true, decide_eq_true_eq, decide_eq_true_eq]; exact ⟨hc.1, hc.2.1⟩, hc.2.2⟩
     ·have := (decode_high (bys s) pos hps (by omega)).1
      omega)
    have hnx : ∀ ty, (Instr.next (.pointer (some ⟨w.heap.size, 0, none⟩)) true ty).run Tryz.prog (w.iter (bys s) pos) = .ok (.tuple #[.bool true, .int .i64 pos, .int .i32 (Utf8.decode (bys s) pos).1]) (w.iter (bys s) (pos + (Utf8.decode (bys s) pos).2)) := fun ty => run_next_any w (bys s) pos ty hps
    have hle := decode_le (bys s) pos
    generalize (Utf8.decode (bys s) pos).1 = c at *
    generalize (Utf8.decode (bys s) pos).2 = d at *
    clear hok hby
    by_cases h1 : 48 ≤ c
    ·by_cases h2 : c ≤ 57
     ·have h5 : decide ((s.length : Int) ≤ 5) = false := decide_eq_false (by have := HC.out; omega)
      go_wp2_with fail
      refine (need_no _ _).mono ?_
      rintro e W1 ⟨rfl, rfl⟩
      go_wp2
      exact ⟨rfl, by rw [HN.out]; exact ⟨_, rfl⟩, below_iter _ _ _⟩
     ·go_wp2_with fail
      refine (need_no _ _).mono ?_
      rintro e W1 ⟨rfl, rfl⟩
      go_wp2
      exact ⟨rfl, by rw [HN.out]; exact ⟨_, rfl⟩, below_iter _ _ _⟩
    ·go_wp2_with fail
     refine (need_no _ _).mono ?_
     rintro e W1 ⟨rfl, rfl⟩
     go_wp2
     exact ⟨rfl, by rw [HN.out]; exact ⟨_, rfl⟩, below_iter _ _ _⟩
  ·have e : pos = s.length := by omega
   subst e
   rw [List.take_length] at hdg ⊢
   have hnx : ∀ ty, (Instr.next (.pointer (some ⟨w.heap.size, 0, none⟩)) true ty).run Tryz.prog (w.iter (bys s) s.length) = .ok (.tuple #[.bool false]) (w.iter (bys s) s.length) := fun ty => run_next_end w (bys s) s.length ty (by omega)
   have hv := value_bd s.length s rfl hdg
   have hlt : (bys s).toList = s := ByteArray.toList_mk s
   by_cases h0 : s = []
   ·have HN : Hid (Col.given s = none) := Lib.hid (by rw [h0]; rfl)
    have hem : s.isEmpty = true := by rw [h0]; rfl
    clear h0
    go_wp2_with fail
    refine (need_no _ _).mono ?_
    rintro e W1 ⟨rfl, rfl⟩
    go_wp2
    exact ⟨rfl, by rw [HN.out]; exact ⟨_, rfl⟩, below_iter _ _ _⟩
   ·have hl0 : 0 < s.length := List.length_pos_iff.2 h0
    have hl5 := hfive hl0
    have hem : s.isEmpty = false := by rw [List.isEmpty_eq_false_iff]; exact h0
    have hle : (10 : Int) ^ s.length ≤ 10 ^ 5 := by
     have : (10 : Nat) ^ s.length ≤ 10 ^ 5 := Nat.pow_le_pow_right (by decide) hl5
     exact_mod_cast this
    have hv2 : Col.value s < 100000 := Int.lt_of_lt_of_le hv.2 hle
    have HGV : Hid (Col.given s = if Lib.itoa (Col.value s) = s then some (Col.value s) else none) := Lib.hid (by
     unfold Col.given
     rw [hdg]
     simp [hl5, hl0])
    have HI := Lib.hid (itoa_calls (Col.value s) (by omega) (by omega) _ (HG.out _ (below_iter w (bys s) s.length)))
    clear hv hle h0
    go_wp2_with fail
    refine HI.out.mono ?_
    rintro e w2 ⟨rfl, hb2⟩
    have HB2 := Aside0.mk ((below_iter w (bys s) s.length).trans (hb2.mono (below_iter w (bys s) s.length).size))
    clear hb2 HI
    have hl2 : (⟨(Lib.itoa (Col.value s)).toArray⟩ : ByteArray).toList = Lib.itoa (Col.value s) := ByteArray.toList_mk _
    by_cases hq : Lib.itoa (Col.value s) = s
    ·have HGV2 : Hid (Col.given s = some (Col.value s)) := Lib.hid (by rw [HGV.out, if_pos hq])
     have hq2 : (Lib.itoa (Col.value s) == s) = true := beq_iff_eq.2 hq
     clear hq HGV
     go_wp2_with fail
     refine (need_ok _ _).mono ?_
     rintro e W1 ⟨rfl, rfl⟩
     go_wp2
     go_ret
     exact ⟨by rw [HGV2.out]; rfl, HB2.out⟩
    ·have HN : Hid (Col.given s = none) := Lib.hid (by rw [HGV.out, if_neg hq])
     have hq2 : (Lib.itoa (Col.value s) == s) = false := beq_eq_false_iff_ne.2 hq
     clear hq HGV
     go_wp2_with fail
     refine (need_no _ _).mono ?_
     rintro e W1 ⟨rfl, rfl⟩
     go_wp2
     exact ⟨rfl, by rw [HN.out]; exact ⟨_, rfl⟩, HB2.out⟩
end Go.Proofs.YtohlmoppcmjknaaGreatDoor.X
end
section
namespace Go.Proofs.YtohlmoppcmjknaaGreatDoor.X
open Go.RowKit Go.Proofs.YtohlmoppcmjknaaGreatDoorW.PrintWords Go.Proofs.YtohlmoppcmjknaaGreatDoorW.PrintLast Go.Proofs.YtohlmoppcmjknaaGreatDoorW.PrintMore
open Go.Proofs.YtohlmoppcmjknaaGreatDoor.Col (nth bys)
set_option linter.unusedVariables false
set_option linter.unusedSimpArgs false
theorem gives_some {v : Value} {e : Ending} : Gives (some v) e ↔ e = .returned v := Iff.rfl
theorem gives_none {e : Ending} : Gives none e ↔ ∃ s : ByteArray, e = .panicked [{ v := .iface 131 (.agg #[.string s]), recovered := false }] := Iff.rfl
theorem given_some {s : List UInt8} {n : Int} (h : Col.given s = some n) (w : World) (hG : Tryz.Glob w) :
  Calls Tryz.prog 107 #[.string (bys s)] w fun e w' => e = .returned (.int .i64 n) ∧ Below w.heap.size w w' :=
 (given_calls s w hG).mono fun e w' hh => ⟨by have := hh.1; rw [h] at this; exact this, hh.2⟩
theorem given_none {s : List UInt8} (h : Col.given s = none) (w : World) (hG : Tryz.Glob w) :
  Calls Tryz.prog 107 #[.string (bys s)] w fun e w' => (∃ s : ByteArray, e = .panicked [{ v := .iface 131 (.agg #[.string s]), recovered := false }]) ∧ Below w.heap.size w w' :=
 (given_calls s w hG).mono fun e w' hh => ⟨by have := hh.1; rw [h] at this; exact this, hh.2⟩
theorem given_le {s : List UInt8} {n : Int} (h : Col.given s = some n) : 0 ≤ n ∧ n < 100000 := by
 unfold Col.given at h
 by_cases hc : (s.all Col.isDigit && decide (s.length ≤ 5) && decide (0 < s.length) && decide (Lib.itoa (Col.value s) = s)) = true
 ·rw [if_pos hc] at h
  rw [Bool.and_eq_true, Bool.and_eq_true, Bool.and_eq_true, decide_eq_true_eq] at hc
  have hv := value_bd s.length s rfl hc.1.1.1
  have hle : (10 : Int) ^ s.length ≤ 10 ^ 5 := by
   have : (10 : Nat) ^ s.length ≤ 10 ^ 5 := Nat.pow_le_pow_right (by decide) hc.1.1.2
   exact_mod_cast this
  cases h
  exact ⟨hv.1, Int.lt_of_lt_of_le hv.2 hle⟩
 ·rw [if_neg hc] at h; cases h
theorem signed_le {s : List UInt8} {n : Int} (h : Col.signed s = some n) : -100000 < n ∧ n < 100000 := by
 unfold Col.signed at h
 split at h
 ·split at h
  ·rename_i hg
   have := given_le hg
   split at h
   ·cases h; omega
   ·cases h
  ·cases h
 ·have := given_le h
  omega
theorem cut_minus (u : List UInt8) : Lib.hasPrefix (45 :: u) [45] = true ∧ Lib.trimPrefix (45 :: u) [45] = u := by
 constructor
 ·simp [Lib.hasPrefix]
 ·simp [Lib.trimPrefix, Lib.hasPrefix]
theorem cut_none {s : List UInt8} (h : s.head? ≠ some 45) : Lib.hasPrefix s [45] = false := by
 cases s with
 | nil => simp [Lib.hasPrefix]
 | cons a u =>
  simp only [List.head?_cons, ne_eq, Option.some.injEq] at h
  have : (45 == a) = false := beq_eq_false_iff_ne.2 (Ne.symm h)
  simp [Lib.hasPrefix, List.isPrefixOf, this]
set_option maxHeartbeats 4000000 in
set_option maxRecDepth 100000 in
theorem signed_calls (s : List UInt8) (w : World) (hG : Tryz.Glob w) :
  Calls Tryz.prog 108 #[.string (bys s)] w fun e w' => Gives ((Col.signed s).map (.int .i64)) e ∧ Below w.heap.size w w' := by
 have hcp := Tryz.strings_CutPrefix (bys s) ⟨#[45]⟩ w
 rw [Col.bytes_list, show (⟨#[45]⟩ : ByteArray).data.toList = [45] from rfl] at hcp
 by_cases hm : s.head? = some 45
 ·obtain ⟨u, rfl⟩ : ∃ u, s = 45 :: u := by
   cases s with
   | nil => cases hm
   | cons a u => exact ⟨u, by simp at hm; rw [hm]⟩
  rw [(cut_minus u).1, (cut_minus u).2] at hcp
  have HCP := Lib.hid hcp
  clear hcp hm
  cases hg : Col.given u with
  | none =>
   have HN : Hid (Col.signed (45 :: u) = none) := Lib.hid (by show (match Col.given u with | some n => _ | none => _) = _; rw [hg])
   have HC := Lib.hid (given_none hg w hG)
   clear hg hG
   go_enter Tryz.func108, Tryz.ntmps108
   go_wp2_with fail
   refine HCP.out.mono ?_
   rintro e w1 ⟨rfl, rfl⟩
   go_wp2_with fail
   refine HC.out.mono ?_
   rintro e w2 ⟨⟨x, rfl⟩, hb⟩
   have HB := Aside0.mk hb
   clear hb HC HCP
   go_wp2
   exact ⟨rfl, by rw [HN.out]; exact ⟨_, rfl⟩, HB.out⟩
  | some n =>
   have HC := Lib.hid (given_some hg w hG)
   have hn := given_le hg
   by_cases h0 : 0 < n
   ·have HN : Hid (Col.signed (45 :: u) = some (-n)) := Lib.hid (by show (match Col.given u with | some n => _ | none => _) = _; rw [hg]; exact if_pos h0)
    have hd : decide (0 < n) = true := decide_eq_true h0
    have hwr : wrap64 (-n) = -n := by unfold wrap64; omega
    clear hg hG
    go_enter Tryz.func108, Tryz.ntmps108
    go_wp2_with fail
    refine HCP.out.mono ?_
    rintro e w1 ⟨rfl, rfl⟩
    go_wp2_with fail
    refine HC.out.mono ?_
    rintro e w2 ⟨rfl, hb⟩
    have HB := Aside0.mk hb
    clear hb HC HCP
    go_wp2_with fail
    refine (need_ok _ _).mono ?_
    rintro e W1 ⟨rfl, rfl⟩
    go_wp2
    go_ret
    exact ⟨by rw [HN.out]; rfl, HB.out⟩
   ·have HN : Hid (Col.signed (45 :: u) = none) := Lib.hid (by show (match Col.given u with | some n => _ | none => _) = _; rw [hg]; exact if_neg h0)
    have hd : decide (0 < n) = false := decide_eq_false h0
    clear hg hG
    go_enter Tryz.func108, Tryz.ntmps108
    go_wp2_with fail
    refine HCP.out.mono ?_
    rintro e w1 ⟨rfl, rfl⟩
    go_wp2_with fail
    refine HC.out.mono ?_
    rintro e w2 ⟨rfl, hb⟩
    have HB := Aside0.mk hb
    clear hb HC HCP
    go_wp2_with fail
    refine (need_no _ _).mono ?_
    rintro e W1 ⟨rfl, rfl⟩
    go_wp2
    exact ⟨rfl, by rw [HN.out]; exact ⟨_, rfl⟩, HB.out⟩
 ·rw [cut_none hm] at hcp
  have HCP := Lib.hid hcp
  have HS : Hid (Col.signed s = Col.given s) := Lib.hid (by
   unfold Col.signed
   split
   ·exact absurd rfl hm
   ·rfl)
  have HC := Lib.hid (given_calls s w hG)
  clear hcp hm hG
  go_enter Tryz.func108, Tryz.ntmps108
  go_wp2_with fail
  refine HCP.out.mono ?_
  rintro e w1 ⟨rfl, rfl⟩
  go_wp2_with fail
  refine HC.out.mono ?_
  rintro e w2 ⟨hg, hb⟩
  have HB := Aside0.mk hb
  rw [← HS.out] at hg
  clear hb HC HCP HS
  cases ho : Col.signed s with
  | none =>
   rw [ho] at hg
   obtain ⟨x, rfl⟩ := hg
   have HO := Lib.hid ho
   clear ho
   go_wp2
   exact ⟨rfl, by rw [HO.out]; exact ⟨_, rfl⟩, HB.out⟩
  | some n =>
   rw [ho] at hg
   cases hg
   have HO := Lib.hid ho
   clear ho
   go_wp2
   go_ret
   exact ⟨by rw [HO.out]; rfl, HB.out⟩
end Go.Proofs.YtohlmoppcmjknaaGreatDoor.X
end
