/- Contracts of the program's functions, and the words that their proofs take (joined out of several texts). -/
import Derived.Test.YtohlmoppcmjknaaGreatDoorM2
import Derived.Test.YtohlmoppcmjknaaGreatDoorM3
import Derived.Test.YtohlmoppcmjknaaGreatDoorM6
import Derived.Test.YtohlmoppcmjknaaGreatDoorM13
section
namespace Go.Proofs.YtohlmoppcmjknaaGreatDoor.X
open Go.RowKit Go.Proofs.YtohlmoppcmjknaaGreatDoorW.PrintWords Go.Proofs.YtohlmoppcmjknaaGreatDoorW.PrintLast Go.Proofs.YtohlmoppcmjknaaGreatDoorW.PrintMore
open Go.Proofs.YtohlmoppcmjknaaGreatDoor.Col (nth bys)
set_option linter.unusedVariables false
set_option linter.unusedSimpArgs false
set_option maxHeartbeats 1000000 in
set_option maxRecDepth 100000 in
theorem read_some {s : List UInt8} (hs : s.length ≤ 190) {l : List Int} {o lo hi : Int} (h : Col.parse s = some (l, o, lo, hi)) (b1 b4 : Nat) (w : World) (hG : Tryz.Glob w) (h1 : w.heap[b1]? = some (.cells #[.string (bys s)] 9 (0, 0))) (h4 : w.heap[b4]? = some (.cells #[.slice none 0 0, .int .i64 0, .int .i64 0, .int .i64 0] 26 (0, 0))) :
  Calls Tryz.prog 75 #[.pointer (some ⟨b1, 0, none⟩), .pointer (some ⟨b4, 0, none⟩)] w fun e w' => ∃ A c w2, e = .returned (.tuple #[]) ∧ Below w.heap.size w w2 ∧ Kd.R (Kd.int .i64) 3 w2 w.heap.size (fun _ => True) (.slice A l.length c) l ∧
   w' = (((w2.setCell ⟨b4, 0, none⟩ (.slice A l.length c)).setCell ⟨b4, 1, none⟩ (.int .i64 o)).setCell ⟨b4, 2, none⟩ (.int .i64 lo)).setCell ⟨b4, 3, none⟩ (.int .i64 hi) := by
 have hp := parsed_calls s hs w hG
 rw [h] at hp
 have HP := Lib.hid hp
 have hc := (blk_cell h1 0).trans rfl
 have H4 := Aside0.mk h4
 clear hp h hG h1 h4
 go_enter Tryz.func75, Tryz.ntmps75
 go_wp2_with fail
 refine HP.out.mono ?_
 rintro e w2 ⟨⟨A, c, rfl, hR⟩, hb⟩
 have g0 := blk_below H4.out hb
 have hr0 := (blk_cell g0 0).trans rfl
 have hr1 := (blk_cell g0 1).trans rfl
 have hr2 := (blk_cell g0 2).trans rfl
 have hr3 := (blk_cell g0 3).trans rfl
 have hf0 := blk_frozen g0 0
 have hf1 := blk_frozen g0 1
 have hf2 := blk_frozen g0 2
 have hf3 := blk_frozen g0 3
 have HR := Aside0.mk hR
 have HB := Aside0.mk hb
 clear hR hb hc
 go_wp2
 simp only [bodyPost, results, Tryz.results75]
 exact ⟨trivial, .tuple #[], by simp, A, c, w2, rfl, HB.out, HR.out, rfl⟩
set_option maxHeartbeats 1000000 in
set_option maxRecDepth 100000 in
theorem read_none {s : List UInt8} (hs : s.length ≤ 190) (h : Col.parse s = none) (b1 b4 : Nat) (w : World) (hG : Tryz.Glob w) (h1 : w.heap[b1]? = some (.cells #[.string (bys s)] 9 (0, 0))) :
  Calls Tryz.prog 75 #[.pointer (some ⟨b1, 0, none⟩), .pointer (some ⟨b4, 0, none⟩)] w fun e w' => (∃ s : ByteArray, e = .panicked [{ v := .iface 131 (.agg #[.string s]), recovered := false }]) ∧ Below w.heap.size w w' := by
 have hp := parsed_calls s hs w hG
 rw [h] at hp
 have HP := Lib.hid hp
 have hc := (blk_cell h1 0).trans rfl
 clear hp h hG h1
 go_enter Tryz.func75, Tryz.ntmps75
 go_wp2_with fail
 refine HP.out.mono ?_
 rintro e w2 ⟨⟨x, rfl⟩, hb⟩
 exact ⟨rfl, ⟨x, rfl⟩, hb⟩
end Go.Proofs.YtohlmoppcmjknaaGreatDoor.X
end
section
namespace Go.Proofs.YtohlmoppcmjknaaGreatDoor.P
open Go.RowKit Go.Proofs.YtohlmoppcmjknaaGreatDoorW.PrintWords Go.Proofs.YtohlmoppcmjknaaGreatDoorW.PrintLast Go.Proofs.YtohlmoppcmjknaaGreatDoorW.PrintMore Go.Proofs.YtohlmoppcmjknaaGreatDoor.X
open Go.Proofs.YtohlmoppcmjknaaGreatDoor.Col (nth bys)
set_option linter.unusedVariables false
set_option linter.unusedSimpArgs false
def Put (w0 : World) (b4 : Nat) (o : Option (List Int × Int × Int × Int)) (w' : World) : Prop := match o with
 | some (l, o, lo, hi) => ∃ A c, w'.heap[b4]? = some (.cells #[.slice A l.length c, .int .i64 o, .int .i64 lo, .int .i64 hi] 26 (0, 0)) ∧ Kd.R (Kd.int .i64) 3 w' (b4 + 1) (fun _ => True) (.slice A l.length c) l
 | none => True
theorem ne_errno : ∀ q, q ∈ 3 :: (Kd.int .i64).E → q ≠ 30 := by
 intro q hq
 rcases List.mem_cons.1 hq with rfl | h
 ·decide
 ·cases h
set_option maxHeartbeats 1000000 in
set_option maxRecDepth 100000 in
theorem read_attempt (s : List UInt8) (hs : s.length ≤ 190) (b1 b4 : Nat) (w : World) (hG : Tryz.Glob w) (h1 : w.heap[b1]? = some (.cells #[.string (bys s)] 9 (0, 0))) (h4 : w.heap[b4]? = some (.cells #[.slice none 0 0, .int .i64 0, .int .i64 0, .int .i64 0] 26 (0, 0))) :
  Calls Tryz.prog 74 #[.func (.func 75) #[] #[.pointer (some ⟨b1, 0, none⟩), .pointer (some ⟨b4, 0, none⟩)]] w fun e w' =>
   e = .returned (.int .i64 (match Col.parse s with | some _ => 0 | none => 4)) ∧ Put w b4 (Col.parse s) w' ∧ Below b4 w w' := by
 have eg : ∀ (args : Array Value) (W : World), (callFunc 75 args).run Tryz.prog W = .ok (.enter 75 args) W := fun args W => by kernel_rfl
 have h0 : Below w.heap.size w (w.alloc (.cells #[.int .i64 0] 30)) := (Below.refl _ _).alloc (Nat.le_refl _) _
 have l4 : b4 < w.heap.size := (Array.getElem?_eq_some_iff.1 h4).1
 have g1 := blk_below h1 h0
 have g4 := blk_below h4 h0
 have hG' := hG.below h0
 cases hp : Col.parse s with
 | none =>
  have hm := read_none hs hp b1 b4 _ hG' g1
  refine attempt_text _ _ _ eg (fun w' => Put w b4 none w' ∧ Below b4 w w') w (hm.mono ?_)
  rintro e W ⟨⟨x, he⟩, hb⟩
  have hbx : W.heap[w.heap.size]? = some (.cells #[.int .i64 0] 30 (0, 0)) := (hb.block w.heap.size (by simp)).trans (blk_new w _)
  have hB := ((below_step h0 hb).mono (Nat.le_of_lt l4)).setCell (p := ⟨w.heap.size, 0, none⟩) (Nat.le_of_lt l4) (.int .i64 4)
  exact ⟨x, he, hbx, trivial, hB.alloc (Nat.le_trans (Nat.le_of_lt l4) (by have := (below_step h0 hb).size; simpa using this)) _⟩
 | some x =>
  obtain ⟨l, o, lo, hi⟩ := x
  have hm := read_some hs hp b1 b4 _ hG' g1 g4
  refine attempt_ok _ _ _ eg (fun w' => Put w b4 (some (l, o, lo, hi)) w' ∧ Below b4 w w') w (hm.mono ?_)
  rintro e W ⟨A, c, w2, he, hb, hR, rfl⟩
  have hbx : w2.heap[w.heap.size]? = some (.cells #[.int .i64 0] 30 (0, 0)) := (hb.block w.heap.size (by simp)).trans (blk_new w _)
  have k4 := blk_below g4 hb
  have p1 := blk_put k4 0 (.slice A l.length c) rfl
  have p2 := blk_put p1 1 (.int .i64 o) rfl
  have p3 := blk_put p2 2 (.int .i64 lo) rfl
  have p4 := blk_put p3 3 (.int .i64 hi) rfl
  have q1 := Kd.R_set hR k4 ne_sheet 0 (.slice A l.length c)
  have q2 := Kd.R_set q1 p1 ne_sheet 1 (.int .i64 o)
  have q3 := Kd.R_set q2 p2 ne_sheet 2 (.int .i64 lo)
  have q4 := Kd.R_set q3 p3 ne_sheet 3 (.int .i64 hi)
  have hne : w.heap.size ≠ b4 := by omega
  have hfar : ∀ (W : World) (i : Nat) (u : Value), (W.setCell ⟨b4, i, none⟩ u).heap[w.heap.size]? = W.heap[w.heap.size]? := fun W i u => Below.heap_setCell W _ u _ hne
  have hbx4 := ((hfar _ 3 (.int .i64 hi)).trans ((hfar _ 2 (.int .i64 lo)).trans ((hfar _ 1 (.int .i64 o)).trans ((hfar _ 0 (.slice A l.length c)).trans hbx))))
  have hfar2 : ∀ (W : World) (u : Value), (W.setCell ⟨w.heap.size, 0, none⟩ u).heap[b4]? = W.heap[b4]? := fun W u => Below.heap_setCell W _ u _ (Ne.symm hne)
  have hB := (((((below_step h0 hb).mono (Nat.le_of_lt l4)).setCell (p := ⟨b4, 0, none⟩) (Nat.le_refl _) (.slice A l.length c)).setCell (p := ⟨b4, 1, none⟩) (Nat.le_refl _) (.int .i64 o)).setCell (p := ⟨b4, 2, none⟩) (Nat.le_refl _) (.int .i64 lo)).setCell (p := ⟨b4, 3, none⟩) (Nat.le_refl _) (.int .i64 hi)
  refine ⟨⟨_, he⟩, hbx4, ⟨A, c, (hfar2 _ _).trans p4, ?_⟩, hB.setCell (p := ⟨w.heap.size, 0, none⟩) (Nat.le_of_lt l4) _⟩
  exact Kd.R_lower (Kd.R_set q4 hbx4 ne_errno 0 (.int .i64 0)) (by simp; omega)
theorem fRead_long {s : List UInt8} (h : 190 < s.length) : Col.fRead (bys s) = some ([], 0, 0, 0, 3) := by
 unfold Col.fRead
 rw [Col.bytes_size, if_pos h]
theorem fRead_none {s : List UInt8} (h : ¬ 190 < s.length) (hp : Col.parse s = none) : Col.fRead (bys s) = some ([], 0, 0, 0, 4) := by
 unfold Col.fRead
 rw [Col.bytes_size, if_neg h, show (bys s).toList = s from ByteArray.toList_mk s, hp]
theorem fRead_some {s : List UInt8} (h : ¬ 190 < s.length) {l : List Int} {o lo hi : Int} (hp : Col.parse s = some (l, o, lo, hi)) : Col.fRead (bys s) = some (if Col.isSheet l o lo hi = true then (l, o, lo, hi, 0) else ([], 0, 0, 0, 2)) := by
 unfold Col.fRead
 rw [Col.bytes_size, if_neg h, show (bys s).toList = s from ByteArray.toList_mk s, hp]
set_option maxHeartbeats 1000000 in
set_option maxRecDepth 100000 in
theorem column_Read.calls (a0 : ByteArray) (r1 : List Int) (r2 : Int) (r3 : Int) (r4 : Int) (r5 : Int) (w : World) (h : column_Read.f a0 = some (r1, r2, r3, r4, r5)) (hT : Tryz.Glob w) :
  Calls Tryz.prog 25 #[.string a0] w fun e w' => ∃ v0_ : Value, e = .returned (.tuple #[.agg #[v0_, .int .i64 r2, .int .i64 r3, .int .i64 r4], .int .i64 r5]) ∧ Kd.R (Kd.int .i64) 3 w' w.heap.size (fun _ => True) v0_ r1 ∧ Below w.heap.size w w' := by
 obtain ⟨s, rfl⟩ : ∃ s, a0 = bys s := ⟨a0.data.toList, (Col.bys_data a0).symm⟩
 have hr : Col.fRead (bys s) = some (r1, r2, r3, r4, r5) := h
 have hsz : (bys s).size = s.length := Col.bytes_size s
 clear h
 by_cases hl : 190 < s.length
 ·rw [fRead_long hl] at hr
  cases hr
  go_enter Tryz.func25, Tryz.ntmps25
  go_wp2
  have hg : ((w.alloc (.cells #[.string (bys s)] 9)).alloc (.cells #[.slice none 0 0, .int .i64 0, .int .i64 0, .int .i64 0] 26)).heap[w.heap.size + 1]? = some (.cells #[.slice none 0 0, .int .i64 0, .int .i64 0, .int .i64 0] 26 (0, 0)) := by
   have := blk_new (w.alloc (.cells #[.string (bys s)] 9)) (.cells #[.slice none 0 0, .int .i64 0, .int .i64 0, .int .i64 0] 26)
   simpa using this
  refine bodyPost_ret (results_ct rfl _ _ (w.heap.size + 1) 26 #[.slice none 0 0, .int .i64 0, .int .i64 0, .int .i64 0] (0, 0) _ rfl hg Tryz.underlying26 rfl (by kernel_rfl)) rfl ?_
  exact ⟨_, rfl, Kd.R_nil _ _ _ _ _, ((Below.refl _ _).alloc (Nat.le_refl _) _).alloc (by simp) _⟩
 have hB3 : Below w.heap.size w (((w.alloc (.cells #[.string (bys s)] 9)).alloc (.cells #[.slice none 0 0, .int .i64 0, .int .i64 0, .int .i64 0] 26)).alloc (.cells #[.slice none 0 0, .int .i64 0, .int .i64 0, .int .i64 0] 26)) := (((Below.refl _ _).alloc (Nat.le_refl _) _).alloc (by simp) _).alloc (by simp; omega) _
 have hg4 : (((w.alloc (.cells #[.string (bys s)] 9)).alloc (.cells #[.slice none 0 0, .int .i64 0, .int .i64 0, .int .i64 0] 26)).alloc (.cells #[.slice none 0 0, .int .i64 0, .int .i64 0, .int .i64 0] 26)).heap[w.heap.size + 2]? = some (.cells #[.slice none 0 0, .int .i64 0, .int .i64 0, .int .i64 0] 26 (0, 0)) := by
  have := blk_new ((w.alloc (.cells #[.string (bys s)] 9)).alloc (.cells #[.slice none 0 0, .int .i64 0, .int .i64 0, .int .i64 0] 26)) (.cells #[.slice none 0 0, .int .i64 0, .int .i64 0, .int .i64 0] 26)
  simpa using this
 have hg2 : (((w.alloc (.cells #[.string (bys s)] 9)).alloc (.cells #[.slice none 0 0, .int .i64 0, .int .i64 0, .int .i64 0] 26)).alloc (.cells #[.slice none 0 0, .int .i64 0, .int .i64 0, .int .i64 0] 26)).heap[w.heap.size + 1]? = some (.cells #[.slice none 0 0, .int .i64 0, .int .i64 0, .int .i64 0] 26 (0, 0)) := by
  have := blk_alloc (blk_new (w.alloc (.cells #[.string (bys s)] 9)) (.cells #[.slice none 0 0, .int .i64 0, .int .i64 0, .int .i64 0] 26)) (.cells #[.slice none 0 0, .int .i64 0, .int .i64 0, .int .i64 0] 26)
  simpa using this
 have hg1 := blk_alloc (blk_alloc (blk_new w (.cells #[.string (bys s)] 9)) (.cells #[.slice none 0 0, .int .i64 0, .int .i64 0, .int .i64 0] 26)) (.cells #[.slice none 0 0, .int .i64 0, .int .i64 0, .int .i64 0] 26)
 have hA := read_attempt s (by omega) w.heap.size (w.heap.size + 2) _ (hT.below hB3) hg1 hg4
 have HB3 := Aside0.mk hB3
 have HG2 := Aside0.mk hg2
 have hmf : ∀ (fn : Fn) (first cap : Array Value) (w : World), (Instr.makeFunc fn first cap).run Tryz.prog w = .ok (.func fn first cap) w := fun _ _ _ _ => rfl
 clear hT hg1 hg2 hg4 hB3
 cases hp : Col.parse s with
 | none =>
  rw [fRead_none hl hp] at hr
  cases hr
  rw [hp] at hA
  have HA := Lib.hid hA
  clear hA hp
  go_enter Tryz.func25, Tryz.ntmps25
  go_wp2_with fail
  refine HA.out.mono ?_
  rintro e w5 ⟨rfl, _, hb⟩
  have g0 := (hb.block (w.heap.size + 1) (by omega)).trans HG2.out
  have hr0 := (blk_cell g0 0).trans rfl
  have hr1 := (blk_cell g0 1).trans rfl
  have hr2 := (blk_cell g0 2).trans rfl
  have hr3 := (blk_cell g0 3).trans rfl
  have hf0 := blk_frozen g0 0
  have hf1 := blk_frozen g0 1
  have hf2 := blk_frozen g0 2
  have hf3 := blk_frozen g0 3
  have HB5 := Aside0.mk (HB3.out.trans (hb.mono (by omega)))
  have HG5 := Aside0.mk g0
  clear hb HA HB3 HG2 g0
  go_wp2
  refine bodyPost_ret (results_ct rfl _ _ (w.heap.size + 1) 26 #[.slice none 0 0, .int .i64 0, .int .i64 0, .int .i64 0] (0, 0) _ rfl (blk_put (blk_put (blk_put (blk_put HG5.out 0 _ rfl) 1 _ rfl) 2 _ rfl) 3 _ rfl) Tryz.underlying26 rfl (by kernel_rfl)) rfl ?_
  exact ⟨_, rfl, Kd.R_nil _ _ _ _ _, (((HB5.out.setCell (p := ⟨w.heap.size + 1, 0, none⟩) (Nat.le_succ _) _).setCell (p := ⟨w.heap.size + 1, 1, none⟩) (Nat.le_succ _) _).setCell (p := ⟨w.heap.size + 1, 2, none⟩) (Nat.le_succ _) _).setCell (p := ⟨w.heap.size + 1, 3, none⟩) (Nat.le_succ _) _⟩
 | some x =>
  obtain ⟨l, o, lo, hi⟩ := x
  rw [fRead_some hl hp] at hr
  rw [hp] at hA
  have HA := Lib.hid hA
  have HR := Lib.hid hr
  clear hA hp hr
  go_enter Tryz.func25, Tryz.ntmps25
  go_wp2_with fail
  refine HA.out.mono ?_
  rintro e w5 ⟨rfl, ⟨A, c, g4, hR⟩, hb⟩
  have g0 := (hb.block (w.heap.size + 1) (by omega)).trans HG2.out
  have hs0 := (blk_cell g4 0).trans rfl
  have hs1 := (blk_cell g4 1).trans rfl
  have hs2 := (blk_cell g4 2).trans rfl
  have hs3 := (blk_cell g4 3).trans rfl
  have HB5 := Aside0.mk (HB3.out.trans (hb.mono (by omega)))
  have HG0 := Aside0.mk g0
  have HG4 := Aside0.mk g4
  have HRR := Aside0.mk hR
  obtain ⟨A', c', e', hc', hC'⟩ := Kd.R_reads hR
  injection e' with e1 e2 e3
  subst e1 e3
  have HI := Lib.hid (column_isSheet.calls _ _ l o lo hi (Col.isSheet l o lo hi) w5 hC' hc' rfl)
  clear hb HA HB3 HG2 g0 g4 hR hC'
  have HW5 := Lib.hid (show w.heap.size + 2 < w5.heap.size from (Array.getElem?_eq_some_iff.1 HG4.out).1)
  cases hi' : Col.isSheet l o lo hi with
  | false =>
   rw [hi'] at HI HR
   have hr : (([], 0, 0, 0, 2) : List Int × Int × Int × Int × Int) = (r1, r2, r3, r4, r5) := Option.some.inj HR.out
   clear HR hi'
   cases hr
   go_wp2_with fail
   refine HI.out.mono ?_
   rintro e w6 ⟨rfl, hb6⟩
   have g0 := blk_below HG0.out hb6
   have hr0 := (blk_cell g0 0).trans rfl
   have hr1 := (blk_cell g0 1).trans rfl
   have hr2 := (blk_cell g0 2).trans rfl
   have hr3 := (blk_cell g0 3).trans rfl
   have hf0 := blk_frozen g0 0
   have hf1 := blk_frozen g0 1
   have hf2 := blk_frozen g0 2
   have hf3 := blk_frozen g0 3
   have HB6 := Aside0.mk (below_step HB5.out hb6)
   have HG6 := Aside0.mk g0
   clear hb6 HI hs0 hs1 hs2 hs3 g0 HG4 HRR
   go_wp2
   refine bodyPost_ret (results_ct rfl _ _ (w.heap.size + 1) 26 #[.slice none 0 0, .int .i64 0, .int .i64 0, .int .i64 0] (0, 0) _ rfl (blk_put (blk_put (blk_put (blk_put HG6.out 0 _ rfl) 1 _ rfl) 2 _ rfl) 3 _ rfl) Tryz.underlying26 rfl (by kernel_rfl)) rfl ?_
   exact ⟨_, rfl, Kd.R_nil _ _ _ _ _, (((HB6.out.setCell (p := ⟨w.heap.size + 1, 0, none⟩) (Nat.le_succ _) _).setCell (p := ⟨w.heap.size + 1, 1, none⟩) (Nat.le_succ _) _).setCell (p := ⟨w.heap.size + 1, 2, none⟩) (Nat.le_succ _) _).setCell (p := ⟨w.heap.size + 1, 3, none⟩) (Nat.le_succ _) _⟩
  | true =>
   rw [hi'] at HI HR
   have hr : ((l, o, lo, hi, 0) : List Int × Int × Int × Int × Int) = (r1, r2, r3, r4, r5) := Option.some.inj HR.out
   clear HR hi'
   cases hr
   go_wp2_with fail
   refine HI.out.mono ?_
   rintro e w6 ⟨rfl, hb6⟩
   have g0 := blk_below HG0.out hb6
   have g4 := blk_below HG4.out hb6
   have ht0 := (blk_cell g4 0).trans rfl
   have ht1 := (blk_cell g4 1).trans rfl
   have ht2 := (blk_cell g4 2).trans rfl
   have ht3 := (blk_cell g4 3).trans rfl
   have hr0 := (blk_cell g0 0).trans rfl
   have hr1 := (blk_cell g0 1).trans rfl
   have hr2 := (blk_cell g0 2).trans rfl
   have hr3 := (blk_cell g0 3).trans rfl
   have hf0 := blk_frozen g0 0
   have hf1 := blk_frozen g0 1
   have hf2 := blk_frozen g0 2
   have hf3 := blk_frozen g0 3
   have HB6 := Aside0.mk (below_step HB5.out hb6)
   have HG6 := Aside0.mk g0
   have HR6 := Aside0.mk (Kd.R_below HRR.out hb6)
   clear hb6 HI hs0 hs1 hs2 hs3 g0 g4 HRR
   go_wp2
   have p1 := blk_put HG6.out 0 (.slice A r1.length c) rfl
   have p2 := blk_put p1 1 (.int .i64 r2) rfl
   have p3 := blk_put p2 2 (.int .i64 r3) rfl
   have p4 := blk_put p3 3 (.int .i64 r4) rfl
   have q4 := Kd.R_set (Kd.R_set (Kd.R_set (Kd.R_set HR6.out HG6.out ne_sheet 0 (.slice A r1.length c)) p1 ne_sheet 1 (.int .i64 r2)) p2 ne_sheet 2 (.int .i64 r3)) p3 ne_sheet 3 (.int .i64 r4)
   refine bodyPost_ret (results_ct rfl _ _ (w.heap.size + 1) 26 #[.slice A r1.length c, .int .i64 r2, .int .i64 r3, .int .i64 r4] (0, 0) _ rfl p4 Tryz.underlying26 rfl (by kernel_rfl)) rfl ?_
   exact ⟨_, rfl, Kd.R_lower q4 (by omega), (((HB6.out.setCell (p := ⟨w.heap.size + 1, 0, none⟩) (Nat.le_succ _) _).setCell (p := ⟨w.heap.size + 1, 1, none⟩) (Nat.le_succ _) _).setCell (p := ⟨w.heap.size + 1, 2, none⟩) (Nat.le_succ _) _).setCell (p := ⟨w.heap.size + 1, 3, none⟩) (Nat.le_succ _) _⟩
end Go.Proofs.YtohlmoppcmjknaaGreatDoor.P
end
