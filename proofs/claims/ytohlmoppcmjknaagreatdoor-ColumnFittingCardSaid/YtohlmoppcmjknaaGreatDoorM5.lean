/- Contracts of the program's functions, and the words that their proofs take (joined out of several texts). -/
import Derived.Laws.EntriesVeiled
import Derived.Test.YtohlmoppcmjknaaGreatDoorM2
import Derived.Test.YtohlmoppcmjknaaGreatDoorM3
import Derived.Test.YtohlmoppcmjknaaGreatDoorM4
section
namespace Go.Proofs.YtohlmoppcmjknaaGreatDoor.X
open Go.RowKit Go.Proofs.YtohlmoppcmjknaaGreatDoorW.PrintWords Go.Proofs.YtohlmoppcmjknaaGreatDoorW.PrintLast Go.Proofs.YtohlmoppcmjknaaGreatDoorW.PrintMore
open Go.Proofs.YtohlmoppcmjknaaGreatDoor.Col (nth)
set_option linter.unusedVariables false
set_option linter.unusedSimpArgs false
def betTo (l : List Int) (o lo hi row : Int) (j : Nat) : Int × Int := (List.range j).foldl (Col.narrow l o lo hi row) (-9999, 9999)
theorem betTo_succ (l : List Int) (o lo hi row : Int) (j : Nat) : betTo l o lo hi row (j + 1) = Col.narrow l o lo hi row (betTo l o lo hi row j) j := by
 unfold betTo
 rw [List.range_succ, List.foldl_append]
 rfl
theorem world_three2 {w : World} {o0 o1 o2 : Obj} {G : World → Prop}
  (h : ∀ W, W.heap[w.heap.size]? = some o0 → W.heap[w.heap.size + 1]? = some o1 → W.heap[w.heap.size + 2]? = some o2 → Below w.heap.size w W → W.heap.size = w.heap.size + 3 → G W) :
  G (((w.alloc o0).alloc o1).alloc o2) := by
 refine h _ ?_ ?_ ?_ ?_ (by simp)
 ·exact blk_alloc (blk_alloc (blk_new _ _) _) _
 ·have := blk_alloc (blk_new (w.alloc o0) o1) o2
  simpa using this
 ·have := blk_new ((w.alloc o0).alloc o1) o2
  simpa using this
 ·exact (((Below.refl _ _).alloc (Nat.le_refl _) _).alloc (by simp) _).alloc (by simp; omega) _
theorem ci_far {w : World} {A : Option Addr} {l : List Int} (h : CI w A l) : ∀ ad, A = some ad → 0 < l.length → ad.block < w.heap.size := by
 intro ad e hn
 obtain ⟨ad', e', hc⟩ := h.at_ 0 hn
 rw [e] at e'
 cases e'
 have := World.block_lt_of_cell? w _ hc
 rwa [Go.Proofs.YtohlmoppcmjknaaGreatDoorW.PrintWords.add_block] at this
structure Bet (w wr : World) (A : Option Addr) (l : List Int) (c : Nat) (k lo hi : Int) (s : Int × Int) : Prop where
 b0 : wr.heap[w.heap.size]? = some (.cells #[.slice A l.length c, .int .i64 k, .int .i64 lo, .int .i64 hi] 26 (0, 0))
 b1 : wr.heap[w.heap.size + 1]? = some (.cells #[.int .i64 0, .int .i64 0] 24 (0, 0))
 b2 : wr.heap[w.heap.size + 2]? = some (.cells #[.int .i64 s.1, .int .i64 s.2] 24 (0, 0))
 ci : CI wr A l
 far : ∀ ad, A = some ad → 0 < l.length → ad.block < w.heap.size
 below : Below w.heap.size w wr
theorem Bet.step {w wr w' : World} {A : Option Addr} {l : List Int} {c : Nat} {k lo hi : Int} {s : Int × Int} (h : Bet w wr A l c k lo hi s) (hb : Below wr.heap.size wr w') : Bet w w' A l c k lo hi s :=
 ⟨blk_below h.b0 hb, blk_below h.b1 hb, blk_below h.b2 hb, h.ci.below hb, h.far, below_step h.below hb⟩
theorem Bet.put {w wr : World} {A : Option Addr} {l : List Int} {c : Nat} {k lo hi : Int} {s : Int × Int} (h : Bet w wr A l c k lo hi s) (x y : Int) :
  Bet w ((wr.setCell ⟨w.heap.size + 1 + 1, 0, none⟩ (.int .i64 x)).setCell ⟨w.heap.size + 1 + 1, 1, none⟩ (.int .i64 y)) A l c k lo hi (x, y) := by
 have hf : ∀ ad, A = some ad → 0 < l.length → ∀ j : Nat, ad.block ≠ (⟨w.heap.size + 1 + 1, j, none⟩ : Addr).block := fun ad e hn j => by have := h.far ad e hn; simp; omega
 have h2 : wr.heap[w.heap.size + 1 + 1]? = some (.cells #[.int .i64 s.1, .int .i64 s.2] 24 (0, 0)) := h.b2
 exact ⟨blk_far (blk_far h.b0 (by simp; omega) _) (by simp; omega) _, blk_far (blk_far h.b1 (by simp) _) (by simp) _, blk_put (blk_put h2 0 _ rfl) 1 _ rfl,
  (h.ci.setCell (fun ad e hn => hf ad e hn 0) _).setCell (fun ad e hn => hf ad e hn 1) _, h.far, (h.below.setCell (p := ⟨w.heap.size + 1 + 1, 0, none⟩) (by simp; omega) _).setCell (p := ⟨w.heap.size + 1 + 1, 1, none⟩) (by simp; omega) _⟩
end Go.Proofs.YtohlmoppcmjknaaGreatDoor.X
namespace Go.Proofs.YtohlmoppcmjknaaGreatDoor.P
open Go.RowKit Go.Proofs.YtohlmoppcmjknaaGreatDoorW.PrintWords Go.Proofs.YtohlmoppcmjknaaGreatDoorW.PrintLast Go.Proofs.YtohlmoppcmjknaaGreatDoorW.PrintMore Go.Proofs.YtohlmoppcmjknaaGreatDoor.X
open Go.Proofs.YtohlmoppcmjknaaGreatDoor.Col (nth)
set_option linter.unusedVariables false
set_option linter.unusedSimpArgs false
theorem max2_m (k k' : IntKind) (x y : Int) : Builtin.max2 (.int k x) (.int k' y) = pure (.int k (max x y)) := by
 rw [max2_int]
 congr 2
 split <;> omega
theorem min2_m (k k' : IntKind) (x y : Int) : Builtin.min2 (.int k x) (.int k' y) = pure (.int k (min x y)) := by
 rw [min2_int]
 congr 2
 split <;> omega
attribute [local go_sem] max2_m min2_m max_two min_two
set_option maxHeartbeats 8000000 in
set_option maxRecDepth 100000 in
theorem between_walk (A : Option Addr) (c : Nat) (l : List Int) (k : Nat) (lo hi row : Int) (hk : k ≤ 3) (hl1 : 1 ≤ l.length) (hl15 : l.length ≤ 15) (hlo : lo.natAbs ≤ 99999) (hhi : hi.natAbs ≤ 99999) (hbd : Col.Bd l 9999) (w : World) (hl : CI w A l) (hc : l.length ≤ c) :
  Calls Tryz.prog 86 #[.agg #[.slice A l.length c, .int .i64 (k : Int), .int .i64 lo, .int .i64 hi], .int .i64 row] w fun e w' =>
   e = .returned (.agg #[.int .i64 (betTo l (k : Int) lo hi row (l.length - k)).1, .int .i64 (betTo l (k : Int) lo hi row (l.length - k)).2]) ∧ Below w.heap.size w w' := by
 have HL := Aside0.mk hl
 have HFAR := Aside0.mk (ci_far hl)
 have HBD := Aside0.mk hbd
 have hmf : ∀ (fn : Fn) (first cap : Array Value) (w : World), (Instr.makeFunc fn first cap).run Tryz.prog w = .ok (.func fn first cap) w := fun _ _ _ _ => rfl
 clear hl hbd
 by_cases hkl : k < l.length
 ·have hm : max (0 : Int) ((l.length : Int) - (k : Int)) = ((l.length - k : Nat) : Int) := by omega
  go_enter Tryz.func86, Tryz.ntmps86
  go_wp2_with fail
  go_wp2_with fail
  refine world_three2 (G := fun W => Code.wp _ _ _ _ W) ?_
  intro W0 g0 g1 g2 hB0 hsz
  have hbet : Aside0 (Bet w W0 A l c (k : Int) lo hi (betTo l (k : Int) lo hi row 0)) := ⟨⟨g0, g1, g2, HL.out.below hB0, HFAR.out, hB0⟩⟩
  clear g0 g1 g2 hB0 hsz
  go_loopw [17] (fun i wr => ∃ j : Nat, j ≤ l.length - k ∧ i = .int .i64 (j : Int) ∧ Aside0 (Bet w wr A l c (k : Int) lo hi (betTo l (k : Int) lo hi row j))) (fun i _ => l.length - k - (intOf i).toNat)
  case atStart => exact ⟨0, by omega, rfl, hbet⟩
  case round =>
   clear hbet
   obtain ⟨j, hj, rfl, hbet⟩ := hrel
   by_cases hjt : j < l.length - k
   ·have hc1 := (blk_cell hbet.out.b0 1).trans rfl
    have HI := Lib.hid (fun W => in_calls row (j : Int) ((j : Int) + (k : Int)) W)
    have HS := Lib.hid (betTo_succ l (k : Int) lo hi row j)
    cases hx : Col.inr row (j : Int) ((j : Int) + (k : Int)) with
    | true =>
     rw [hx] at HI
     have hrj : (j : Int) ≤ row ∧ row ≤ (j : Int) + (k : Int) := by
      simp only [Col.inr, Bool.and_eq_true, decide_eq_true_eq] at hx
      exact hx
     obtain ⟨r, rfl⟩ : ∃ r : Nat, row = (r : Int) := ⟨row.toNat, by omega⟩
     have HX : Hid (betTo l (k : Int) lo hi (r : Int) (j + 1) = (max (betTo l (k : Int) lo hi (r : Int) j).1 (Col.lowOf (Col.rest l (k : Int) j (r : Int)) (Col.weight (k : Int) (r - j)) lo hi), min (betTo l (k : Int) lo hi (r : Int) j).2 (Col.highOf (Col.rest l (k : Int) j (r : Int)) (Col.weight (k : Int) (r - j)) lo hi))) := Lib.hid (by
      rw [HS.out]
      unfold Col.narrow
      rw [hx]
      have e : ((r : Int) - (j : Int)).toNat = r - j := by omega
      simp only [if_true, e])
     have hwt := weight_ok (k := k) (a := r - j) hk (by omega)
     have hrs : (Col.rest l (k : Int) j (r : Int)).natAbs ≤ 1000000 := by
      rw [rest_eq]
      have h1 := sum_bound (restTo_bound (l := l) (k := k) (wi := j) (row := (r : Int)) hk HBD.out) (restTo l (k : Int) j (r : Int) (k + 1)).length
      have h2 : (restTo l (k : Int) j (r : Int) (k + 1)).length ≤ k + 1 := by
       unfold restTo
       rw [List.length_map]
       exact Nat.le_trans (List.length_filter_le _ _) (by simp)
      rw [List.take_length] at h1
      have h3 := Nat.mul_le_mul_right 29997 h2
      omega
     have HEQ := Lib.hid (fun W (hW : CI W A l) => equationOf_calls A c l k j r lo hi hk (by omega) hl15 (by omega) (by omega) HBD.out W hW hc)
     have HLow := Lib.hid (fun W => low_calls lo hi (Col.rest l (k : Int) j (r : Int)) (Col.weight (k : Int) (r - j)) (by omega) (by omega) hrs hwt.1 hwt.2 W)
     have HHigh := Lib.hid (fun W => high_calls lo hi (Col.rest l (k : Int) j (r : Int)) (Col.weight (k : Int) (r - j)) (by omega) (by omega) hrs hwt.1 hwt.2 W)
     have hc0 := (blk_cell hbet.out.b0 0).trans rfl
     have hc2 := (blk_cell hbet.out.b0 2).trans rfl
     have hc3 := (blk_cell hbet.out.b0 3).trans rfl
     clear hx HS hwt hrs
     go_wp2_with fail
     refine (HI.out _).mono ?_
     rintro e w' ⟨rfl, rfl⟩
     clear HI
     go_wp2_with fail
     refine (HEQ.out _ hbet.out.ci).mono ?_
     rintro e w5 ⟨rfl, hb⟩
     have hbet5 := Aside0.mk (hbet.out.step hb)
     clear hb hbet hc0 hc1 hc2 hc3 HEQ
     go_wp2
     refine world_two (G := fun W => Code.wp _ _ _ _ W) ?_
     intro W8 e0 e1 hB8 hsz8
     have hbet8 := Aside0.mk (hbet5.out.step hB8)
     clear e0 hB8
     generalize Col.lowOf (Col.rest l (k : Int) j (r : Int)) (Col.weight (k : Int) (r - j)) lo hi = L at *
     generalize Col.highOf (Col.rest l (k : Int) j (r : Int)) (Col.weight (k : Int) (r - j)) lo hi = H at *
     generalize Col.rest l (k : Int) j (r : Int) = q at *
     generalize Col.weight (k : Int) (r - j) = wt at *
     generalize betTo l (k : Int) lo hi (r : Int) j = s at *
     have hKS := Lib.hid (fun W (hW : Below W8.heap.size W8 W) => (⟨(blk_cell (blk_below e1 hW) 0).trans rfl, (blk_cell (blk_below e1 hW) 1).trans rfl⟩ : W.cell? ⟨w5.heap.size + 1, 0, none⟩ = some (.func (.func 121) #[.agg #[.int .i64 lo, .int .i64 hi, .int .i64 q, .int .i64 wt]] #[]) ∧ W.cell? ⟨w5.heap.size + 1, 1, none⟩ = some (.func (.func 122) #[.agg #[.int .i64 lo, .int .i64 hi, .int .i64 q, .int .i64 wt]] #[])))
     have hne5 : w5.heap.size + 1 ≠ w.heap.size + 1 + 1 := by have := (Array.getElem?_eq_some_iff.1 hbet5.out.b2).1; omega
     have hSet := Lib.hid (fun (W : World) (i : Nat) (u : Value) (h : (W).cell? ⟨w5.heap.size + 1, 0, none⟩ = some (.func (.func 121) #[.agg #[.int .i64 lo, .int .i64 hi, .int .i64 q, .int .i64 wt]] #[]) ∧ (W).cell? ⟨w5.heap.size + 1, 1, none⟩ = some (.func (.func 122) #[.agg #[.int .i64 lo, .int .i64 hi, .int .i64 q, .int .i64 wt]] #[])) => (⟨(World.cell?_of_block (w := W) (Below.heap_setCell W ⟨w.heap.size + 1 + 1, i, none⟩ u _ hne5)).trans h.1, (World.cell?_of_block (w := W) (Below.heap_setCell W ⟨w.heap.size + 1 + 1, i, none⟩ u _ hne5)).trans h.2⟩ : (W.setCell ⟨w.heap.size + 1 + 1, i, none⟩ u).cell? ⟨w5.heap.size + 1, 0, none⟩ = some (.func (.func 121) #[.agg #[.int .i64 lo, .int .i64 hi, .int .i64 q, .int .i64 wt]] #[]) ∧ (W.setCell ⟨w.heap.size + 1 + 1, i, none⟩ u).cell? ⟨w5.heap.size + 1, 1, none⟩ = some (.func (.func 122) #[.agg #[.int .i64 lo, .int .i64 hi, .int .i64 q, .int .i64 wt]] #[])))
     have hP0 : Below W8.heap.size W8 W8.drew := (Below.refl _ _).drew
     have hg0 := (hbet8.out.step hP0).b2
     have hx00 := (blk_cell hg0 0).trans rfl
     have hx01 := (blk_cell hg0 1).trans rfl
     have hf00 := blk_frozen hg0 0
     have hf01 := blk_frozen hg0 1
     refine start_ (n := 16) (S := (fun W => (W.cell? ⟨w.heap.size + 1 + 1, 0, none⟩ = some (.int .i64 s.1) ∧ W.cell? ⟨w.heap.size + 1 + 1, 1, none⟩ = some (.int .i64 s.2)) ∧ W.cell? ⟨w5.heap.size + 1, 0, none⟩ = some (.func (.func 121) #[.agg #[.int .i64 lo, .int .i64 hi, .int .i64 q, .int .i64 wt]] #[]) ∧ W.cell? ⟨w5.heap.size + 1, 1, none⟩ = some (.func (.func 122) #[.agg #[.int .i64 lo, .int .i64 hi, .int .i64 q, .int .i64 wt]] #[]))) (ds := [13, 15]) #[false,false,false,false,false,false,false,false,false,false,false,false,false,false,false,false] (by kernel_rfl) rfl rfl ⟨⟨hx00, hx01⟩, hKS.out _ hP0⟩ (fun hHeld => ?_)
     clear hx00 hx01 hf00 hf01 hg0
     refine pure_ (i := 0) (N := some 36) (v := ?_) (a' := ?_) #[true,false,false,false,false,false,false,false,false,false,false,false,false,false,false,false] rfl rfl (by kernel_rfl) (fun _ _ _ h => h) (Or.inl ⟨by rfl, ?_⟩) ?_ ?_
     rotate_left
     ·intro w'
      go_simp
      with_reducible rfl
     rotate_left
     ·simp only [Act.put, List.setIfInBounds_toArray, List.set_cons_zero, List.set_cons_succ, i64_w, i32_w]
      rfl
     refine take_ (i := 1) (N := some 37) (v := ?_) (a' := ?_) #[true,true,false,false,false,false,false,false,false,false,false,false,false,false,false,false] rfl rfl (by kernel_rfl) (fun _ _ _ h => h) (Or.inl ⟨by rfl, ?_⟩) hHeld ?_ ?_
     rotate_left
     ·rintro w' ⟨⟨s0, s1⟩, s2, s3⟩
      go_simp
      with_reducible rfl
     rotate_left
     ·simp only [Act.put, List.setIfInBounds_toArray, List.set_cons_zero, List.set_cons_succ, i64_w, i32_w]
      rfl
     refine pure_ (i := 2) (N := some 38) (v := ?_) (a' := ?_) #[true,true,true,false,false,false,false,false,false,false,false,false,false,false,false,false] rfl rfl (by kernel_rfl) (fun _ _ _ h => h) (Or.inl ⟨by rfl, ?_⟩) ?_ ?_
     rotate_left
     ·intro w'
      go_simp
      with_reducible rfl
     rotate_left
     ·simp only [Act.put, List.setIfInBounds_toArray, List.set_cons_zero, List.set_cons_succ, i64_w, i32_w]
      rfl
     refine take_ (i := 3) (N := some 39) (v := ?_) (a' := ?_) #[true,true,true,true,false,false,false,false,false,false,false,false,false,false,false,false] rfl rfl (by kernel_rfl) (fun _ _ _ h => h) (Or.inl ⟨by rfl, ?_⟩) hHeld ?_ ?_
     rotate_left
     ·rintro w' ⟨⟨s0, s1⟩, s2, s3⟩
      go_simp
      with_reducible rfl
     rotate_left
     ·simp only [Act.put, List.setIfInBounds_toArray, List.set_cons_zero, List.set_cons_succ, i64_w, i32_w]
      rfl
     refine pure_ (i := 6) (N := some 42) (v := ?_) (a' := ?_) #[true,true,true,true,false,false,true,false,false,false,false,false,false,false,false,false] rfl rfl (by kernel_rfl) (fun _ _ _ h => h) (Or.inl ⟨by rfl, ?_⟩) ?_ ?_
     rotate_left
     ·intro w'
      go_simp
      with_reducible rfl
     rotate_left
     ·simp only [Act.put, List.setIfInBounds_toArray, List.set_cons_zero, List.set_cons_succ, i64_w, i32_w]
      rfl
     refine take_ (i := 7) (N := some 43) (v := ?_) (a' := ?_) #[true,true,true,true,false,false,true,true,false,false,false,false,false,false,false,false] rfl rfl (by kernel_rfl) (fun _ _ _ h => h) (Or.inl ⟨by rfl, ?_⟩) hHeld ?_ ?_
     rotate_left
     ·rintro w' ⟨⟨s0, s1⟩, s2, s3⟩
      go_simp
      with_reducible rfl
     rotate_left
     ·simp only [Act.put, List.setIfInBounds_toArray, List.set_cons_zero, List.set_cons_succ, i64_w, i32_w]
      rfl
     refine pure_ (i := 8) (N := some 44) (v := ?_) (a' := ?_) #[true,true,true,true,false,false,true,true,true,false,false,false,false,false,false,false] rfl rfl (by kernel_rfl) (fun _ _ _ h => h) (Or.inl ⟨by rfl, ?_⟩) ?_ ?_
     rotate_left
     ·intro w'
      go_simp
      with_reducible rfl
     rotate_left
     ·simp only [Act.put, List.setIfInBounds_toArray, List.set_cons_zero, List.set_cons_succ, i64_w, i32_w]
      rfl
     refine take_ (i := 9) (N := some 45) (v := ?_) (a' := ?_) #[true,true,true,true,false,false,true,true,true,true,false,false,false,false,false,false] rfl rfl (by kernel_rfl) (fun _ _ _ h => h) (Or.inl ⟨by rfl, ?_⟩) hHeld ?_ ?_
     rotate_left
     ·rintro w' ⟨⟨s0, s1⟩, s2, s3⟩
      go_simp
      with_reducible rfl
     rotate_left
     ·simp only [Act.put, List.setIfInBounds_toArray, List.set_cons_zero, List.set_cons_succ, i64_w, i32_w]
      rfl
     refine one_ (i := 4) (N := some 40) #[true,true,true,true,true,false,true,true,true,true,false,false,false,false,false,false] rfl rfl (by kernel_rfl) (by decide) (fun K hK => ?_)
     go_simp
     refine (HLow.out _).mono ?_
     rintro e w6 ⟨rfl, hb⟩
     have hP6 := below_step hP0 hb
     have hg := (hbet8.out.step hP6).b2
     refine hK.out _ _ ⟨⟨(blk_cell hg 0).trans rfl, (blk_cell hg 1).trans rfl⟩, hKS.out _ hP6⟩ (fun hHeld => ?_)
     clear hK K hb hg
     try simp only [Act.put, List.setIfInBounds_toArray, List.set_cons_zero, List.set_cons_succ, i64_w, i32_w]
     refine pure_ (i := 5) (N := some 41) (v := ?_) (a' := ?_) #[true,true,true,true,true,true,true,true,true,true,false,false,false,false,false,false] rfl rfl (by kernel_rfl) (fun _ _ _ h => h) (Or.inl ⟨by rfl, ?_⟩) ?_ ?_
     rotate_left
     ·intro w'
      go_simp
      with_reducible rfl
     rotate_left
     ·simp only [Act.put, List.setIfInBounds_toArray, List.set_cons_zero, List.set_cons_succ, i64_w, i32_w]
      rfl
     refine pure_ (i := 12) (N := some 48) (v := ?_) (a' := ?_) #[true,true,true,true,true,true,true,true,true,true,false,false,true,false,false,false] rfl rfl (by kernel_rfl) (fun _ _ _ h => h) (Or.inl ⟨by rfl, ?_⟩) ?_ ?_
     rotate_left
     ·intro w'
      go_simp
      with_reducible rfl
     rotate_left
     ·simp only [Act.put, List.setIfInBounds_toArray, List.set_cons_zero, List.set_cons_succ, i64_w, i32_w]
      rfl
     refine one_ (i := 10) (N := some 46) #[true,true,true,true,true,true,true,true,true,true,true,false,true,false,false,false] rfl rfl (by kernel_rfl) (by decide) (fun K hK => ?_)
     go_simp
     refine (HHigh.out _).mono ?_
     rintro e w9 ⟨rfl, hb⟩
     have hP9 := below_step hP6 hb
     have hg := (hbet8.out.step hP9).b2
     refine hK.out _ _ ⟨⟨(blk_cell hg 0).trans rfl, (blk_cell hg 1).trans rfl⟩, hKS.out _ hP9⟩ (fun hHeld => ?_)
     clear hK K hb hg
     try simp only [Act.put, List.setIfInBounds_toArray, List.set_cons_zero, List.set_cons_succ, i64_w, i32_w]
     refine pure_ (i := 11) (N := some 47) (v := ?_) (a' := ?_) #[true,true,true,true,true,true,true,true,true,true,true,true,true,false,false,false] rfl rfl (by kernel_rfl) (fun _ _ _ h => h) (Or.inl ⟨by rfl, ?_⟩) ?_ ?_
     rotate_left
     ·intro w'
      go_simp
      with_reducible rfl
     rotate_left
     ·simp only [Act.put, List.setIfInBounds_toArray, List.set_cons_zero, List.set_cons_succ, i64_w, i32_w]
      rfl
     have hg9 := (hbet8.out.step hP9).b2
     have hx90 := (blk_cell hg9 0).trans rfl
     have hx91 := (blk_cell hg9 1).trans rfl
     have hf90 := blk_frozen hg9 0
     have hf91 := blk_frozen hg9 1
     refine last_ (i := 13) (N := none) #[true,true,true,true,true,true,true,true,true,true,true,true,true,true,false,false] rfl rfl (by kernel_rfl) (by decide) (fun K hK => ?_)
     go_simp
     refine hK.out _ _ ?_
     clear hK K
     try simp only [Act.put, List.setIfInBounds_toArray, List.set_cons_zero, List.set_cons_succ, i64_w, i32_w]
     refine pure_ (i := 14) (N := some 49) (v := ?_) (a' := ?_) #[true,true,true,true,true,true,true,true,true,true,true,true,true,true,true,false] rfl rfl (by kernel_rfl) (fun _ _ _ h => h) (Or.inl ⟨by rfl, ?_⟩) ?_ ?_
     rotate_left
     ·intro w'
      go_simp
      with_reducible rfl
     rotate_left
     ·simp only [Act.put, List.setIfInBounds_toArray, List.set_cons_zero, List.set_cons_succ, i64_w, i32_w]
      rfl
     refine last_ (i := 15) (N := none) #[true,true,true,true,true,true,true,true,true,true,true,true,true,true,true,true] rfl rfl (by kernel_rfl) (by decide) (fun K hK => ?_)
     go_simp
     refine hK.out _ _ ?_
     clear hK K
     try simp only [Act.put, List.setIfInBounds_toArray, List.set_cons_zero, List.set_cons_succ, i64_w, i32_w]
     refine done_ (by kernel_rfl) ?_
     all_goals go_wp2
     all_goals exact ⟨⟨j + 1, by omega, by go_num, ⟨by rw [HX.out]; exact (hbet8.out.step hP9).put _ _⟩⟩, by simp [intOf]; omega⟩
    | false =>
     rw [hx] at HI
     have HX : Hid (betTo l (k : Int) lo hi row (j + 1) = betTo l (k : Int) lo hi row j) := Lib.hid (by rw [HS.out]; unfold Col.narrow; rw [hx]; rfl)
     clear hx HS
     go_wp2_with fail
     refine (HI.out _).mono ?_
     rintro e w' ⟨rfl, rfl⟩
     clear HI hc1
     go_wp2
     go_roundw
     case rel => exact ⟨j + 1, by omega, by go_num, by rw [HX.out]; exact hbet⟩
     case measure => simp [intOf]; omega
   ·have e : j = l.length - k := by omega
    subst e
    have hc20 := (blk_cell hbet.out.b2 0).trans rfl
    have hc21 := (blk_cell hbet.out.b2 1).trans rfl
    have hc10 := (blk_cell hbet.out.b1 0).trans rfl
    have hc11 := (blk_cell hbet.out.b1 1).trans rfl
    have hf10 := blk_frozen hbet.out.b1 0
    have hf11 := blk_frozen hbet.out.b1 1
    go_wp2
    refine bodyPost_ret (results_cell_row rfl _ _ (w.heap.size + 1) 24 #[.int .i64 (betTo l (k : Int) lo hi row (l.length - k)).1, .int .i64 (betTo l (k : Int) lo hi row (l.length - k)).2] (0, 0) _ rfl (blk_put (blk_put hbet.out.b1 0 _ rfl) 1 _ rfl) Tryz.underlying24 rfl (by kernel_rfl)) rfl ?_
    exact ⟨rfl, (hbet.out.below.setCell (p := ⟨w.heap.size + 1, 0, none⟩) (by simp) _).setCell (p := ⟨w.heap.size + 1, 1, none⟩) (by simp) _⟩
 ·have hm : max (0 : Int) ((l.length : Int) - (k : Int)) = 0 := by omega
  have hz : l.length - k = 0 := by omega
  rw [hz]
  go_enter Tryz.func86, Tryz.ntmps86
  go_wp2_with fail
  go_wp2_with fail
  refine world_three2 (G := fun W => Code.wp _ _ _ _ W) ?_
  intro W0 g0 g1 g2 hB0 hsz
  have hbet : Aside0 (Bet w W0 A l c (k : Int) lo hi (betTo l (k : Int) lo hi row 0)) := ⟨⟨g0, g1, g2, HL.out.below hB0, HFAR.out, hB0⟩⟩
  clear g0 g1 g2 hB0 hsz
  go_loopw [17] (fun i wr => i = .int .i64 0 ∧ Aside0 (Bet w wr A l c (k : Int) lo hi (betTo l (k : Int) lo hi row 0))) (fun _ _ => 0)
  case atStart => exact ⟨rfl, hbet⟩
  case round =>
   clear hbet
   obtain ⟨rfl, hbet⟩ := hrel
   have hc20 := (blk_cell hbet.out.b2 0).trans rfl
   have hc21 := (blk_cell hbet.out.b2 1).trans rfl
   have hc10 := (blk_cell hbet.out.b1 0).trans rfl
   have hc11 := (blk_cell hbet.out.b1 1).trans rfl
   have hf10 := blk_frozen hbet.out.b1 0
   have hf11 := blk_frozen hbet.out.b1 1
   go_wp2
   refine bodyPost_ret (results_cell_row rfl _ _ (w.heap.size + 1) 24 #[.int .i64 (betTo l (k : Int) lo hi row 0).1, .int .i64 (betTo l (k : Int) lo hi row 0).2] (0, 0) _ rfl (blk_put (blk_put hbet.out.b1 0 _ rfl) 1 _ rfl) Tryz.underlying24 rfl (by kernel_rfl)) rfl ?_
   exact ⟨rfl, (hbet.out.below.setCell (p := ⟨w.heap.size + 1, 0, none⟩) (by simp) _).setCell (p := ⟨w.heap.size + 1, 1, none⟩) (by simp) _⟩
theorem column_between.calls (A0_0 : Option Addr) (c0_0 : Nat) (l0_0 : List Int) (a0_1 : Int) (a0_2 : Int) (a0_3 : Int) (a1 : Int) (r1 : Int) (r2 : Int) (w : World) (hr0_0 : Kd.C (Kd.int .i64) w A0_0 l0_0.length l0_0) (hc0_0 : l0_0.length ≤ c0_0) (h : column_between.f l0_0 a0_1 a0_2 a0_3 a1 = some (r1, r2)) :
  Calls Tryz.prog 86 #[.agg #[.slice A0_0 l0_0.length c0_0, .int .i64 a0_1, .int .i64 a0_2, .int .i64 a0_3], .int .i64 a1] w fun e w' => e = .returned (.agg #[.int .i64 r1, .int .i64 r2]) ∧ Below w.heap.size w w' := by
 have hr : Col.fbetween l0_0 a0_1 a0_2 a0_3 a1 = some (r1, r2) := h
 unfold Col.fbetween at hr
 by_cases hs : Col.small l0_0 a0_1 a0_2 a0_3 = true
 ·rw [if_pos hs] at hr
  obtain ⟨l1, l15, h1, h3, h4, h5, h6, h7, hbd⟩ := small_parts hs
  obtain ⟨k, rfl⟩ : ∃ k : Nat, a0_1 = (k : Int) := ⟨a0_1.toNat, by omega⟩
  have hb := between_walk A0_0 c0_0 l0_0 k a0_2 a0_3 a1 (by omega) l1 l15 (by omega) (by omega) hbd w hr0_0 hc0_0
  have he : Col.between l0_0 (k : Int) a0_2 a0_3 a1 = betTo l0_0 (k : Int) a0_2 a0_3 a1 (l0_0.length - k) := by
   unfold Col.between betTo
   rw [Int.toNat_natCast]
  rw [he] at hr
  rw [Option.some.inj hr] at hb
  exact hb
 ·rw [if_neg hs] at hr
  cases hr
end Go.Proofs.YtohlmoppcmjknaaGreatDoor.P
end
section
namespace Go.Proofs.YtohlmoppcmjknaaGreatDoor.P
open Go.RowKit Go.Proofs.YtohlmoppcmjknaaGreatDoorW.PrintWords Go.Proofs.YtohlmoppcmjknaaGreatDoorW.PrintLast Go.Proofs.YtohlmoppcmjknaaGreatDoorW.PrintMore
attribute [local go_sem] max2_int min2_int max_two min_two max_three min_three max_four min_four
set_option linter.unusedVariables false
set_option linter.unusedSimpArgs false
def column_Between.j0 : Nat → Int → Bool → List Int → Int → Int → Int → Option (Int × Int × Int)
 | 0, _, _, _, _, _, _ => none
 | k + 1, x1, x15, x467000, x467001, x467002, x467003 => if x15 = true then (some (0, 0, 2)) else ((column_between.f x467000 x467001 x467002 x467003 x1).bind fun bt470 => (if bt470.1 > bt470.2 then (some (0, 0, 5)) else (some (bt470.1, bt470.2, 0))))
def column_Between.f (k : Nat) (l0_0 : List Int) (a0_1 : Int) (a0_2 : Int) (a0_3 : Int) (a1 : Int) : Option (Int × Int × Int) := (column_isSheet.f l0_0 a0_1 a0_2 a0_3).bind fun t468 => (if t468 = true then ((column_hasRow.f l0_0 a0_1 a0_2 a0_3 a1).bind fun t469 => (column_Between.j0 k a1 (!t469) l0_0 a0_1 a0_2 a0_3)) else (column_Between.j0 k a1 true l0_0 a0_1 a0_2 a0_3))
theorem column_Between.mono_l : ∀ k, (∀ y0 y1 y2 y3 y4 y5, LeO (column_Between.j0 k y0 y1 y2 y3 y4 y5) (column_Between.j0 (k + 1) y0 y1 y2 y3 y4 y5))
 | 0 => fun _ _ _ _ _ _ r h => by simp [column_Between.j0] at h
 | k + 1 => by
  have ih0 := column_Between.mono_l k
  ·intro y0 y1 y2 y3 y4 y5
   unfold column_Between.j0
   repeat' first
   | (with_reducible exact ih0 _ _ _ _ _ _)
   | (with_reducible exact LeO.refl _)
   | (with_reducible exact LeO.none _)
   | (with_reducible refine LeO.ite ?_ ?_)
   | (with_reducible refine LeO.bind ?_ (fun _ => ?_))
   | exact ih0 _ _ _ _ _ _
   | exact LeO.none _
   | refine LeO.ite ?_ ?_
   | refine LeO.bind ?_ (fun _ => ?_)
theorem column_Between.mono : ∀ a0 a1 a2 a3 a4 k, LeO (column_Between.f k a0 a1 a2 a3 a4) (column_Between.f (k + 1) a0 a1 a2 a3 a4) := by
 intro a0 a1 a2 a3 a4 k
 have ih0 := column_Between.mono_l k
 unfold column_Between.f
 repeat' first
   | (with_reducible exact ih0 _ _ _ _ _ _)
   | (with_reducible exact LeO.refl _)
   | (with_reducible exact LeO.none _)
   | (with_reducible refine LeO.ite ?_ ?_)
   | (with_reducible refine LeO.bind ?_ (fun _ => ?_))
   | exact ih0 _ _ _ _ _ _
   | exact LeO.none _
   | refine LeO.ite ?_ ?_
   | refine LeO.bind ?_ (fun _ => ?_)
set_option maxHeartbeats 8000000 in
set_option maxRecDepth 100000 in
theorem column_Between.calls (k : Nat) (A0_0 : Option Addr) (c0_0 : Nat) (l0_0 : List Int) (a0_1 : Int) (a0_2 : Int) (a0_3 : Int) (a1 : Int) (r1 : Int) (r2 : Int) (r3 : Int) (w : World) (hr0_0 : Kd.C (Kd.int .i64) w A0_0 l0_0.length l0_0) (hc0_0 : l0_0.length ≤ c0_0) (h : column_Between.f k l0_0 a0_1 a0_2 a0_3 a1 = some (r1, r2, r3)) :
  Calls Tryz.prog 47 #[.agg #[.slice A0_0 l0_0.length c0_0, .int .i64 a0_1, .int .i64 a0_2, .int .i64 a0_3], .int .i64 a1] w fun e w' => e = .returned (.tuple #[.agg #[.int .i64 r1, .int .i64 r2], .int .i64 r3]) ∧ Below w.heap.size w w' := by
 have hu26 := Tryz.underlying26
 have hu24 := Tryz.underlying24
 have HR0_0 := Aside0.mk hr0_0
 have HC0_0 := Aside0.mk hc0_0
 clear hr0_0 hc0_0
 have HB := Aside0.mk (Below.refl w.heap.size w)
 have H : ((column_isSheet.f l0_0 a0_1 a0_2 a0_3).bind fun t468 => (if t468 = true then ((column_hasRow.f l0_0 a0_1 a0_2 a0_3 a1).bind fun t469 => (column_Between.j0 k a1 (!t469) l0_0 a0_1 a0_2 a0_3)) else (column_Between.j0 k a1 true l0_0 a0_1 a0_2 a0_3))) = some (r1, r2, r3) := h
 clear h
 have HC3 := Aside0.mk H
 clear H
 go_enter Tryz.func47, Tryz.ntmps47
 go_upto_region 1 with (first | ((with_reducible refine gate_dst (N := 2) rfl ?_); refine box_event ?hg (N := 2) ?hd (cs := #[.slice A0_0 l0_0.length c0_0, .int .i64 a0_1, .int .i64 a0_2, .int .i64 a0_3]) (t := 26) ?hr ?_; (case hd => rfl); (case hg => rfl); (case hr => first | (go_simp; done) | (go_simp; rfl)); intro gb466 hg w4 hbox hb; have n0_ := Aside0.mk (below_step (wup HB.out) hb); have n1_ := Aside0.mk (hbox); have n2_ := Aside0.mk ((by rw [hg]; exact (below_size (wup HB.out)) : w.heap.size ≤ gb466)); have n3_ := Aside0.mk ((by rw [hg]; exact (below_size (wup HB.out)) : w.heap.size ≤ gb466)); clear HB; have HB := n0_; have BK466 := n1_; have GW466 := n2_; have GE466 := n3_; clear n0_ n1_ n2_ n3_; clear hb hbox hg) | ((with_reducible refine gate_dst (N := 4) rfl ?_); refine box_event ?hg (N := 4) ?hd (cs := #[.int .i64 0, .int .i64 0]) (t := 24) ?hr ?_; (case hd => rfl); (case hg => rfl); (case hr => first | (go_simp; done) | (go_simp; rfl)); intro gb467 hg w5 hbox hb; have n0_ := Aside0.mk (blk_below (g := gb466) (o := .cells #[.slice A0_0 l0_0.length c0_0, .int .i64 a0_1, .int .i64 a0_2, .int .i64 a0_3] 26 (0, 0)) (bup BK466.out) hb); have n1_ := Aside0.mk (below_step (by repeat (first | (with_reducible first | exact HB.out | apply below_alloc | apply pw_below_drewN | apply below_drew1 | refine below_set ?_ GE466.out) | exact HB.out)) hb); have n2_ := Aside0.mk (hbox); have n3_ := Aside0.mk ((by rw [hg]; exact (below_size (by repeat (first | (with_reducible first | exact HB.out | apply below_alloc | apply pw_below_drewN | apply below_drew1 | refine below_set ?_ GE466.out) | exact HB.out))) : w.heap.size ≤ gb467)); have n4_ := Aside0.mk ((by rw [hg]; exact (below_size (by repeat (first | (with_reducible first | exact HB.out | apply below_alloc | apply pw_below_drewN | apply below_drew1 | refine below_set ?_ GE466.out) | exact HB.out))) : w.heap.size ≤ gb467)); have n5_ := Aside0.mk ((by rw [hg]; exact Nat.ne_of_lt (blk_lt (g := gb466) (o := .cells #[.slice A0_0 l0_0.length c0_0, .int .i64 a0_1, .int .i64 a0_2, .int .i64 a0_3] 26 (0, 0)) (bup BK466.out)) : gb466 ≠ gb467)); have n6_ := Aside0.mk ((by rw [hg]; exact Nat.ne_of_gt (blk_lt (g := gb466) (o := .cells #[.slice A0_0 l0_0.length c0_0, .int .i64 a0_1, .int .i64 a0_2, .int .i64 a0_3] 26 (0, 0)) (bup BK466.out)) : gb467 ≠ gb466)); clear BK466; clear HB; have BK466 := n0_; have HB := n1_; have BK467 := n2_; have GW467 := n3_; have GE467 := n4_; have NB466_467 := n5_; have NB467_466 := n6_; clear n0_ n1_ n2_ n3_ n4_ n5_ n6_; clear hb hbox hg))
 (try simp only [Act.put, List.setIfInBounds_toArray, List.set_cons_zero, List.set_cons_succ])
 go_cut [15] (fun v15 wc => ∃ (kq : Nat) (x15_2 : Bool), v15 = .bool x15_2 ∧ Aside0 (column_Between.j0 kq a1 x15_2 l0_0 a0_1 a0_2 a0_3 = some (r1, r2, r3)) ∧ Aside0 (kq ≤ k) ∧ Aside0 (wc.heap[gb466]? = some (.cells #[(.slice A0_0 l0_0.length c0_0), .int .i64 a0_1, .int .i64 a0_2, .int .i64 a0_3] 26 (0, 0))) ∧ Aside0 (wc.heap[gb467]? = some (.cells #[.int .i64 0, .int .i64 0] 24 (0, 0))) ∧ Aside0 (Below w.heap.size w wc))
 case first =>
  have H := HC3.out
  clear HC3
  replace H := Option.bind_eq_some_iff.mp H
  obtain ⟨t468, A60, H⟩ := H
  replace H : (if t468 = true then ((column_hasRow.f l0_0 a0_1 a0_2 a0_3 a1).bind fun t469 => (column_Between.j0 k a1 (!t469) l0_0 a0_1 a0_2 a0_3)) else (column_Between.j0 k a1 true l0_0 a0_1 a0_2 a0_3)) = some (r1, r2, r3) := H
  have A6 := Aside0.mk A60
  clear A60
  by_cases c7 : t468 = true
  ·subst c7
   have H1 : ((column_hasRow.f l0_0 a0_1 a0_2 a0_3 a1).bind fun t469 => (column_Between.j0 k a1 (!t469) l0_0 a0_1 a0_2 a0_3)) = some (r1, r2, r3) := by rw [if_pos rfl] at H; exact H
   clear H
   have H := H1
   clear H1
   replace H := Option.bind_eq_some_iff.mp H
   obtain ⟨t469, A80, H⟩ := H
   replace H : (column_Between.j0 k a1 (!t469) l0_0 a0_1 a0_2 a0_3) = some (r1, r2, r3) := H
   have A8 := Aside0.mk A80
   clear A80
   have H' := Aside0.mk H
   clear H
   have hnb9 := NB466_467.out
   have hnc9 := NB467_466.out
   have hcz10_0 : w5.cell? ⟨gb466, 0, none⟩ = some (.slice A0_0 l0_0.length c0_0) := (blk_cell BK466.out 0).trans rfl
   have hcz10_1 : w5.cell? ⟨gb466, 1, none⟩ = some (.int .i64 a0_1) := (blk_cell BK466.out 1).trans rfl
   have hcz10_2 : w5.cell? ⟨gb466, 2, none⟩ = some (.int .i64 a0_2) := (blk_cell BK466.out 2).trans rfl
   have hcz10_3 : w5.cell? ⟨gb466, 3, none⟩ = some (.int .i64 a0_3) := (blk_cell BK466.out 3).trans rfl
   have hfz10_0 := blk_frozen BK466.out 0
   have hfz10_1 := blk_frozen BK466.out 1
   have hfz10_2 := blk_frozen BK466.out 2
   have hfz10_3 := blk_frozen BK466.out 3
   go_wp2_with (first | ((with_reducible refine gate_callee (f := 63) rfl ?_); refine goesL_ (some 8) rfl rfl Tryz.func63 (by kernel_rfl) rfl #[.agg #[.slice A0_0 l0_0.length c0_0, .int .i64 a0_1, .int .i64 a0_2, .int .i64 a0_3]] rfl (by (try simp only [List.map_toArray, List.map_cons, List.map_nil]); first | done | rfl | (simp only [List.length_drop, List.length_take]; rfl)) ?_; (with_reducible refine (column_isSheet.calls _ _ l0_0 a0_1 a0_2 a0_3 true _ ?side1 ?side2 A6.out).mono ?_); (case side1 => repeat (first | exact (Kd.C_below HR0_0.out HB.out) | (with_reducible refine Kd.C_alloc ?_ _) | (with_reducible refine Kd.C_drewN ?_ _) | (with_reducible refine Kd.C_drew ?_))); (case side2 => exact HC0_0.out); rintro e w11 ⟨rfl, hb⟩; refine ⟨_, rfl, ?_⟩; have n0_ := Aside0.mk (blk_below (g := gb466) (o := .cells #[.slice A0_0 l0_0.length c0_0, .int .i64 a0_1, .int .i64 a0_2, .int .i64 a0_3] 26 (0, 0)) (bup BK466.out) hb); have n1_ := Aside0.mk (blk_below (g := gb467) (o := .cells #[.int .i64 0, .int .i64 0] 24 (0, 0)) (bup BK467.out) hb); have n2_ := Aside0.mk (below_step (by repeat (first | (with_reducible first | exact HB.out | apply below_alloc | apply pw_below_drewN | apply below_drew1 | refine below_set ?_ GE466.out | refine below_set ?_ GE467.out) | exact HB.out)) hb); clear BK466; clear BK467; clear HB; have BK466 := n0_; have BK467 := n1_; have HB := n2_; clear n0_ n1_ n2_; (try clear hb); (try clear hb2); (try clear hk); (try clear hi); have hcz12_0 : w11.cell? ⟨gb466, 0, none⟩ = some (.slice A0_0 l0_0.length c0_0) := (blk_cell BK466.out 0).trans rfl; have hcz12_1 : w11.cell? ⟨gb466, 1, none⟩ = some (.int .i64 a0_1) := (blk_cell BK466.out 1).trans rfl; have hcz12_2 : w11.cell? ⟨gb466, 2, none⟩ = some (.int .i64 a0_2) := (blk_cell BK466.out 2).trans rfl; have hcz12_3 : w11.cell? ⟨gb466, 3, none⟩ = some (.int .i64 a0_3) := (blk_cell BK466.out 3).trans rfl; have hfz12_0 := blk_frozen BK466.out 0; have hfz12_1 := blk_frozen BK466.out 1; have hfz12_2 := blk_frozen BK466.out 2; have hfz12_3 := blk_frozen BK466.out 3) | (go_at_call 64; (with_reducible refine (column_hasRow.calls _ _ l0_0 a0_1 a0_2 a0_3 a1 t469 _ ?side1 ?side2 A8.out).mono ?_); (case side1 => repeat (first | exact (Kd.C_below HR0_0.out HB.out) | (with_reducible refine Kd.C_alloc ?_ _) | (with_reducible refine Kd.C_drewN ?_ _) | (with_reducible refine Kd.C_drew ?_))); (case side2 => exact HC0_0.out); rintro e w13 ⟨rfl, hb⟩; have n0_ := Aside0.mk (blk_below (g := gb466) (o := .cells #[.slice A0_0 l0_0.length c0_0, .int .i64 a0_1, .int .i64 a0_2, .int .i64 a0_3] 26 (0, 0)) (bup BK466.out) hb); have n1_ := Aside0.mk (blk_below (g := gb467) (o := .cells #[.int .i64 0, .int .i64 0] 24 (0, 0)) (bup BK467.out) hb); have n2_ := Aside0.mk (below_step (by repeat (first | (with_reducible first | exact HB.out | apply below_alloc | apply pw_below_drewN | apply below_drew1 | refine below_set ?_ GE466.out | refine below_set ?_ GE467.out) | exact HB.out)) hb); clear BK466; clear BK467; clear HB; have BK466 := n0_; have BK467 := n1_; have HB := n2_; clear n0_ n1_ n2_; (try clear hb); (try clear hb2); (try clear hk); (try clear hi)))
   go_meet
   case rel => exact ⟨_, (!t469), (by first | rfl | (simp; done) | (simp [*]; done)), H', ⟨by first | omega | exact Nat.le_refl _⟩, ⟨bup BK466.out⟩, ⟨bup BK467.out⟩, ⟨by repeat (first | (with_reducible first | exact HB.out | apply below_alloc | apply pw_below_drewN | apply below_drew1 | refine below_set ?_ GE466.out | refine below_set ?_ GE467.out) | exact HB.out)⟩⟩
  ·replace c7 := Bool.eq_false_iff.mpr c7
   subst c7
   have H1 : (column_Between.j0 k a1 true l0_0 a0_1 a0_2 a0_3) = some (r1, r2, r3) := by rw [if_neg (show ¬ (false = true) by decide)] at H; exact H
   clear H
   have H := H1
   clear H1
   have H' := Aside0.mk H
   clear H
   have hnb14 := NB466_467.out
   have hnc14 := NB467_466.out
   have hcz15_0 : w5.cell? ⟨gb466, 0, none⟩ = some (.slice A0_0 l0_0.length c0_0) := (blk_cell BK466.out 0).trans rfl
   have hcz15_1 : w5.cell? ⟨gb466, 1, none⟩ = some (.int .i64 a0_1) := (blk_cell BK466.out 1).trans rfl
   have hcz15_2 : w5.cell? ⟨gb466, 2, none⟩ = some (.int .i64 a0_2) := (blk_cell BK466.out 2).trans rfl
   have hcz15_3 : w5.cell? ⟨gb466, 3, none⟩ = some (.int .i64 a0_3) := (blk_cell BK466.out 3).trans rfl
   have hfz15_0 := blk_frozen BK466.out 0
   have hfz15_1 := blk_frozen BK466.out 1
   have hfz15_2 := blk_frozen BK466.out 2
   have hfz15_3 := blk_frozen BK466.out 3
   go_wp2_with (first | ((with_reducible refine gate_callee (f := 63) rfl ?_); refine goesL_ (some 8) rfl rfl Tryz.func63 (by kernel_rfl) rfl #[.agg #[.slice A0_0 l0_0.length c0_0, .int .i64 a0_1, .int .i64 a0_2, .int .i64 a0_3]] rfl (by (try simp only [List.map_toArray, List.map_cons, List.map_nil]); first | done | rfl | (simp only [List.length_drop, List.length_take]; rfl)) ?_; (with_reducible refine (column_isSheet.calls _ _ l0_0 a0_1 a0_2 a0_3 false _ ?side1 ?side2 A6.out).mono ?_); (case side1 => repeat (first | exact (Kd.C_below HR0_0.out HB.out) | (with_reducible refine Kd.C_alloc ?_ _) | (with_reducible refine Kd.C_drewN ?_ _) | (with_reducible refine Kd.C_drew ?_))); (case side2 => exact HC0_0.out); rintro e w16 ⟨rfl, hb⟩; refine ⟨_, rfl, ?_⟩; have n0_ := Aside0.mk (blk_below (g := gb466) (o := .cells #[.slice A0_0 l0_0.length c0_0, .int .i64 a0_1, .int .i64 a0_2, .int .i64 a0_3] 26 (0, 0)) (bup BK466.out) hb); have n1_ := Aside0.mk (blk_below (g := gb467) (o := .cells #[.int .i64 0, .int .i64 0] 24 (0, 0)) (bup BK467.out) hb); have n2_ := Aside0.mk (below_step (by repeat (first | (with_reducible first | exact HB.out | apply below_alloc | apply pw_below_drewN | apply below_drew1 | refine below_set ?_ GE466.out | refine below_set ?_ GE467.out) | exact HB.out)) hb); clear BK466; clear BK467; clear HB; have BK466 := n0_; have BK467 := n1_; have HB := n2_; clear n0_ n1_ n2_; (try clear hb); (try clear hb2); (try clear hk); (try clear hi)))
   go_meet
   case rel => exact ⟨_, (true), (by first | rfl | (simp; done) | (simp [*]; done)), H', ⟨by first | omega | exact Nat.le_refl _⟩, ⟨bup BK466.out⟩, ⟨bup BK467.out⟩, ⟨by repeat (first | (with_reducible first | exact HB.out | apply below_alloc | apply pw_below_drewN | apply below_drew1 | refine below_set ?_ GE466.out | refine below_set ?_ GE467.out) | exact HB.out)⟩⟩
 case rest =>
  clear HC3
  obtain ⟨kq, x15_2, rfl, HA, HJ2, BK466, BK467, HB⟩ := hcut
  cases kq with
  | zero => exact absurd HA.out (by simp [column_Between.j0])
  | succ kj2 =>
   have H := HA.out
   clear HA
   simp only [column_Between.j0] at H
   by_cases c17 : x15_2 = true
   ·subst c17
    have H1 : (some (0, 0, 2)) = some (r1, r2, r3) := by rw [if_pos rfl] at H; exact H
    clear H
    have H := H1
    clear H1
    simp only [Option.some.injEq, Prod.mk.injEq] at H
    obtain ⟨rfl, rfl, rfl⟩ := H
    have hnb18 := NB467_466.out
    have hnc18 := NB466_467.out
    have hcz19_0 : wc.cell? ⟨gb467, 0, none⟩ = some (.int .i64 0) := (blk_cell BK467.out 0).trans rfl
    have hcz19_1 : wc.cell? ⟨gb467, 1, none⟩ = some (.int .i64 0) := (blk_cell BK467.out 1).trans rfl
    have hfz19_0 := blk_frozen BK467.out 0
    have hfz19_1 := blk_frozen BK467.out 1
    go_wp2
    refine bodyPost_ret (results_ct rfl _ _ gb467 24 #[.int .i64 0, .int .i64 0] (0, 0) _ rfl (by (with_reducible repeat (first | refine blk_drewN ?_ _ | refine blk_drew ?_ | refine blk_alloc ?_ _)); refine blk_put (cs := #[.int .i64 0, .int .i64 0]) ?_ 1 _ rfl; (with_reducible repeat (first | refine blk_drewN ?_ _ | refine blk_drew ?_ | refine blk_alloc ?_ _)); refine blk_put (cs := #[.int .i64 0, .int .i64 0]) ?_ 0 _ rfl; (with_reducible repeat (first | refine blk_drewN ?_ _ | refine blk_drew ?_ | refine blk_alloc ?_ _)); exact BK467.out) Tryz.underlying24 rfl (by kernel_rfl)) rfl ?_
    exact ⟨by first | rfl | (simp [errW_none, errW_some] <;> rfl) | (simp [*, errW_none, errW_some] <;> rfl), by repeat (first | (with_reducible first | exact HB.out | apply below_alloc | apply pw_below_drewN | apply below_drew1 | refine below_set ?_ GE466.out | refine below_set ?_ GE467.out) | exact HB.out)⟩
   ·replace c17 := Bool.eq_false_iff.mpr c17
    subst c17
    have H1 : ((column_between.f l0_0 a0_1 a0_2 a0_3 a1).bind fun bt470 => (if bt470.1 > bt470.2 then (some (0, 0, 5)) else (some (bt470.1, bt470.2, 0)))) = some (r1, r2, r3) := by rw [if_neg (show ¬ (false = true) by decide)] at H; exact H
    clear H
    have H := H1
    clear H1
    replace H := Option.bind_eq_some_iff.mp H
    obtain ⟨⟨t470, t471⟩, A200, H⟩ := H
    replace H : (if t470 > t471 then (some (0, 0, 5)) else (some (t470, t471, 0))) = some (r1, r2, r3) := H
    have A20 := Aside0.mk A200
    clear A200
    by_cases c21 : t470 > t471
    ·rw [if_pos c21] at H
     have c21b0 : decide (t471 < t470) = true := decide_eq_true c21
     clear c21
     simp only [Option.some.injEq, Prod.mk.injEq] at H
     obtain ⟨rfl, rfl, rfl⟩ := H
     have hnb22 := NB466_467.out
     have hnc22 := NB467_466.out
     have hcz23_0 : wc.cell? ⟨gb466, 0, none⟩ = some (.slice A0_0 l0_0.length c0_0) := (blk_cell BK466.out 0).trans rfl
     have hcz23_1 : wc.cell? ⟨gb466, 1, none⟩ = some (.int .i64 a0_1) := (blk_cell BK466.out 1).trans rfl
     have hcz23_2 : wc.cell? ⟨gb466, 2, none⟩ = some (.int .i64 a0_2) := (blk_cell BK466.out 2).trans rfl
     have hcz23_3 : wc.cell? ⟨gb466, 3, none⟩ = some (.int .i64 a0_3) := (blk_cell BK466.out 3).trans rfl
     have hfz23_0 := blk_frozen BK466.out 0
     have hfz23_1 := blk_frozen BK466.out 1
     have hfz23_2 := blk_frozen BK466.out 2
     have hfz23_3 := blk_frozen BK466.out 3
     go_wp2_with (first | ((with_reducible refine gate_callee (f := 86) rfl ?_); refine goesL_ (some 19) rfl rfl Tryz.func86 (by kernel_rfl) rfl #[.agg #[.slice A0_0 l0_0.length c0_0, .int .i64 a0_1, .int .i64 a0_2, .int .i64 a0_3], .int .i64 a1] rfl (by (try simp only [List.map_toArray, List.map_cons, List.map_nil]); first | done | rfl | (simp only [List.length_drop, List.length_take]; rfl)) ?_; (with_reducible refine (column_between.calls _ _ l0_0 a0_1 a0_2 a0_3 a1 t470 t471 _ ?side1 ?side2 A20.out).mono ?_); (case side1 => repeat (first | exact (Kd.C_below HR0_0.out HB.out) | (with_reducible refine Kd.C_alloc ?_ _) | (with_reducible refine Kd.C_drewN ?_ _) | (with_reducible refine Kd.C_drew ?_))); (case side2 => exact HC0_0.out); rintro e w24 ⟨rfl, hb⟩; refine ⟨_, rfl, ?_⟩; have n0_ := Aside0.mk (blk_below (g := gb466) (o := .cells #[.slice A0_0 l0_0.length c0_0, .int .i64 a0_1, .int .i64 a0_2, .int .i64 a0_3] 26 (0, 0)) (bup BK466.out) hb); have n1_ := Aside0.mk (blk_below (g := gb467) (o := .cells #[.int .i64 0, .int .i64 0] 24 (0, 0)) (bup BK467.out) hb); have n2_ := Aside0.mk (below_step (by repeat (first | (with_reducible first | exact HB.out | apply below_alloc | apply pw_below_drewN | apply below_drew1 | refine below_set ?_ GE466.out | refine below_set ?_ GE467.out) | exact HB.out)) hb); clear BK466; clear BK467; clear HB; have BK466 := n0_; have BK467 := n1_; have HB := n2_; clear n0_ n1_ n2_; (try clear hb); (try clear hb2); (try clear hk); (try clear hi)) | ((with_reducible refine gate_dst (N := 6) rfl ?_); refine box_event ?hg (N := 6) ?hd (cs := #[.int .i64 0, .int .i64 0]) (t := 24) ?hr ?_; (case hd => rfl); (case hg => rfl); (case hr => first | (go_simp; done) | (go_simp; rfl)); intro gb472 hg w25 hbox hb; have n0_ := Aside0.mk (blk_below (g := gb466) (o := .cells #[.slice A0_0 l0_0.length c0_0, .int .i64 a0_1, .int .i64 a0_2, .int .i64 a0_3] 26 (0, 0)) (bup BK466.out) hb); have n1_ := Aside0.mk (blk_below (g := gb467) (o := .cells #[.int .i64 0, .int .i64 0] 24 (0, 0)) (bup BK467.out) hb); have n2_ := Aside0.mk (below_step (by repeat (first | (with_reducible first | exact HB.out | apply below_alloc | apply pw_below_drewN | apply below_drew1 | refine below_set ?_ GE466.out | refine below_set ?_ GE467.out) | exact HB.out)) hb); have n3_ := Aside0.mk (hbox); have n4_ := Aside0.mk ((by rw [hg]; exact (below_size (by repeat (first | (with_reducible first | exact HB.out | apply below_alloc | apply pw_below_drewN | apply below_drew1 | refine below_set ?_ GE466.out | refine below_set ?_ GE467.out) | exact HB.out))) : w.heap.size ≤ gb472)); have n5_ := Aside0.mk ((by rw [hg]; exact (below_size (by repeat (first | (with_reducible first | exact HB.out | apply below_alloc | apply pw_below_drewN | apply below_drew1 | refine below_set ?_ GE466.out | refine below_set ?_ GE467.out) | exact HB.out))) : w.heap.size ≤ gb472)); have n6_ := Aside0.mk ((by rw [hg]; exact Nat.ne_of_lt (blk_lt (g := gb466) (o := .cells #[.slice A0_0 l0_0.length c0_0, .int .i64 a0_1, .int .i64 a0_2, .int .i64 a0_3] 26 (0, 0)) (bup BK466.out)) : gb466 ≠ gb472)); have n7_ := Aside0.mk ((by rw [hg]; exact Nat.ne_of_gt (blk_lt (g := gb466) (o := .cells #[.slice A0_0 l0_0.length c0_0, .int .i64 a0_1, .int .i64 a0_2, .int .i64 a0_3] 26 (0, 0)) (bup BK466.out)) : gb472 ≠ gb466)); have n8_ := Aside0.mk ((by rw [hg]; exact Nat.ne_of_lt (blk_lt (g := gb467) (o := .cells #[.int .i64 0, .int .i64 0] 24 (0, 0)) (bup BK467.out)) : gb467 ≠ gb472)); have n9_ := Aside0.mk ((by rw [hg]; exact Nat.ne_of_gt (blk_lt (g := gb467) (o := .cells #[.int .i64 0, .int .i64 0] 24 (0, 0)) (bup BK467.out)) : gb472 ≠ gb467)); clear BK466; clear BK467; clear HB; have BK466 := n0_; have BK467 := n1_; have HB := n2_; have BK472 := n3_; have GW472 := n4_; have GE472 := n5_; have NB466_472 := n6_; have NB472_466 := n7_; have NB467_472 := n8_; have NB472_467 := n9_; clear n0_ n1_ n2_ n3_ n4_ n5_ n6_ n7_ n8_ n9_; clear hb hbox hg; have hnb26 := NB472_466.out; have hnc26 := NB466_472.out; have hnb27 := NB472_467.out; have hnc27 := NB467_472.out; have hcz28_0 : w25.cell? ⟨gb472, 0, none⟩ = some (.int .i64 0) := (blk_cell BK472.out 0).trans rfl; have hcz28_1 : w25.cell? ⟨gb472, 1, none⟩ = some (.int .i64 0) := (blk_cell BK472.out 1).trans rfl; have hfz28_0 := blk_frozen BK472.out 0; have hfz28_1 := blk_frozen BK472.out 1; have hcz29_0 : w25.cell? ⟨gb467, 0, none⟩ = some (.int .i64 0) := (blk_cell BK467.out 0).trans rfl; have hcz29_1 : w25.cell? ⟨gb467, 1, none⟩ = some (.int .i64 0) := (blk_cell BK467.out 1).trans rfl; have hfz29_0 := blk_frozen BK467.out 0; have hfz29_1 := blk_frozen BK467.out 1))
     refine bodyPost_ret (results_ct rfl _ _ gb467 24 #[.int .i64 0, .int .i64 0] (0, 0) _ rfl (by (with_reducible repeat (first | refine blk_drewN ?_ _ | refine blk_drew ?_ | refine blk_alloc ?_ _)); refine blk_put (cs := #[.int .i64 0, .int .i64 0]) ?_ 1 _ rfl; (with_reducible repeat (first | refine blk_drewN ?_ _ | refine blk_drew ?_ | refine blk_alloc ?_ _)); refine blk_put (cs := #[.int .i64 0, .int .i64 0]) ?_ 0 _ rfl; (with_reducible repeat (first | refine blk_drewN ?_ _ | refine blk_drew ?_ | refine blk_alloc ?_ _)); refine blk_far ?_ NB467_472.out _; (with_reducible repeat (first | refine blk_drewN ?_ _ | refine blk_drew ?_ | refine blk_alloc ?_ _)); refine blk_far ?_ NB467_472.out _; (with_reducible repeat (first | refine blk_drewN ?_ _ | refine blk_drew ?_ | refine blk_alloc ?_ _)); exact BK467.out) Tryz.underlying24 rfl (by kernel_rfl)) rfl ?_
     exact ⟨by first | rfl | (simp [errW_none, errW_some] <;> rfl) | (simp [*, errW_none, errW_some] <;> rfl), by repeat (first | (with_reducible first | exact HB.out | apply below_alloc | apply pw_below_drewN | apply below_drew1 | refine below_set ?_ GE466.out | refine below_set ?_ GE467.out | refine below_set ?_ GE472.out) | exact HB.out)⟩
    ·rw [if_neg c21] at H
     have c21b0 : decide (t471 < t470) = false := decide_eq_false c21
     clear c21
     simp only [Option.some.injEq, Prod.mk.injEq] at H
     obtain ⟨rfl, rfl, rfl⟩ := H
     have hnb30 := NB466_467.out
     have hnc30 := NB467_466.out
     have hcz31_0 : wc.cell? ⟨gb466, 0, none⟩ = some (.slice A0_0 l0_0.length c0_0) := (blk_cell BK466.out 0).trans rfl
     have hcz31_1 : wc.cell? ⟨gb466, 1, none⟩ = some (.int .i64 a0_1) := (blk_cell BK466.out 1).trans rfl
     have hcz31_2 : wc.cell? ⟨gb466, 2, none⟩ = some (.int .i64 a0_2) := (blk_cell BK466.out 2).trans rfl
     have hcz31_3 : wc.cell? ⟨gb466, 3, none⟩ = some (.int .i64 a0_3) := (blk_cell BK466.out 3).trans rfl
     have hfz31_0 := blk_frozen BK466.out 0
     have hfz31_1 := blk_frozen BK466.out 1
     have hfz31_2 := blk_frozen BK466.out 2
     have hfz31_3 := blk_frozen BK466.out 3
     go_wp2_with (first | ((with_reducible refine gate_callee (f := 86) rfl ?_); refine goesL_ (some 19) rfl rfl Tryz.func86 (by kernel_rfl) rfl #[.agg #[.slice A0_0 l0_0.length c0_0, .int .i64 a0_1, .int .i64 a0_2, .int .i64 a0_3], .int .i64 a1] rfl (by (try simp only [List.map_toArray, List.map_cons, List.map_nil]); first | done | rfl | (simp only [List.length_drop, List.length_take]; rfl)) ?_; (with_reducible refine (column_between.calls _ _ l0_0 a0_1 a0_2 a0_3 a1 t470 t471 _ ?side1 ?side2 A20.out).mono ?_); (case side1 => repeat (first | exact (Kd.C_below HR0_0.out HB.out) | (with_reducible refine Kd.C_alloc ?_ _) | (with_reducible refine Kd.C_drewN ?_ _) | (with_reducible refine Kd.C_drew ?_))); (case side2 => exact HC0_0.out); rintro e w32 ⟨rfl, hb⟩; refine ⟨_, rfl, ?_⟩; have n0_ := Aside0.mk (blk_below (g := gb466) (o := .cells #[.slice A0_0 l0_0.length c0_0, .int .i64 a0_1, .int .i64 a0_2, .int .i64 a0_3] 26 (0, 0)) (bup BK466.out) hb); have n1_ := Aside0.mk (blk_below (g := gb467) (o := .cells #[.int .i64 0, .int .i64 0] 24 (0, 0)) (bup BK467.out) hb); have n2_ := Aside0.mk (below_step (by repeat (first | (with_reducible first | exact HB.out | apply below_alloc | apply pw_below_drewN | apply below_drew1 | refine below_set ?_ GE466.out | refine below_set ?_ GE467.out) | exact HB.out)) hb); clear BK466; clear BK467; clear HB; have BK466 := n0_; have BK467 := n1_; have HB := n2_; clear n0_ n1_ n2_; (try clear hb); (try clear hb2); (try clear hk); (try clear hi)) | ((with_reducible refine gate_dst (N := 6) rfl ?_); refine box_event ?hg (N := 6) ?hd (cs := #[.int .i64 0, .int .i64 0]) (t := 24) ?hr ?_; (case hd => rfl); (case hg => rfl); (case hr => first | (go_simp; done) | (go_simp; rfl)); intro gb472 hg w33 hbox hb; have n0_ := Aside0.mk (blk_below (g := gb466) (o := .cells #[.slice A0_0 l0_0.length c0_0, .int .i64 a0_1, .int .i64 a0_2, .int .i64 a0_3] 26 (0, 0)) (bup BK466.out) hb); have n1_ := Aside0.mk (blk_below (g := gb467) (o := .cells #[.int .i64 0, .int .i64 0] 24 (0, 0)) (bup BK467.out) hb); have n2_ := Aside0.mk (below_step (by repeat (first | (with_reducible first | exact HB.out | apply below_alloc | apply pw_below_drewN | apply below_drew1 | refine below_set ?_ GE466.out | refine below_set ?_ GE467.out) | exact HB.out)) hb); have n3_ := Aside0.mk (hbox); have n4_ := Aside0.mk ((by rw [hg]; exact (below_size (by repeat (first | (with_reducible first | exact HB.out | apply below_alloc | apply pw_below_drewN | apply below_drew1 | refine below_set ?_ GE466.out | refine below_set ?_ GE467.out) | exact HB.out))) : w.heap.size ≤ gb472)); have n5_ := Aside0.mk ((by rw [hg]; exact (below_size (by repeat (first | (with_reducible first | exact HB.out | apply below_alloc | apply pw_below_drewN | apply below_drew1 | refine below_set ?_ GE466.out | refine below_set ?_ GE467.out) | exact HB.out))) : w.heap.size ≤ gb472)); have n6_ := Aside0.mk ((by rw [hg]; exact Nat.ne_of_lt (blk_lt (g := gb466) (o := .cells #[.slice A0_0 l0_0.length c0_0, .int .i64 a0_1, .int .i64 a0_2, .int .i64 a0_3] 26 (0, 0)) (bup BK466.out)) : gb466 ≠ gb472)); have n7_ := Aside0.mk ((by rw [hg]; exact Nat.ne_of_gt (blk_lt (g := gb466) (o := .cells #[.slice A0_0 l0_0.length c0_0, .int .i64 a0_1, .int .i64 a0_2, .int .i64 a0_3] 26 (0, 0)) (bup BK466.out)) : gb472 ≠ gb466)); have n8_ := Aside0.mk ((by rw [hg]; exact Nat.ne_of_lt (blk_lt (g := gb467) (o := .cells #[.int .i64 0, .int .i64 0] 24 (0, 0)) (bup BK467.out)) : gb467 ≠ gb472)); have n9_ := Aside0.mk ((by rw [hg]; exact Nat.ne_of_gt (blk_lt (g := gb467) (o := .cells #[.int .i64 0, .int .i64 0] 24 (0, 0)) (bup BK467.out)) : gb472 ≠ gb467)); clear BK466; clear BK467; clear HB; have BK466 := n0_; have BK467 := n1_; have HB := n2_; have BK472 := n3_; have GW472 := n4_; have GE472 := n5_; have NB466_472 := n6_; have NB472_466 := n7_; have NB467_472 := n8_; have NB472_467 := n9_; clear n0_ n1_ n2_ n3_ n4_ n5_ n6_ n7_ n8_ n9_; clear hb hbox hg; have hnb34 := NB472_466.out; have hnc34 := NB466_472.out; have hnb35 := NB472_467.out; have hnc35 := NB467_472.out; have hcz36_0 : w33.cell? ⟨gb472, 0, none⟩ = some (.int .i64 0) := (blk_cell BK472.out 0).trans rfl; have hcz36_1 : w33.cell? ⟨gb472, 1, none⟩ = some (.int .i64 0) := (blk_cell BK472.out 1).trans rfl; have hfz36_0 := blk_frozen BK472.out 0; have hfz36_1 := blk_frozen BK472.out 1; have hcz37_0 : w33.cell? ⟨gb467, 0, none⟩ = some (.int .i64 0) := (blk_cell BK467.out 0).trans rfl; have hcz37_1 : w33.cell? ⟨gb467, 1, none⟩ = some (.int .i64 0) := (blk_cell BK467.out 1).trans rfl; have hfz37_0 := blk_frozen BK467.out 0; have hfz37_1 := blk_frozen BK467.out 1))
     refine bodyPost_ret (results_ct rfl _ _ gb467 24 #[.int .i64 t470, .int .i64 t471] (0, 0) _ rfl (by (with_reducible repeat (first | refine blk_drewN ?_ _ | refine blk_drew ?_ | refine blk_alloc ?_ _)); refine blk_put (cs := #[.int .i64 t470, .int .i64 0]) ?_ 1 _ rfl; (with_reducible repeat (first | refine blk_drewN ?_ _ | refine blk_drew ?_ | refine blk_alloc ?_ _)); refine blk_put (cs := #[.int .i64 0, .int .i64 0]) ?_ 0 _ rfl; (with_reducible repeat (first | refine blk_drewN ?_ _ | refine blk_drew ?_ | refine blk_alloc ?_ _)); refine blk_far ?_ NB467_472.out _; (with_reducible repeat (first | refine blk_drewN ?_ _ | refine blk_drew ?_ | refine blk_alloc ?_ _)); refine blk_far ?_ NB467_472.out _; (with_reducible repeat (first | refine blk_drewN ?_ _ | refine blk_drew ?_ | refine blk_alloc ?_ _)); exact BK467.out) Tryz.underlying24 rfl (by kernel_rfl)) rfl ?_
     exact ⟨by first | rfl | (simp [errW_none, errW_some] <;> rfl) | (simp [*, errW_none, errW_some] <;> rfl), by repeat (first | (with_reducible first | exact HB.out | apply below_alloc | apply pw_below_drewN | apply below_drew1 | refine below_set ?_ GE466.out | refine below_set ?_ GE467.out | refine below_set ?_ GE472.out) | exact HB.out)⟩
end Go.Proofs.YtohlmoppcmjknaaGreatDoor.P
end
