/- Contracts of the program's functions, and the words that their proofs take (joined out of several texts). -/
import Derived.Test.YtohlmoppcmjknaaGreatDoorM2
import Derived.Test.YtohlmoppcmjknaaGreatDoorM4
import Derived.Test.YtohlmoppcmjknaaGreatDoorM7
section
namespace Go.Proofs.YtohlmoppcmjknaaGreatDoor.X
open Go.RowKit Go.Proofs.YtohlmoppcmjknaaGreatDoorW.PrintWords Go.Proofs.YtohlmoppcmjknaaGreatDoorW.PrintLast Go.Proofs.YtohlmoppcmjknaaGreatDoorW.PrintMore
set_option linter.unusedVariables false
set_option linter.unusedSimpArgs false
def over (cur : List Value) (o : Nat) (vs : List Value) : List Value := cur.take o ++ vs ++ cur.drop (o + vs.length)
theorem over_nil (cur : List Value) (o : Nat) : over cur o [] = cur := by simp [over]
theorem over_cons (cur : List Value) (o : Nat) (v : Value) (r : List Value) (h : o + 1 + r.length ≤ cur.length) : over (cur.set o v) (o + 1) r = over cur o (v :: r) := by
 unfold over
 have h1 : (cur.set o v).take (o + 1) = cur.take o ++ [v] := by
  rw [List.take_succ_eq_append_getElem (by rw [List.length_set]; omega)]
  rw [List.take_set_of_le (Nat.le_refl _)]
  simp
 have h2 : (cur.set o v).drop (o + 1 + r.length) = cur.drop (o + 1 + r.length) := by
  rw [List.drop_set_of_lt (by omega)]
 rw [h1, h2, List.length_cons, show o + (r.length + 1) = o + 1 + r.length by omega]
 simp
theorem heap_setCells {t : TypeId} (b : Nat) : ∀ (vs : List Value) (o : Nat) (w : World) (cur : Array Value), w.heap[b]? = some (.cells cur t (0, 0)) → o + vs.length ≤ cur.size →
  (w.setCells b o vs).heap[b]? = some (.cells (over cur.toList o vs).toArray t (0, 0))
 | [], o, w, cur, h, _ => by
  rw [over_nil]
  simpa [World.setCells] using h
 | v :: r, o, w, cur, h, hl => by
  rw [List.length_cons] at hl
  have h1 := heap_setCells b r (o + 1) (w.setCell ⟨b, o, none⟩ v) (cur.setIfInBounds o v) (blk_put h o v rfl) (by simp; omega)
  rw [World.setCells, h1]
  congr 2
  rw [← over_cons cur.toList o v r (by simp; omega)]
  simp
theorem over_length (cur : List Value) (o : Nat) (vs : List Value) (h : o + vs.length ≤ cur.length) : (over cur o vs).length = cur.length := by
 simp [over]; omega
theorem below_setCells' {B : Nat} {a : World} (b : Nat) (hb : B ≤ b) : ∀ (vs : List Value) (o : Nat) {w : World}, Below B a w → Below B a (w.setCells b o vs)
 | [], _, _, h => h
 | v :: r, o, w, h => by
  rw [World.setCells]
  exact below_setCells' b hb r (o + 1) (h.setCell (p := ⟨b, o, none⟩) hb v)
theorem own_of_block {w : World} {base g cap : Nat} {cur : Array Value} {ys : List Int} (hg : w.heap[g]? = some (.cells cur 3 (0, 0))) (hb : base ≤ g) (hc : ys.length ≤ cap) (hm : cap ≤ maxLen) (hs : cur.size = cap) (ht : cur.toList.take ys.length = nums .i64 ys) :
  OI w base (.slice (some ⟨g, 0, none⟩) ys.length cap) ys :=
 ⟨by simp [nums], .inr ⟨g, cap, cur, rfl, hb, hg, hc, hm, by omega, by rw [Nat.mul_one]; exact ht⟩⟩
theorem over_insert {cur cs : List Value} {n i : Nat} (hcs : cur.take n = cs) (hn : n + 1 ≤ cur.length) (hi : i ≤ n) (v : Value) : (over (over cur (i + 1) (cs.drop i)) i [v]).take (n + 1) = cs.take i ++ v :: cs.drop i := by
 have hl : cs.length = n := by rw [← hcs]; simp; omega
 have h1 : (over cur (i + 1) (cs.drop i)).take i = cs.take i := by
  unfold over
  rw [List.append_assoc, List.take_append_of_le_length (by simp; omega), List.take_take, ← hcs, List.take_take]
  congr 1
  omega
 have h2 : (over cur (i + 1) (cs.drop i)).drop (i + 1) = cs.drop i ++ cur.drop (i + 1 + (cs.drop i).length) := by
  unfold over
  rw [List.append_assoc, List.drop_left' (by simp; omega)]
 rw [over, h1, List.length_singleton, h2]
 rw [show cs.take i ++ [v] ++ (cs.drop i ++ cur.drop (i + 1 + (cs.drop i).length)) = (cs.take i ++ v :: cs.drop i) ++ cur.drop (i + 1 + (cs.drop i).length) by simp]
 exact List.take_left' (by simp; omega)
theorem over_insert2 {A cs : List Value} {n i : Nat} (hl : cs.length = n) (hA : A.take i = cs.take i) (hn : n + 1 ≤ A.length) (hi : i ≤ n) (v : Value) : (over (over A i [v]) (i + 1) (cs.drop i)).take (n + 1) = cs.take i ++ v :: cs.drop i := by
 have h1 : (over A i [v]).take (i + 1) = cs.take i ++ [v] := by
  unfold over
  rw [List.take_left' (by simp; omega), hA]
 rw [over, h1]
 rw [show cs.take i ++ [v] ++ cs.drop i ++ (over A i [v]).drop (i + 1 + (cs.drop i).length) = (cs.take i ++ v :: cs.drop i) ++ (over A i [v]).drop (i + 1 + (cs.drop i).length) by simp]
 exact List.take_left' (by simp; omega)
theorem nums_insert (l : List Int) (i : Nat) (x : Int) : nums .i64 (l.take i ++ x :: l.drop i) = (nums .i64 l).take i ++ (.int .i64 x) :: (nums .i64 l).drop i := by simp [nums]
theorem zero_size (n : Nat) : (Builtin.zeroCells (Value.int .i64 0).cells n).size = n := by simp [Builtin.zeroCells, Value.cells]
set_option maxHeartbeats 1000000 in
theorem insert_calls (base : Nat) (v : Value) (l : List Int) (i vb : Nat) (x : Int) (w : World) (hr : RI w base v l) (hbs : base ≤ w.heap.size) (hl0 : 0 < l.length) (hl : l.length ≤ 1000) (hi : i ≤ l.length)
  (hvb : w.heap[vb]? = some (.cells #[.int .i64 x] 3 (0, 0))) (hne : some vb ≠ v.ownBlock) :
  Calls Tryz.prog 91 #[v, .int .i64 (i : Int), .slice (some ⟨vb, 0, none⟩) 1 1] w fun e w' =>
   ∃ v', e = .returned v' ∧ RI w' base v' (l.take i ++ x :: l.drop i) ∧ Below base w w' := by
 have hown := RI.own hr
 rcases hown.2 with ⟨e0, h0⟩ | ⟨g, cap, cur, rfl, hb, hg, hnc, hm, hs, ht⟩
 ·omega
 ·rw [Nat.mul_one] at hs ht
  have hgv : vb ≠ g := fun e => hne (by simp [Value.ownBlock, e])
  have hlt : g < w.heap.size := blk_lt hg
  have hcs : ∀ j v, (nums .i64 l)[j]? = some v → w.cell? ⟨g, 0 + j, none⟩ = some v := by
   intro j v hj
   rw [Nat.zero_add, blk_cell hg j]
   have := congrArg (fun q => q[j]?) ht
   simp only [List.getElem?_take] at this
   have hjl : j < l.length := by have := (List.getElem?_eq_some_iff.1 hj).1; simpa [nums] using this
   rw [if_pos hjl, Array.getElem?_toList] at this
   rw [this, hj]
  have hnl : (nums .i64 l).length = l.length := by simp [nums]
  have hvs : ∀ j v, [Value.int .i64 x][j]? = some v → w.cell? ⟨vb, 0 + j, none⟩ = some v := by
   intro j v hj
   rw [Nat.zero_add, blk_cell hvb j]
   cases j with
   | zero => simpa using hj
   | succ j => simp at hj
  have h1c : ∀ v ∈ nums .i64 l, v.oneCell' = true := by
   intro v hv
   obtain ⟨n, _, rfl⟩ := List.mem_map.1 hv
   rfl
  have h1v : ∀ v ∈ [Value.int .i64 x], v.oneCell' = true := by intro v hv; rw [List.mem_singleton.1 hv]; rfl
  have hil : (l.take i ++ x :: l.drop i).length = l.length + 1 := by simp; omega
  have hmx : cap ≤ 9223372036854775807 := by simpa [maxLen] using hm
  have hcl : cur.toList.length = cap := by rw [Array.length_toList]; exact hs
  have hrow := nums_insert l i x
  rcases Nat.lt_or_ge i l.length with hlt' | hge
  ·rcases Nat.lt_or_ge cap (l.length + 1) with hroom | hroom
   ·have hc := Any2.slices_Insert_int_grow Tryz.laysNm221 g 0 l.length cap i vb 0 1 1 (nums .i64 l) [.int .i64 x] w hlt' (by omega) hnc hroom (by omega) hnl rfl hcs hvs h1c h1v
    refine Calls.mono (show Calls Tryz.prog 91 _ w _ from hc) ?_
    rintro e w' ⟨rfl, rfl⟩
    have hgc := grownCap_ge w (l.length + 1) cap 3
    have hgm := grownCap_le_maxLen w (l.length + 1) cap 3 (by unfold maxLen; omega)
    generalize hK : grownCap w (l.length + 1) cap 3 = K at hgc hgm
    have hgK : grownCap w (l.length + 1) cap ((Tryz.laysNm221_ren).t 3) = K := hK
    rw [hgK]
    refine ⟨_, rfl, ?_, ?_⟩
    ·have hn := blk_new w (.cells (((nums .i64 l).take i).toArray ++ Builtin.zeroCells (Value.int .i64 0).cells (l.length + 1 - i) ++ Builtin.zeroCells (Value.int .i64 0).cells (K - (l.length + 1))) 3 (0, 0))
     have h1 := heap_setCells w.heap.size [.int .i64 x] i ((w.alloc (.cells (((nums .i64 l).take i).toArray ++ Builtin.zeroCells (Value.int .i64 0).cells (l.length + 1 - i) ++ Builtin.zeroCells (Value.int .i64 0).cells (K - (l.length + 1))) 3)).drew) _ hn (by simp [zero_size, hnl]; omega)
     have h2 := heap_setCells w.heap.size ((nums .i64 l).drop i) (i + 1) (World.drew (World.setCells ((w.alloc (.cells (((nums .i64 l).take i).toArray ++ Builtin.zeroCells (Value.int .i64 0).cells (l.length + 1 - i) ++ Builtin.zeroCells (Value.int .i64 0).cells (K - (l.length + 1))) 3)).drew) w.heap.size i [.int .i64 x])) _ h1 (by simp [over, zero_size, hnl]; omega)
     have hO := own_of_block (ys := l.take i ++ x :: l.drop i) h2 hbs (by rw [hil]; exact hgc) hgm (by simp [over, zero_size, hnl]; omega) (by
      rw [hil, hrow]
      exact over_insert2 hnl (by simp only [Array.toList_append, List.append_assoc]; exact List.take_left' (by simp [hnl]; omega)) (by simp [zero_size, hnl]; omega) hi _)
     rw [hil] at hO
     exact OI.toR hO
    ·exact below_setCells' _ hbs _ _ (Below.drew (below_setCells' _ hbs _ _ (Below.drew ((Below.refl _ _).alloc hbs _))))
   ·have hc := Any2.slices_Insert_int_shift Tryz.laysNm221 g 0 l.length cap i vb 0 1 1 (nums .i64 l) [.int .i64 x] w hlt' (by omega) hroom hmx hgv hnl rfl hcs
     (fun j hj => by rw [Nat.zero_add, blk_cell hg j, Array.getElem?_eq_getElem (by omega)]; rfl) (fun j hj => blk_frozen hg _) hvs h1c h1v 3 3 1 cap (by simp [World.shape?, hvb]) (by simp [World.shape?, hg, hs]) (by omega) (blk_frozen hvb _) (blk_frozen hvb _)
    refine Calls.mono (show Calls Tryz.prog 91 _ w _ from hc) ?_
    rintro e w' ⟨rfl, rfl⟩
    refine ⟨_, rfl, ?_, ?_⟩
    ·have h1 := heap_setCells g ((nums .i64 l).drop i) (0 + (i + 1)) w.drew cur hg (by simp [hnl]; omega)
     have h2 := heap_setCells g [.int .i64 x] (0 + i) _ _ h1 (by simp [over, hnl, hs]; omega)
     have hO := own_of_block (ys := l.take i ++ x :: l.drop i) h2 hb (by rw [hil]; exact hroom) hm (by simp [over, hnl, hs]; omega) (by
      rw [hil, hrow, Nat.zero_add, Nat.zero_add]
      exact over_insert ht (by omega) hi _)
     rw [hil] at hO
     exact OI.toR hO
    ·exact below_setCells' _ hb _ _ (below_setCells' _ hb _ _ (Below.drew (Below.refl _ _)))
  ·have e : i = l.length := by omega
   subst e
   have hre : nums .i64 (l.take l.length ++ x :: l.drop l.length) = nums .i64 l ++ [.int .i64 x] := by rw [List.take_length, List.drop_length]; simp [nums]
   rcases Nat.lt_or_ge cap (l.length + 1) with hroom | hroom
   ·have hc := Any2.slices_Insert_int_end_grow Tryz.laysNm221 (some ⟨g, 0, none⟩) l.length cap vb 0 1 1 (nums .i64 l) [.int .i64 x] w (by omega) hnc hroom (by omega) hnl rfl (by simp)
     (fun a ha j v hj => by cases ha; rw [Addr.add_lit]; exact hcs j v hj) hvs h1v
    refine Calls.mono (show Calls Tryz.prog 91 _ w _ from hc) ?_
    rintro e w' ⟨rfl, rfl⟩
    have hgc := grownCap_ge w (l.length + 1) cap 3
    have hgm := grownCap_le_maxLen w (l.length + 1) cap 3 (by unfold maxLen; omega)
    generalize hK : grownCap w (l.length + 1) cap 3 = K at hgc hgm
    have hgK : grownCap w (l.length + 1) cap ((Tryz.laysNm221_ren).t 3) = K := hK
    rw [hgK]
    refine ⟨_, rfl, ?_, Below.alloc (Below.drew (Below.refl _ _)) hbs _⟩
    have hn := blk_new w.drew (.cells ((nums .i64 l ++ [Value.int .i64 x]).toArray ++ Builtin.zeroCells (Value.int .i64 0).cells (K - (l.length + 1))) 3 (0, 0))
    have hO := own_of_block (ys := l.take l.length ++ x :: l.drop l.length) hn hbs (by rw [hil]; exact hgc) hgm (by simp [zero_size, hnl]; omega) (by
     rw [hil, hre]
     simp only [Array.toList_append]
     exact List.take_left' (by simp [hnl]))
    rw [hil] at hO
    exact OI.toR hO
   ·have hc := Any2.slices_Insert_int_end_room Tryz.laysNm221 g 0 l.length cap vb 0 1 1 [.int .i64 x] w (by omega) hroom hmx rfl
     (fun j hj => by rw [blk_cell hg, Array.getElem?_eq_getElem (by omega)]; rfl) (fun j hj => blk_frozen hg _) hvs h1v
    refine Calls.mono (show Calls Tryz.prog 91 _ w _ from hc) ?_
    rintro e w' ⟨rfl, rfl⟩
    refine ⟨_, rfl, ?_, below_setCells' _ hb _ _ (Below.refl _ _)⟩
    have h1 := heap_setCells g [.int .i64 x] (0 + l.length) w cur hg (by simp; omega)
    have hO := own_of_block (ys := l.take l.length ++ x :: l.drop l.length) h1 hb (by rw [hil]; exact hroom) hm (by simp [over, hs]; omega) (by
     rw [hil, hre, Nat.zero_add]
     unfold over
     rw [ht]
     exact List.take_left' (by simp [hnl]))
    rw [hil] at hO
    exact OI.toR hO
end Go.Proofs.YtohlmoppcmjknaaGreatDoor.X
end
