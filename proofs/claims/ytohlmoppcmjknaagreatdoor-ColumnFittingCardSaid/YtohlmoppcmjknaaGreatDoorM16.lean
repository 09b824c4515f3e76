/- Contracts of the program's functions, and the words that their proofs take (joined out of several texts). -/
import Derived.Laws.EntriesVeiled
import Derived.Test.YtohlmoppcmjknaaGreatDoorM2
import Derived.Test.YtohlmoppcmjknaaGreatDoorM15
section
namespace Go.Proofs.YtohlmoppcmjknaaGreatDoor.X
open Go.RowKit Go.Shelf Go.Proofs.YtohlmoppcmjknaaGreatDoorW.PrintWords Go.Proofs.YtohlmoppcmjknaaGreatDoorW.PrintLast Go.Proofs.YtohlmoppcmjknaaGreatDoorW.PrintMore
open Go.Proofs.YtohlmoppcmjknaaGreatDoor.Col (nth)
set_option linter.unusedVariables false
set_option linter.unusedSimpArgs false
attribute [local go_sem] Oper.semAt_some
def allLists (ws : List Int) (o lo hi : Int) : List (List Int) := Col.lists ((Col.jumping ws lo hi).length + 1) (Col.jumping ws lo hi) o []
theorem jumping_length_le (ws : List Int) (lo hi : Int) : (Col.jumping ws lo hi).length ≤ ws.length := by
 unfold Col.jumping
 rw [List.length_map]
 exact Nat.le_trans (List.length_filter_le _ _) (by simp)
set_option maxHeartbeats 2000000 in
set_option maxRecDepth 100000 in
theorem lists1_in (l bs : Nat) (A : Option Addr) (n c : Nat) (o lo hi : Int) (AW : Option Addr) (cw mb : Nat) (ws : List Int) (hl : ws.length ≤ 15) (ho : 0 ≤ o) (ho3 : o ≤ 3)
  (J : List (List Int) → (Nat → Prop) → World → Prop) (n0 : Nat) (hround : Round l n0 J) (hbelow : ∀ out T W W', J out T W → Below W.heap.size W W' → J out T W') (hT : ∀ out T W, J out T W → ∀ b, T b → b < W.heap.size) (hn0 : ∀ out T W, J out T W → n0 ≤ W.heap.size)
  (m : Nat) (out : List (List Int)) (T : Nat → Prop) (W : World) (hJ : J out T W) (hcount : out.length ≤ 1000)
  (eS : W.heap[bs]? = some (.cells #[.slice A n c, .int .i64 o, .int .i64 lo, .int .i64 hi, .slice AW ws.length cw, .map (some mb)] 90 (0, 0))) (met : Met W mb (Col.metsTo ws o lo hi ws.length)) (win : Free T W AW cw ws) (fS : ¬ T bs) (fM : ¬ T mb) :
  CallsIn Fence.wide m Tryz.prog 135 #[.func (.yield l) #[] #[], .pointer (some ⟨bs, 0, none⟩)] W fun e W' => (∃ v, e = .returned v) ∧ ∃ T', J ((allLists ws o lo hi).foldl Col.keep out) T' W' ∧ Step T T' W W' := by
 have hlt := hT _ _ _ hJ
 have hB2 : Below W.heap.size W ((W.alloc (.cells #[.func (.yield l) #[] #[]] 167)).alloc (.cells #[(.func (.func 136) #[] #[.pointer (some ⟨bs, 0, none⟩), .pointer (some ⟨W.heap.size, 0, none⟩), .pointer (some ⟨W.heap.size + 1, 0, none⟩)])] 167)) := ((Below.refl _ _).alloc (Nat.le_refl _) _).alloc (by simp) _
 have hs := Step.below (T := T) hB2
 have h0 : ((W.alloc (.cells #[.func (.yield l) #[] #[]] 167)).alloc (.cells #[(.func (.func 136) #[] #[.pointer (some ⟨bs, 0, none⟩), .pointer (some ⟨W.heap.size, 0, none⟩), .pointer (some ⟨W.heap.size + 1, 0, none⟩)])] 167)).heap[W.heap.size]? = some (.cells #[.func (.yield l) #[] #[]] 167 (0, 0)) := blk_alloc (blk_new W _) _
 have h1 : ((W.alloc (.cells #[.func (.yield l) #[] #[]] 167)).alloc (.cells #[(.func (.func 136) #[] #[.pointer (some ⟨bs, 0, none⟩), .pointer (some ⟨W.heap.size, 0, none⟩), .pointer (some ⟨W.heap.size + 1, 0, none⟩)])] 167)).heap[W.heap.size + 1]? = some (.cells #[(.func (.func 136) #[] #[.pointer (some ⟨bs, 0, none⟩), .pointer (some ⟨W.heap.size, 0, none⟩), .pointer (some ⟨W.heap.size + 1, 0, none⟩)])] 167 (0, 0)) := by
  have := blk_new (W.alloc (.cells #[.func (.yield l) #[] #[]] 167)) (.cells #[(.func (.func 136) #[] #[.pointer (some ⟨bs, 0, none⟩), .pointer (some ⟨W.heap.size, 0, none⟩), .pointer (some ⟨W.heap.size + 1, 0, none⟩)])] 167 (0, 0))
  simpa using this
 obtain ⟨es, clock, hm1, hm2⟩ := met
 have hE := Env.mk (T := T) (l := l) (bp := W.heap.size + 1) ((hB2.block bs (Array.getElem?_eq_some_iff.1 eS).1).trans eS) h0 h1 ⟨es, clock, (hB2.block mb (Array.getElem?_eq_some_iff.1 hm1).1).trans hm1, hm2⟩ (win.step hs) fS (fun h => by have := hlt _ h; omega) (fun h => by have := hlt _ h; omega) fM
 have hP := Lib.hid (put_in l bs W.heap.size (W.heap.size + 1) A n c o lo hi AW cw mb ws (by omega) ho ho3 J n0 hround hbelow hT hn0 ((Col.jumping ws lo hi).length + 1) (m - 1) out T _ none 0 [] (hbelow _ _ _ _ hJ hB2) hE ⟨OI.nil _ _, fun ad e => by cases e⟩
  (by
   unfold uncov
   have := List.length_filter_le (fun i => !([] : List Int).any fun r => Col.inr r i (i + o)) (Col.jumping ws lo hi)
   omega)
  (by have := jumping_length_le ws lo hi; simp; omega) (by
   have h1 : 4 ^ ((Col.jumping ws lo hi).length + 1) ≤ 4 ^ 16 := Nat.pow_le_pow_right (by decide) (by have := jumping_length_le ws lo hi; omega)
   have h2 : 4 ^ 16 = 4294967296 := by decide
   omega))
 have HS := Aside0.mk hs
 clear hE hs hB2 h0 h1 hlt hJ eS win hm1 hm2 hround hbelow hT hn0 fS fM
 refine callsIn_of_wp Tryz.func135 rfl trivial ?_ rfl
 simp only [Tryz.ntmps135, List.size_toArray, List.length_cons, List.length_nil, Nat.reduceAdd, Nat.reduceSub, Array.replicate_succ, Array.replicate_zero, List.push_toArray, List.append_toArray, List.nil_append, List.cons_append]
 gi_wp2
 refine ⟨trivial, fun h => (by cases h), hP.out.mono ?_⟩
 rintro e w2 ⟨rfl, T', hJ', hs2⟩
 have HJ := Aside0.mk hJ'
 have HS2 := Aside0.mk (HS.out.trans hs2)
 clear hJ' hs2 hP HS
 gi_wp2
 go_end0
 exact ⟨⟨_, rfl⟩, T', HJ.out, HS2.out⟩
theorem lists_calls (v0 v1 v2 v3 v4 v5 : Value) (w : World) :
  Calls Tryz.prog 109 #[.agg #[v0, v1, v2, v3, v4, v5]] w fun e w' => e = .returned (.func (.func 135) #[] #[.pointer (some ⟨w.heap.size, 0, none⟩)]) ∧ w' = w.alloc (.cells #[v0, v1, v2, v3, v4, v5] 90) := by
 go_enter Tryz.func109, Tryz.ntmps109
 go_wp2
 go_ret
 exact ⟨rfl, rfl⟩
end Go.Proofs.YtohlmoppcmjknaaGreatDoor.X
end
