/- Contracts of the program's functions, and the words that their proofs take (joined out of several texts). -/
import Derived.RangeFuncBox
import Derived.Maps.AppendAt
import Derived.Deep.AppendLies
import Derived.Test.YtohlmoppcmjknaaGreatDoorM2
import Derived.Test.YtohlmoppcmjknaaGreatDoorM4
import Derived.Test.YtohlmoppcmjknaaGreatDoorM16
section
namespace Go.Proofs.YtohlmoppcmjknaaGreatDoor.X
open Go.RowKit Go.Shelf Go.Proofs.YtohlmoppcmjknaaGreatDoorW.PrintWords Go.Proofs.YtohlmoppcmjknaaGreatDoorW.PrintLast Go.Proofs.YtohlmoppcmjknaaGreatDoorW.PrintMore
open Go.Proofs.YtohlmoppcmjknaaGreatDoor.Col (nth)
set_option linter.unusedVariables false
set_option linter.unusedSimpArgs false
attribute [local go_sem] Oper.semAt_some
theorem info_row : (Tryz.prog.info? 22).map (fun i => (i.zero, i.size, i.bytes)) = some (some (.slice none 0 0), 1, 24) := by kernel_rfl
def Elems (T : Nat → Prop) (n0 : Nat) (W : World) (cs : List Value) (out : List (List Int)) : Prop :=
 ∀ (i : Nat) (x : List Int), out[i]? = some x → ∃ (A : Option Addr) (c : Nat), cs[i]? = some (Value.slice A x.length c) ∧ Mine T n0 W A c x
theorem Elems.step {T T' : Nat → Prop} {n0 : Nat} {W W' : World} {cs : List Value} {out : List (List Int)} (h : Elems T n0 W cs out) (hs : Step T T' W W') : Elems T' n0 W' cs out := by
 intro i x hx
 obtain ⟨A, c, h1, h2⟩ := h i x hx
 exact ⟨A, c, h1, h2.step hs⟩
theorem Elems.nil (T : Nat → Prop) (n0 : Nat) (W : World) : Elems T n0 W [] [] := fun i x hx => by simp at hx
theorem Elems.snoc {T : Nat → Prop} {n0 : Nat} {W : World} {cs : List Value} {out : List (List Int)} (h : Elems T n0 W cs out) (hl : cs.length = out.length) {A : Option Addr} {c : Nat} {x : List Int} (hm : Mine T n0 W A c x) : Elems T n0 W (cs ++ [.slice A x.length c]) (out ++ [x]) := by
 intro i y hy
 rcases Nat.lt_or_ge i out.length with hi | hi
 ·rw [List.getElem?_append_left hi] at hy
  obtain ⟨A', c', h1, h2⟩ := h i y hy
  exact ⟨A', c', by rw [List.getElem?_append_left (by omega)]; exact h1, h2⟩
 ·rw [List.getElem?_append_right hi] at hy
  have e : i = out.length := by
   rcases Nat.eq_or_lt_of_le hi with e | e
   ·exact e.symm
   ·rw [List.getElem?_eq_none (by simp; omega)] at hy; cases hy
  subst e
  simp at hy
  subst hy
  exact ⟨A, c, by rw [List.getElem?_append_right (by omega), hl]; simp, hm⟩
structure Kept (w : World) (l D b1 b2 : Nat) (rec : LoopState → Loop) (out : List (List Int)) (T : Nat → Prop) (W : World) : Prop where
 below : Below w.heap.size w W
 box : T b1
 rd : T l
 dd : T D
 lt : ∀ b, T b → b < W.heap.size
 ne : ¬ T b2
 base : ∀ b, T b → w.heap.size ≤ b
 lp : W.heap[l]? = some (.loop (rec .ready))
 dfr : W.heap[D]? = some (.deferred (some []))
 row : ∃ v cs, Boxed W b1 97 v ∧ W.ownsRow w.heap.size 22 1 v out.length cs ∧ (∀ k, v.ownBlock = some k → T k) ∧ Elems T w.heap.size W cs out
theorem keep_nil (x : List Int) : Col.keep [] x = [x] := rfl
theorem keep_less {y : List Int} {out : List (List Int)} {x : List Int} (h : x.length < y.length) : Col.keep (y :: out) x = [x] := by
 unfold Col.keep
 simp [h]
theorem keep_same {y : List Int} {out : List (List Int)} {x : List Int} (h : x.length = y.length) : Col.keep (y :: out) x = (y :: out) ++ [x] := by
 unfold Col.keep
 simp [h]
theorem keep_more {y : List Int} {out : List (List Int)} {x : List Int} (h : y.length < x.length) : Col.keep (y :: out) x = y :: out := by
 unfold Col.keep
 have h1 : ¬ x.length < y.length := by omega
 have h2 : ¬ x.length = y.length := by omega
 simp [h1, h2]
def mkRec (fn : FuncId) (tmps : Array Value) (ps : Array Tmp) (assign body : Code) (D : Nat) (st : LoopState) : Loop := { state := st, pending := none, fn, tmps, params := ps, assign, body, defers := D }
theorem range_own {P : Program} {n : Nat} {g : Operand} {ps : Array Tmp} {assign body : Code} {Q : Exit → Act → World → Prop} {a : Act} {w : World} {gf : Nat} {lb : Array Value}
  (hg : a.eval g = .func (.func gf) #[] lb) (eg : ∀ args w, (callFunc gf args).run P w = .ok (.enter gf args) w)
  (h : ∀ (fn : FuncId) (W1 : World), W1.heap[w.heap.size + 1]? = some (.loop (mkRec fn a.tmps ps assign body w.heap.size .ready)) → W1.heap[w.heap.size]? = some (.deferred (some [])) → Below w.heap.size w W1 → W1.heap.size = w.heap.size + 2 →
   CallsIn Fence.wide (n - 1) P gf (#[.func (.yield (w.heap.size + 1)) #[] #[]] ++ lb) W1 fun e W2 => (∃ v, e = .returned v) ∧ W2.heap[w.heap.size + 1]? = some (.loop (mkRec fn a.tmps ps assign body w.heap.size .ready)) ∧
    Q .normal { a with defers := { target := .collected w.heap.size, args := #[] } :: a.defers } (W2.putObj (w.heap.size + 1) (.loop (mkRec fn a.tmps ps assign body w.heap.size .exhausted)))) :
  (Code.rangeFunc g ps assign body).wpIn Fence.wide n P Q a w := by
 refine wpIn_rangeFunc ?_
 intro fn hfn
 obtain ⟨W1, hW1⟩ : ∃ W1, (w.alloc (.deferred (some []))).alloc (.loop (mkRec fn a.tmps ps assign body w.heap.size .ready)) = W1 := ⟨_, rfl⟩
 have hL1 : W1.heap[w.heap.size + 1]? = some (.loop (mkRec fn a.tmps ps assign body w.heap.size .ready)) := by
  rw [← hW1]; have := World.alloc_heap_new (w.alloc (.deferred (some []))) (.loop (mkRec fn a.tmps ps assign body w.heap.size .ready)); rwa [World.size_alloc] at this
 have hK1 : W1.heap[w.heap.size]? = some (.deferred (some [])) := by
  rw [← hW1]; exact (Below.heap_alloc _ _ _ (by simp)).trans (World.alloc_heap_new w _)
 have hB1 : Below w.heap.size w W1 := by
  rw [← hW1]; exact ((Below.refl _ w).alloc (Nat.le_refl _) _).alloc (by simp) _
 refine ⟨w.heap.size + 1, [{ target := .collected w.heap.size, args := #[] }], W1, { target := .fn (.func gf) lb, args := #[.func (.yield (w.heap.size + 1)) #[] #[]] }, W1, gf,
  #[.func (.yield (w.heap.size + 1)) #[] #[]] ++ lb, W1, ?_, ?_, ?_, ?_, (fun h => by cases h), ?_⟩
 ·rw [← hW1]; exact run_enterLoop_outer _ _ _ _ _
 ·simp only [resolve, hg]
  simp [go_sem]
 ·intro f' hf'; trivial
 ·simp [invoke, go_sem, eg]
 ·refine (h fn W1 hL1 hK1 hB1 (by rw [← hW1]; simp)).mono ?_
  rintro e W2 ⟨⟨v, rfl⟩, hl, hq⟩
  exact ⟨none, _, run_endLoop (P := P) hl (by simp [mkRec]), hq⟩
theorem round_own {P : Program} {m l : Nat} {fn : FuncId} {ps : Array Tmp} {assign body : Code} {D : Nat} {tmps args : Array Value} {W : World} {R : World → Prop} (a₁ : Act)
  (hl : W.heap[l]? = some (.loop (mkRec fn tmps ps assign body D .ready))) (hs : args.size = ps.size)
  (hassign : ∀ (K : Act → World → Prop), K a₁ W → assign.wpIn (Fence.wide.inRound l) m P (Exit.then K (fun _ _ _ => False)) { tmps := (ps.zip args).foldl (fun t (p, v) => t.setIfInBounds p v) tmps, defers := [] } W)
  (hbody : body.wpIn (Fence.wide.inRound l) m P (fun e _ W3 => e = .normal ∧ W3.heap[l]? = some (.loop (mkRec fn tmps ps assign body D .busy)) ∧ R (W3.putObj l (.loop (mkRec fn tmps ps assign body D .ready)))) a₁ (W.putObj l (.loop (mkRec fn tmps ps assign body D .busy)))) :
  YieldAt Fence.wide m P l args W fun e W' => e = .returned (.bool true) ∧ R W' := by
 have hy := run_yield (P := P) (args := args) hl hs
 have hb := run_beginRound (P := P) hl rfl
 refine ⟨fn, _, assign, body, hy, roundIn_of_wpIn trivial (wpIn_mono (hassign (fun a W' => a = a₁ ∧ W' = W) ⟨rfl, rfl⟩) ?_)⟩
 rintro e a3 W3 h3
 cases e with
 | normal =>
  obtain ⟨rfl, rfl⟩ := h3
  refine ⟨_, hb, wpIn_mono hbody ?_⟩
  rintro e a4 W4 ⟨rfl, hl3, hR⟩
  exact ⟨_, _, run_endRound (P := P) none hl3, rfl, hR⟩
 | ret => exact h3.elim
 | exit _ => exact h3.elim
 | goto _ => exact h3.elim
 | panic _ => exact h3.elim
 | outgrown => exact h3.elim
theorem world_three {w : World} {o0 o1 o2 : Obj} {G : World → Prop}
  (h : ∀ W, W.heap[w.heap.size]? = some o0 → W.heap[w.heap.size + 1]? = some o1 → W.heap[w.heap.size + 2]? = some o2 → Below w.heap.size w W → W.heap.size = w.heap.size + 3 → G W) :
  G (((w.alloc o0).alloc o1).alloc o2) := by
 refine h _ ?_ ?_ ?_ ?_ (by simp)
 ·exact blk_alloc (blk_alloc (blk_new _ _) _) _
 ·have := blk_alloc (blk_new (w.alloc o0) o1) o2
  simpa using this
 ·have := blk_new ((w.alloc o0).alloc o1) o2
  simpa using this
 ·exact (((Below.refl _ _).alloc (Nat.le_refl _) _).alloc (by simp) _).alloc (by simp; omega) _
theorem row_block {w : World} {base n : Nat} {e : TypeId} {size : Nat} {v : Value} {xs : List Value} (h : w.ownsRow base e size v n xs) (k : Nat) (hk : v.ownBlock = some k) : ∃ cur, w.heap[k]? = some (.cells cur e (0, 0)) := by
 rcases h.2 with ⟨rfl, _⟩ | ⟨g, cap, cur, rfl, _, hg, _⟩
 ·cases hk
 ·obtain rfl : g = k := by simpa [Value.ownBlock] using hk
  exact ⟨cur, hg⟩
theorem row_kept {W W' : World} {base n : Nat} {e : TypeId} {size : Nat} {v : Value} {xs : List Value} (h : W.ownsRow base e size v n xs) (hk : ∀ k, v.ownBlock = some k → W'.heap[k]? = W.heap[k]?) : W'.ownsRow base e size v n xs := by
 obtain ⟨h1, h2⟩ := h
 refine ⟨h1, ?_⟩
 rcases h2 with h2 | ⟨g, cap, cur, he, hb, hh, hnc, hcm, hcs, ht⟩
 ·exact .inl h2
 ·exact .inr ⟨g, cap, cur, he, hb, (hk g (by rw [he]; rfl)).trans hh, hnc, hcm, hcs, ht⟩
theorem row_form {w : World} {base n : Nat} {e : TypeId} {size : Nat} {v : Value} {xs : List Value} (h : w.ownsRow base e size v n xs) : ∃ A c, v = .slice A n c := by
 rcases h.2 with ⟨rfl, h0⟩ | ⟨g, cap, cur, rfl, _⟩
 ·subst h0
  exact ⟨_, _, rfl⟩
 ·exact ⟨_, _, rfl⟩
theorem kept_fin {w W W3 : World} {l D b1 b2 : Nat} {rec : LoopState → Loop} {out out' : List (List Int)} {T : Nat → Prop} (hJ : Kept w l D b1 b2 rec out T W) (hlD : D ≠ l) (h1l : b1 ≠ l) (h2l : b2 < l)
  (hs : W.heap.size ≤ W3.heap.size) (hA : ∀ b, b < W.heap.size → ¬ T b → W3.heap[b]? = W.heap[b]?) (hB : Below w.heap.size w W3) (hl : W3.heap[l]? = some (.loop (rec .busy))) (hD : W3.heap[D]? = some (.deferred (some [])))
  {v' : Value} {cs' : List Value} (hbox : Boxed W3 b1 97 v') (hrow : W3.ownsRow w.heap.size 22 1 v' out'.length cs') (hv : ∀ k, v'.ownBlock = some k → T k ∨ W.heap.size ≤ k) (hel : Elems T w.heap.size W cs' out') :
  ∃ T', Kept w l D b1 b2 rec out' T' (W3.putObj l (.loop (rec .ready))) ∧ Step T T' W (W3.putObj l (.loop (rec .ready))) := by
 have hlt := hJ.lt l hJ.rd
 have hnl : ∀ k, v'.ownBlock = some k → k ≠ l := by
  intro k hk e
  obtain ⟨cur, hc⟩ := row_block hrow k hk
  rw [e, hl] at hc
  cases hc
 have hst : Step T (fun b => T b ∨ v'.ownBlock = some b) W (W3.putObj l (.loop (rec .ready))) := by
  refine ⟨by simpa using hs, fun b hb => ⟨fun h => ?_, .inl⟩, fun b hb hn => ?_⟩
  ·rcases h with h | h
   ·exact h
   ·rcases hv b h with h | h
    ·exact h
    ·omega
  ·exact (World.putObj_heap_other (fun e => hn (by rw [e]; exact hJ.rd))).trans (hA b hb hn)
 refine ⟨_, ⟨?_, .inl hJ.box, .inl hJ.rd, .inl hJ.dd, ?_, ?_, ?_, World.putObj_heap_same (by omega), (World.putObj_heap_other hlD).trans hD, v', cs', (World.putObj_heap_other h1l).trans hbox, row_kept hrow (fun k hk => World.putObj_heap_other (hnl k hk)), fun k hk => .inr hk, hel.step hst⟩, hst⟩
 ·exact hB.grown (grownBy_putObj' W3 l _) hB.size (fun k e => by cases e; exact hJ.base l hJ.rd)
 ·rintro b (h | h)
  ·have := hJ.lt b h
   simp
   omega
  ·obtain ⟨cur, hc⟩ := row_block hrow b h
   have := (Array.getElem?_eq_some_iff.1 hc).1
   simpa using this
 ·rintro (h | h)
  ·exact hJ.ne h
  ·rcases hv _ h with h | h
   ·exact hJ.ne h
   ·omega
 ·rintro b (h | h)
  ·exact hJ.base b h
  ·exact own_base hrow b h
theorem app_fin {w W WA w5 : World} {l D b1 b2 : Nat} {rec : LoopState → Loop} {out out' : List (List Int)} {T : Nat → Prop} (hJ : Kept w l D b1 b2 rec out T W) (hlD : D ≠ l) (h1l : b1 ≠ l) (h1D : b1 ≠ D) (h2l : b2 < l)
  {vA v' : Value} {k : Nat} {csA : List Value} {sl : Value} (hbxA : Boxed WA b1 97 vA) (hrowA : WA.ownsRow w.heap.size 22 1 vA k csA) (hvA : ∀ k, vA.ownBlock = some k → T k) (hA : ∀ b, b ≠ l → b ≠ b1 → WA.heap[b]? = W.heap[b]?) (hsA : WA.heap.size = W.heap.size) (hBA : Below w.heap.size w WA)
  (hLA : WA.heap[l]? = some (.loop (rec .busy)))
  (hown' : w5.ownsRow w.heap.size 22 1 v' (k + 1) (csA ++ [sl])) (hg : (WA.alloc (.cells #[sl] 22)).grownBy w5 vA.ownBlock) (hat : v'.ownBlock = vA.ownBlock ∨ v'.ownBlock = some (WA.alloc (.cells #[sl] 22)).heap.size)
  (hout : out'.length = k + 1) (hel : Elems T w.heap.size W (csA ++ [sl]) out') :
  (w5.setCell ⟨b1, 0, none⟩ v').heap[l]? = some (.loop (rec .busy)) ∧ ∃ T', Kept w l D b1 b2 rec out' T' ((w5.setCell ⟨b1, 0, none⟩ v').putObj l (.loop (rec .ready))) ∧ Step T T' W ((w5.setCell ⟨b1, 0, none⟩ v').putObj l (.loop (rec .ready))) := by
 have hlt := hJ.lt l hJ.rd
 have hltD := hJ.lt D hJ.dd
 have hsz5 : W.heap.size + 1 ≤ w5.heap.size := by have := hg.size; simp at this; omega
 have hDA : WA.heap[D]? = some (.deferred (some [])) := (hA D hlD (fun e => h1D e.symm)).trans hJ.dfr
 have hold : ∀ b, b < W.heap.size → vA.ownBlock ≠ some b → w5.heap[b]? = WA.heap[b]? := fun b hb hn => (hg.block b (by simp; omega) (fun e => hn e.symm)).trans (Below.heap_alloc _ _ _ (by omega))
 have hnl : vA.ownBlock ≠ some l := by
  intro hk
  obtain ⟨cur, hc⟩ := row_block hrowA l hk
  rw [hLA] at hc
  cases hc
 have hnD : vA.ownBlock ≠ some D := by
  intro hk
  obtain ⟨cur, hc⟩ := row_block hrowA D hk
  rw [hDA] at hc
  cases hc
 have hbx5 : Boxed w5 b1 97 vA := (Boxed.alloc hbxA _).kept hg (Boxed.not_row hbxA (by decide) hrowA)
 have hset : ∀ b, b ≠ b1 → (w5.setCell ⟨b1, 0, none⟩ v').heap[b]? = w5.heap[b]? := fun b hb => Below.heap_setCell _ _ _ _ hb
 have hs5 : (w5.setCell ⟨b1, 0, none⟩ v').heap.size = w5.heap.size := by simp
 have hl5 : (w5.setCell ⟨b1, 0, none⟩ v').heap[l]? = some (.loop (rec .busy)) := (hset l (fun e => h1l e.symm)).trans ((hold l hlt hnl).trans hLA)
 have hrow5 : (w5.setCell ⟨b1, 0, none⟩ v').ownsRow w.heap.size 22 1 v' out'.length (csA ++ [sl]) := by
  rw [hout]
  exact hown'.kept (grownBy_setCell' w5 b1 v') (.inr (Boxed.not_row hbx5 (by decide) hown').symm)
 refine ⟨hl5, kept_fin hJ hlD h1l h2l (by rw [hs5]; omega) ?_ ?_ hl5 ((hset D (fun e => h1D e.symm)).trans ((hold D hltD hnD).trans hDA)) (hbx5.set v') hrow5 ?_ hel⟩
 ·intro b hb hn
  have e1 : b ≠ b1 := fun e => hn (by rw [e]; exact hJ.box)
  have e2 : b ≠ l := fun e => hn (by rw [e]; exact hJ.rd)
  exact (hset b e1).trans ((hold b hb (fun e => hn (hvA b e))).trans (hA b e2 e1))
 ·exact ((hBA.alloc hBA.size _).grown hg (by simp; have := hBA.size; omega) (fun k e => own_base hrowA k e)).setCell (p := ⟨b1, 0, none⟩) (hJ.base b1 hJ.box) _
 ·intro k hk
  rcases hat with h | h
  ·rw [h] at hk
   exact .inl (hvA k hk)
  ·rw [h] at hk
   injection hk with hk
   simp at hk
   exact .inr (by omega)
set_option maxHeartbeats 4000000 in
set_option maxRecDepth 100000 in
theorem wrongs_calls (A : Option Addr) (n c : Nat) (o lo hi : Int) (AW : Option Addr) (cw mb : Nat) (ws : List Int) (hl : ws.length ≤ 15) (ho : 0 ≤ o) (ho3 : o ≤ 3) (w : World) (hw : CI w AW ws) (hc : ws.length ≤ cw) (hmet : Met w mb (Col.metsTo ws o lo hi ws.length)) :
  Calls Tryz.prog 77 #[shV A n c o lo hi AW ws.length cw mb] w fun e w' =>
   ∃ v cs T, e = .returned v ∧ w'.ownsRow w.heap.size 22 1 v ((allLists ws o lo hi).foldl Col.keep []).length cs ∧ Elems T w.heap.size w' cs ((allLists ws o lo hi).foldl Col.keep []) ∧ Below w.heap.size w w' := by
 refine (callsIn_wide (n := 3)).1 ?_
 refine callsIn_of_wp_marks Tryz.func77 rfl trivial ?_ rfl
 simp only [Tryz.ntmps77, List.size_toArray, List.length_cons, List.length_nil, Nat.reduceAdd, Nat.reduceSub, Array.replicate_succ, Array.replicate_zero, List.push_toArray, List.append_toArray, List.nil_append, List.cons_append]
 gi_wp2
 refine ⟨trivial, (callsIn_wide.2 (lists_calls _ _ _ _ _ _ _)).mono ?_⟩
 rintro e w1 ⟨rfl, rfl⟩
 gi_wp2
 refine world_three (G := fun W => Code.wpIn _ _ _ _ _ _ W) ?_
 intro w2 g0 g1 g2 hB2 hsz2
 refine range_own rfl (enters_of Tryz.func135 (by kernel_rfl) rfl) ?_
 intro fn W1 hL hD hB1 hsz
 rw [hsz2] at hL hD hB1 hsz ⊢
 obtain ⟨rec, hrec, hL⟩ : ∃ rec, rec = mkRec fn _ _ _ _ _ ∧ W1.heap[w.heap.size + 3 + 1]? = some (.loop (rec .ready)) := ⟨_, rfl, hL⟩
 have hB0 : Below w.heap.size w W1 := below_step hB2 (by rw [hsz2]; exact hB1)
 have hup : ∀ {b : Nat} {ob : Obj}, w2.heap[b]? = some ob → W1.heap[b]? = some ob := fun {b ob} h => (hB1.block b (by have := (Array.getElem?_eq_some_iff.1 h).1; omega)).trans h
 have hK0 : Kept w (w.heap.size + 3 + 1) (w.heap.size + 3) (w.heap.size + 1) (w.heap.size + 2) rec [] (fun b => b = w.heap.size + 1 ∨ b = w.heap.size + 3 ∨ b = w.heap.size + 3 + 1) W1 := by
  refine ⟨hB0, .inl rfl, .inr (.inr rfl), .inr (.inl rfl), ?_, ?_, ?_, hL, hD, .slice none 0 0, [], hup g1, World.ownsRow_nil _ _ _ _, fun k hk => (by cases hk), Elems.nil _ _ _⟩
  ·rintro b (h | h | h) <;> omega
  ·rintro (h | h | h) <;> omega
  ·rintro b (h | h | h) <;> omega
 have hlt : ∀ ad, AW = some ad → 0 < ws.length → ad.block < w.heap.size := hw.lt
 obtain ⟨es, clock, hm1, hm2⟩ := hmet
 have hmb : mb < w.heap.size := (Array.getElem?_eq_some_iff.1 hm1).1
 have hmet1 : Met W1 mb (Col.metsTo ws o lo hi ws.length) := Met.below ⟨es, clock, hm1, hm2⟩ hB0
 have hw1 : Free (fun b => b = w.heap.size + 1 ∨ b = w.heap.size + 3 ∨ b = w.heap.size + 3 + 1) W1 AW cw ws := ⟨hw.below hB0, hc, fun ad e hn h => by have := hlt ad e hn; omega⟩
 refine (lists1_in (w.heap.size + 3 + 1) (w.heap.size + 2) A n c o lo hi AW cw mb ws hl ho ho3 (Kept w (w.heap.size + 3 + 1) (w.heap.size + 3) (w.heap.size + 1) (w.heap.size + 2) rec) w.heap.size ?round ?below (fun out T W h => h.lt) (fun out T W h => h.below.size) _ [] _ W1 hK0 (by simp) (hup g2) hmet1 hw1 (by omega) (by omega)).mono ?_
 case below =>
  intro out T W W' h hb
  obtain ⟨v, cs, h1, h2, h3, h4⟩ := h.row
  have up : ∀ {b : Nat} {ob : Obj}, W.heap[b]? = some ob → W'.heap[b]? = some ob := fun {b ob} h => (hb.block b (Array.getElem?_eq_some_iff.1 h).1).trans h
  refine ⟨below_step h.below hb, h.box, h.rd, h.dd, fun b hb2 => Nat.lt_of_lt_of_le (h.lt b hb2) hb.size, h.ne, h.base, up h.lp, up h.dfr, v, cs, up h1, row_kept h2 (fun k hk => hb.block k (h.lt k (h3 k hk))), h3, h4.step (Step.below hb)⟩
 case round =>
  intro m out T W A' c' now hJ hM h20 hcount
  have hJ' := hJ
  obtain ⟨hbelow, hbox, hrd, hdd, hTlt, hne, hbase, hlp, hdfr, v, cs, hbx, hrow, hv, hel⟩ := hJ'
  rw [hrec] at hlp
  refine round_own (R := fun W' => ∃ T', Kept w (w.heap.size + 3 + 1) (w.heap.size + 3) (w.heap.size + 1) (w.heap.size + 2) rec (Col.keep out now) T' W' ∧ Step T T' W W') { tmps := #[shV A n c o lo hi AW ws.length cw mb, .pointer (some ⟨w.heap.size, 0, none⟩), .slice none 0 0, .pointer (some ⟨w.heap.size + 1, 0, none⟩), .slice A' now.length c', shV A n c o lo hi AW ws.length cw mb, .func (.func 135) #[] #[.pointer (some ⟨w.heap.size + 1 + 1, 0, none⟩)], .slice A' now.length c', undef, undef, undef, undef, undef, undef, undef, undef, undef, undef, undef, undef, undef, undef, undef, undef, undef, undef, undef, undef, undef, undef, undef, undef, undef, undef, undef, undef, undef], defers := [] } hlp rfl ?_ ?_
  ·intro K hK
   gi_wp2
   exact hK
  ·obtain ⟨Wb, hWb⟩ : ∃ Wb, W.putObj (w.heap.size + 3 + 1) (.loop (rec .busy)) = Wb := ⟨_, rfl⟩
   have hWb' := hWb
   rw [hrec] at hWb'
   rw [hWb', ← hrec]
   clear hWb'
   obtain ⟨i0, hi0, hz0, hz1, hz2⟩ := info_parts info_row
   have hsz0 := hTlt _ hrd
   have hoth : ∀ b, b ≠ w.heap.size + 3 + 1 → Wb.heap[b]? = W.heap[b]? := fun b hb => by rw [← hWb]; exact World.putObj_heap_other hb
   have hsb : Wb.heap.size = W.heap.size := by rw [← hWb]; simp
   have hBb : Below w.heap.size w Wb := by rw [← hWb]; exact hbelow.grown (grownBy_putObj' W _ _) hbelow.size (fun k e => by cases e; omega)
   have hlpb : Wb.heap[w.heap.size + 3 + 1]? = some (.loop (rec .busy)) := by rw [← hWb]; exact World.putObj_heap_same hsz0
   have hdfb : Wb.heap[w.heap.size + 3]? = some (.deferred (some [])) := (hoth _ (by omega)).trans hdfr
   have hbxb : Boxed Wb (w.heap.size + 1) 97 v := (hoth _ (by omega)).trans hbx
   have hrowb : Wb.ownsRow w.heap.size 22 1 v out.length cs := row_kept hrow (fun k hk => hoth k (fun e => by
    obtain ⟨cur, hc⟩ := row_block hrow k hk
    rw [e, hlp] at hc
    cases hc))
   have hc1 := hbxb.cell
   have hf1 := hbxb.frozen
   have HSB := Lib.hid hsb
   have HOTH := Lib.hid hoth
   have HBB := Aside0.mk hBb
   have HLP := Aside0.mk hlpb
   have HDF := Aside0.mk hdfb
   have HKJ := Aside0.mk hJ
   have HEL := Aside0.mk hel
   have HM := Aside0.mk hM
   have HV := Lib.hid hv
   have hbs : w.heap.size ≤ Wb.heap.size := hBb.size
   clear hsb hoth hBb hlpb hdfb hJ hel hM hv hWb hbelow hbox hrd hdd hTlt hne hbase hlp hdfr hbx hrow g0 g1 g2 hup hK0 hm1 hm2 hmet1 hw1 hlt hw hL hD hB1 hB2 hB0
   cases out with
   | nil =>
    obtain ⟨Av, cv, rfl⟩ := row_form hrowb
    rw [keep_nil]
    rw [List.length_nil] at hc1 hbxb hrowb
    gi_wp2_with (gi_at_builtin; refine wpListIn_append_own_at _ rfl _ _ 97 rfl w.heap.size 22 i0 (.slice none 0 0) 1 24 Tryz.underlying97 hi0 hz0 hz1 hz2 rfl (by decide) _ 0 cs rfl (World.ownsRow.alloc hrowb _) ⟨Wb.heap.size, 0, none⟩ 1 1 [.slice A' now.length c'] rfl rfl (cell_one_new _ _ _) (by simp [Value.oneCell']) (by unfold maxLen; omega) (by omega) (by simp; omega) ?_; intro v' w5 hown' hgrow _ hat; obtain ⟨g', cap', rfl⟩ := ownsRow_succ hown'; have hbx5 := Boxed.kept (Boxed.alloc hbxb _) hgrow (Boxed.not_row hbxb (by decide) hrowb); have hc5 := hbx5.cell; have hf5 := hbx5.frozen)
    have hfin := app_fin HKJ.out (by omega) (by omega) (by omega) (by omega) hbxb hrowb HV.out (fun b h1 h2 => HOTH.out b h1) HSB.out HBB.out HLP.out hown' hgrow hat rfl (Elems.snoc HEL.out (by have := hrowb.1; simpa using this) HM.out)
    rw [hrec] at hfin
    exact hfin
   | cons y out =>
    rw [List.length_cons] at hrowb hcount
    obtain ⟨A0, c0, hcs0, hM0⟩ := HEL.out 0 y rfl
    obtain ⟨g, cap, rfl⟩ := ownsRow_succ hrowb
    have hcg : Wb.cell? ⟨g, 0, none⟩ = some (.slice A0 y.length c0) := by
     have := hrowb.cells (g := g) rfl 0 _ hcs0
     rwa [Addr.add_zero'] at this
    have hcsl : cs.length = out.length + 1 := by have := hrowb.1; simpa using this
    have he0 : (((out.length : Int) + 1) == 0) = false := by rw [beq_eq_false_iff_ne]; omega
    clear hcs0 hM0
    rcases Nat.lt_trichotomy now.length y.length with hlt | heq | hgt
    ·rw [keep_less hlt]
     have hbxn := hbxb.set (.slice none 0 0)
     have hcn := hbxn.cell
     have hfn := hbxn.frozen
     gi_wp2_with (gi_at_builtin; refine wpListIn_append_own_at _ rfl _ _ 97 rfl w.heap.size 22 i0 (.slice none 0 0) 1 24 Tryz.underlying97 hi0 hz0 hz1 hz2 rfl (by decide) _ 0 [] rfl (World.ownsRow_nil _ _ _ _) ⟨Wb.heap.size, 0, none⟩ 1 1 [.slice A' now.length c'] rfl rfl (fun j u hj => by have h := cell_one_new (Wb.setCell ⟨w.heap.size + 1, 0, none⟩ (.slice none 0 0)) _ 22 j u hj; rwa [World.size_setCell] at h) (by simp [Value.oneCell']) (by unfold maxLen; omega) (by omega) (by simp; omega) ?_; intro v' w5 hown' hgrow _ hat; obtain ⟨g', cap', rfl⟩ := ownsRow_succ hown'; have hbx5 := Boxed.kept (Boxed.alloc (hbxb.set (.slice none 0 0)) _) hgrow (fun h => by cases h); have hc5 := hbx5.cell; have hf5 := hbx5.frozen)
     have hfin := app_fin HKJ.out (by omega) (by omega) (by omega) (by omega) hbxn (World.ownsRow_nil _ _ _ _) (fun k h => by cases h) (fun b h1 h2 => (Below.heap_setCell _ _ _ _ h2).trans (HOTH.out b h1)) (by have := HSB.out; simpa using this) (HBB.out.setCell (p := ⟨w.heap.size + 1, 0, none⟩) (by simp) _) ((Below.heap_setCell _ _ _ _ (by simp)).trans HLP.out) hown' hgrow hat (out' := [now]) rfl (Elems.snoc (Elems.nil _ _ _) rfl HM.out)
     rw [hrec] at hfin
     exact hfin
    ·rw [keep_same heq]
     have he1 : ((now.length : Int) == (y.length : Int)) = true := by rw [beq_iff_eq]; omega
     have he2 : ((now.length : Int) < (y.length : Int)) = False := by simp; omega
     clear heq
     gi_wp2_with (gi_at_builtin; refine wpListIn_append_own_at _ rfl _ _ 97 rfl w.heap.size 22 i0 (.slice none 0 0) 1 24 Tryz.underlying97 hi0 hz0 hz1 hz2 rfl (by decide) _ (out.length + 1) cs rfl (World.ownsRow.alloc hrowb _) ⟨Wb.heap.size, 0, none⟩ 1 1 [.slice A' now.length c'] rfl rfl (cell_one_new _ _ _) (by simp [Value.oneCell']) (by unfold maxLen; omega) (by omega) (by simp; omega) ?_; intro v' w5 hown' hgrow _ hat; obtain ⟨g', cap', rfl⟩ := ownsRow_succ hown'; have hbx5 := Boxed.kept (Boxed.alloc hbxb _) hgrow (Boxed.not_row hbxb (by decide) hrowb); have hc5 := hbx5.cell; have hf5 := hbx5.frozen)
     have hfin := app_fin HKJ.out (by omega) (by omega) (by omega) (by omega) hbxb hrowb HV.out (fun b h1 h2 => HOTH.out b h1) HSB.out HBB.out HLP.out hown' hgrow hat (out' := y :: out ++ [now]) (by simp) (Elems.snoc HEL.out (by simpa using hcsl) HM.out)
     rw [hrec] at hfin
     exact hfin
    ·rw [keep_more hgt]
     have he1 : ((now.length : Int) == (y.length : Int)) = false := by rw [beq_eq_false_iff_ne]; omega
     have he2 : ((now.length : Int) < (y.length : Int)) = False := by simp; omega
     gi_wp2
     have hfin := kept_fin HKJ.out (by omega) (by omega) (by omega) (Nat.le_of_eq HSB.out.symm) (fun b hb hn => HOTH.out b (fun e => hn (by rw [e]; exact HKJ.out.rd))) HBB.out HLP.out HDF.out hbxb (out' := y :: out) (by rw [List.length_cons]; exact hrowb) (fun k hk => .inl (HV.out k hk)) HEL.out
     have hlp := HLP.out
     rw [hrec] at hfin hlp
     exact ⟨hlp, hfin⟩
 ·rintro e W2 ⟨⟨v, rfl⟩, T', hJ, hst⟩
  obtain ⟨hbelow, hbox, hrd, hdd, hTlt, hne, hbase, hlp, hdfr, v, cs, hbx, hrow, hv, hel⟩ := hJ
  refine ⟨⟨_, rfl⟩, by rw [hrec] at hlp; exact hlp, ?_⟩
  generalize mkRec fn _ _ _ _ _ LoopState.exhausted = rex
  obtain ⟨X, hX⟩ : ∃ X, W2.putObj (w.heap.size + 3 + 1) (.loop rex) = X := ⟨_, rfl⟩
  rw [hX]
  have hoth : ∀ b, b ≠ w.heap.size + 3 + 1 → X.heap[b]? = W2.heap[b]? := fun b hb => by rw [← hX]; exact World.putObj_heap_other hb
  have hlD : w.heap.size + 3 + 1 < W2.heap.size := hTlt _ hrd
  have hbX : Below w.heap.size w X := by rw [← hX]; exact hbelow.grown (grownBy_putObj' W2 _ _) hbelow.size (fun k e => by cases e; omega)
  have hK : X.heap[w.heap.size + 3]? = some (.deferred (some [])) := (hoth _ (by omega)).trans hdfr
  have hbxX : Boxed X (w.heap.size + 1) 97 v := (hoth _ (by omega)).trans hbx
  have hc1 := hbxX.cell
  have hne1 : ∀ k, v.ownBlock = some k → k ≠ w.heap.size + 3 + 1 := fun k hk e => by
   obtain ⟨cur, hcur⟩ := row_block hrow k hk
   rw [e, hlp] at hcur
   cases hcur
  have hne2 : ∀ k, v.ownBlock = some k → k ≠ w.heap.size + 3 := fun k hk e => by
   obtain ⟨cur, hcur⟩ := row_block hrow k hk
   rw [e, hdfr] at hcur
   cases hcur
  have hst2 : Step T' T' W2 (X.putObj (w.heap.size + 3) (.deferred none)) := ⟨by rw [← hX]; simp, fun b _ => Iff.rfl, fun b hb hn => (World.putObj_heap_other (fun e => hn (by rw [e]; exact hdd))).trans (hoth b (fun e => hn (by rw [e]; exact hrd)))⟩
  have hfin : (X.putObj (w.heap.size + 3) (.deferred none)).ownsRow w.heap.size 22 1 v ((allLists ws o lo hi).foldl Col.keep []).length cs := row_kept hrow (fun k hk => (World.putObj_heap_other (hne2 k hk)).trans (hoth k (hne1 k hk)))
  have hfe := hel.step hst2
  have hfb : Below w.heap.size w (X.putObj (w.heap.size + 3) (.deferred none)) := hbX.grown (grownBy_putObj' X _ _) hbX.size (fun k e => by cases e; omega)
  obtain ⟨Av, cv, rfl⟩ := row_form hrow
  gi_wp2
  refine ⟨by simp, .inl ⟨_, _, rfl, run_takeDeferred hK, ?_⟩⟩
  exact ⟨_, results_tmp (t := 2) rfl _ _ _, _, rfl, _, hfin, ⟨_, hfe⟩, hfb⟩
end Go.Proofs.YtohlmoppcmjknaaGreatDoor.X
end
section
namespace Go.Proofs.YtohlmoppcmjknaaGreatDoor.X
theorem lists_ne {J : List Int} {o : Int} (ho : 0 ≤ o) : ∀ (k : Nat) (now : List Int), uncov J o now < k → Col.lists k J o now ≠ [] := by
 intro k
 induction k with
 | zero => intro now h; omega
 | succ k ih =>
  intro now h
  show (match Col.opens J o now with | none => [now] | some i => (List.range (o.toNat + 1)).flatMap fun j : Nat => Col.lists k J o (now ++ [i + (j : Int)])) ≠ []
  cases hop : Col.opens J o now with
  | none => simp
  | some i =>
   have h1 := uncov_less (r := i + ((0 : Nat) : Int)) hop (by simp [Col.inr]; omega)
   have h2 := ih (now ++ [i + ((0 : Nat) : Int)]) (by omega)
   intro he
   rw [List.flatMap_eq_nil_iff] at he
   exact h2 (he 0 (by simp))
theorem keep_ne (out : List (List Int)) (l : List Int) : Col.keep out l ≠ [] := by
 unfold Col.keep
 simp only
 split
 ·simp
 ·split
  ·simp
  ·rename_i h1 h2
   intro e
   rw [e] at h2
   exact h2 (.inl rfl)
theorem keeps_ne : ∀ (ls out : List (List Int)), (ls ≠ [] ∨ out ≠ []) → ls.foldl Col.keep out ≠ [] := by
 intro ls
 induction ls with
 | nil => intro out h; rcases h with h | h; exact absurd rfl h; exact h
 | cons l ls ih => intro out _; exact ih _ (.inr (keep_ne out l))
theorem wrongs_ne (ws : List Int) {o : Int} (ho : 0 ≤ o) (lo hi : Int) : (allLists ws o lo hi).foldl Col.keep [] ≠ [] :=
 keeps_ne _ _ (.inl (lists_ne ho _ _ (by
  unfold uncov
  have := List.length_filter_le (fun i => !([] : List Int).any fun r => Col.inr r i (i + o)) (Col.jumping ws lo hi)
  omega)))
theorem wrongs_count (ws : List Int) {o : Int} (ho : o ≤ 3) (lo hi : Int) (hl : ws.length ≤ 15) : ((allLists ws o lo hi).foldl Col.keep []).length ≤ 4294967296 := by
 have h1 := keeps_length (allLists ws o lo hi) []
 have h2 : (allLists ws o lo hi).length ≤ 4 ^ ((Col.jumping ws lo hi).length + 1) := lists_length ho _ _ _
 have h3 : 4 ^ ((Col.jumping ws lo hi).length + 1) ≤ 4 ^ 16 := Nat.pow_le_pow_right (by decide) (by have := jumping_length_le ws lo hi; omega)
 have h4 : 4 ^ 16 = 4294967296 := by decide
 simp only [List.length_nil] at h1
 omega
end Go.Proofs.YtohlmoppcmjknaaGreatDoor.X
end
section
namespace Go.Proofs.YtohlmoppcmjknaaGreatDoor.X
open Go.RowKit Go.Proofs.YtohlmoppcmjknaaGreatDoorW.PrintWords Go.Proofs.YtohlmoppcmjknaaGreatDoorW.PrintLast Go.Proofs.YtohlmoppcmjknaaGreatDoorW.PrintMore
open Go.Proofs.YtohlmoppcmjknaaGreatDoor.Col (nth)
set_option linter.unusedVariables false
set_option linter.unusedSimpArgs false
set_option maxHeartbeats 1000000 in
set_option maxRecDepth 100000 in
theorem index_calls (A : Option Addr) (c : Nat) (l : List Int) (r : Int) (w : World) (hr : CI w A l) :
  Calls Tryz.prog 110 #[.slice A l.length c, .int .i64 r] w fun e w' => e = .returned (.int .i64 (idx (fun x => r == x) l)) ∧ Below w.heap.size w w' := by
 have hlen := hr.len
 have HR := Aside0.mk hr
 clear hr
 go_enter Tryz.func110, Tryz.ntmps110
 go_wp2
 go_loopw [8] (fun i wr => ∃ k : Nat, k ≤ l.length ∧ i = .int .i64 (k : Int) ∧ Aside0 (Below w.heap.size w wr) ∧ Aside0 (∀ j, j < k → (r == nth l j) = false)) (fun i _ => l.length - (intOf i).toNat)
 case atStart => exact ⟨0, by omega, rfl, ⟨Below.refl _ _⟩, ⟨fun j hj => by omega⟩⟩
 case round =>
  obtain ⟨k, hk, rfl, HB, HN⟩ := hrel
  by_cases hlt : k < l.length
  ·obtain ⟨ad, rfl, hc⟩ := CI.at_ (HR.out.below HB.out) k hlt
   cases hx : (r == nth l k) with
   | true =>
    have HX := Lib.hid hx
    go_wp2
    go_ret
    exact ⟨ret_int (by rw [idx_at hlt HN.out HX.out]), HB.out⟩
   | false =>
    have HX := Lib.hid hx
    go_wp2
    go_roundw
    case rel => exact ⟨k + 1, by omega, by go_num, HB, ⟨fun j hj => by
     by_cases e : j = k
     ·rw [e]; exact HX.out
     ·exact HN.out j (by omega)⟩⟩
    case measure => simp [intOf]; omega
  ·go_wp2
   go_ret
   exact ⟨ret_int (by rw [idx_none (fun j hj => HN.out j (by omega))]), HB.out⟩
theorem contains_calls (A : Option Addr) (c : Nat) (l : List Int) (r : Int) (w : World) (hr : CI w A l) :
  Calls Tryz.prog 78 #[.slice A l.length c, .int .i64 r] w fun e w' => e = .returned (.bool (l.contains r)) ∧ Below w.heap.size w w' := by
 have h := index_calls A c l r w hr
 have ha := idx_any (fun x => r == x) l
 have he : l.any (fun x => r == x) = l.contains r := by rw [List.contains_eq_any_beq]
 rw [he] at ha
 generalize idx (fun x => r == x) l = i at h ha
 generalize l.contains r = b at ha
 subst ha
 have H := Lib.hid h
 clear h hr he
 go_enter Tryz.func78, Tryz.ntmps78
 go_wp2_with fail
 refine H.out.mono ?_
 rintro e W' ⟨rfl, hb⟩
 have HB := Aside0.mk hb
 clear hb H
 go_wp2
 go_ret
 exact ⟨rfl, HB.out⟩
theorem info_word : (Tryz.prog.info? 53).map (fun i => (i.zero, i.size, i.bytes)) = some (some (.int .i64 0), 1, 8) := by kernel_rfl
theorem WordR.toR {w : World} {base : Nat} {v : Value} {l : List Int} (h : w.ownsRow base 53 1 v l.length (nums .i64 l)) : Kd.R (Kd.int .i64) 53 w base (fun _ => True) v l := Kd.R_of_own (h1 := fun _ => rfl) h (fun _ _ => trivial)
def many (ls : List (List Int)) (r : Int) (j : Nat) : Nat := ((ls.take j).filter fun l => l.contains r).length
theorem many_yes {ls : List (List Int)} {r : Int} {j : Nat} {x : List Int} (hx : ls[j]? = some x) (h : x.contains r = true) : many ls r (j + 1) = many ls r j + 1 := by
 obtain ⟨hj, e⟩ := List.getElem?_eq_some_iff.1 hx
 unfold many
 rw [List.take_succ_eq_append_getElem hj, List.filter_append, List.length_append, e]
 simp only [List.filter_cons, h, if_true, List.filter_nil, List.length_cons, List.length_nil]
theorem many_no {ls : List (List Int)} {r : Int} {j : Nat} {x : List Int} (hx : ls[j]? = some x) (h : x.contains r = false) : many ls r (j + 1) = many ls r j := by
 obtain ⟨hj, e⟩ := List.getElem?_eq_some_iff.1 hx
 unfold many
 rw [List.take_succ_eq_append_getElem hj, List.filter_append, List.length_append, e]
 simp only [List.filter_cons, h, List.filter_nil]
 simp
theorem many_le (ls : List (List Int)) (r : Int) (j : Nat) : many ls r j ≤ ls.length := Nat.le_trans (List.length_filter_le _ _) (by rw [List.length_take]; omega)
theorem word_eq (ls : List (List Int)) (r : Int) : Col.word ls r = if many ls r ls.length = 0 then 1 else if many ls r ls.length = ls.length then 3 else 2 := by
 unfold Col.word many
 rw [List.take_length]
def wordsTo (ls : List (List Int)) (k : Nat) : List Int := (List.range k).map fun n : Nat => Col.word ls (n : Int)
theorem wordsTo_succ (ls : List (List Int)) (k : Nat) : wordsTo ls (k + 1) = wordsTo ls k ++ [Col.word ls (k : Int)] := by simp [wordsTo, List.range_succ]
end Go.Proofs.YtohlmoppcmjknaaGreatDoor.X
namespace Go.Proofs.YtohlmoppcmjknaaGreatDoor.P
open Go.RowKit Go.Proofs.YtohlmoppcmjknaaGreatDoorW.PrintWords Go.Proofs.YtohlmoppcmjknaaGreatDoorW.PrintLast Go.Proofs.YtohlmoppcmjknaaGreatDoorW.PrintMore Go.Proofs.YtohlmoppcmjknaaGreatDoor.X
set_option linter.unusedVariables false
set_option linter.unusedSimpArgs false
theorem wrongs_eq (l : List Int) (o lo hi : Int) : Col.wrongs l o lo hi = (allLists (Col.wins l o) o lo hi).foldl Col.keep [] := rfl
set_option maxHeartbeats 2000000 in
set_option maxRecDepth 100000 in
theorem column_Wrong.calls (A0_0 : Option Addr) (c0_0 : Nat) (l0_0 : List Int) (a0_1 : Int) (a0_2 : Int) (a0_3 : Int) (r1 : List Int) (r2 : Int) (w : World) (hr0_0 : Kd.C (Kd.int .i64) w A0_0 l0_0.length l0_0) (hc0_0 : l0_0.length ≤ c0_0) (h : column_Wrong.f l0_0 a0_1 a0_2 a0_3 = some (r1, r2)) :
  Calls Tryz.prog 28 #[.agg #[.slice A0_0 l0_0.length c0_0, .int .i64 a0_1, .int .i64 a0_2, .int .i64 a0_3]] w fun e w' => ∃ v0_ : Value, e = .returned (.tuple #[v0_, .int .i64 r2]) ∧ Kd.R (Kd.int .i64) 3 w' w.heap.size (fun _ => True) v0_ r1 ∧ Below w.heap.size w w' := by
 have hr : Col.fWrong l0_0 a0_1 a0_2 a0_3 = some (r1, r2) := h
 unfold Col.fWrong at hr
 have HS := Lib.hid (fun W (hb : Below w.heap.size w W) => column_isSheet.calls A0_0 c0_0 l0_0 a0_1 a0_2 a0_3 (Col.isSheet l0_0 a0_1 a0_2 a0_3) W (CI.below hr0_0 hb) hc0_0 rfl)
 cases hs : Col.isSheet l0_0 a0_1 a0_2 a0_3 with
 | false =>
  rw [hs] at HS hr
  obtain ⟨rfl, rfl⟩ := Prod.mk.inj (Option.some.inj hr)
  clear hr h hs hr0_0 hc0_0
  go_enter Tryz.func28, Tryz.ntmps28
  go_wp2_with fail
  refine (HS.out _ ((Below.refl _ _).alloc (Nat.le_refl _) _)).mono ?_
  rintro e w' ⟨rfl, hb⟩
  have HB := Aside0.mk (box_of hb)
  clear hb HS
  go_wp2
  go_ret2
  exact ⟨_, rfl, Kd.R_nil _ _ _ _ _, below_box HB.out⟩
 | true =>
  have hsm := small_of_sheet hs
  obtain ⟨l1, l15, ho1, ho3, _, _, _, _, _⟩ := small_parts hsm
  rw [hs] at HS hr
  obtain ⟨rfl, rfl⟩ := Prod.mk.inj (Option.some.inj hr)
  have HO := Lib.hid (fun W (hb : Below w.heap.size w W) => sheetOf_calls A0_0 c0_0 l0_0 a0_1 a0_2 a0_3 W (CI.below hr0_0 hb) hc0_0 hsm)
  have hwl : (Col.wins l0_0 a0_1).length ≤ 15 := Nat.le_trans (wins_length_le _ _) l15
  have HW := Lib.hid (fun W AW cw b hw hc hm => wrongs_calls A0_0 l0_0.length c0_0 a0_1 a0_2 a0_3 AW cw b (Col.wins l0_0 a0_1) hwl (by omega) ho3 W hw hc hm)
  have hne := wrongs_ne (Col.wins l0_0 a0_1) (o := a0_1) (by omega) a0_2 a0_3
  rw [wrongs_eq]
  clear hr h hs hr0_0 hc0_0 hsm l1 l15 hwl
  generalize (allLists (Col.wins l0_0 a0_1) a0_1 a0_2 a0_3).foldl Col.keep [] = out at *
  generalize Col.wins l0_0 a0_1 = ws at *
  go_enter Tryz.func28, Tryz.ntmps28
  go_wp2_with fail
  refine (HS.out _ ((Below.refl _ _).alloc (Nat.le_refl _) _)).mono ?_
  rintro e w' ⟨rfl, hb⟩
  have HB := Aside0.mk (box_of hb)
  have hc0 := box_cell HB.out 0 rfl
  have hc1 := box_cell HB.out 1 rfl
  have hc2 := box_cell HB.out 2 rfl
  have hc3 := box_cell HB.out 3 rfl
  clear hb HS
  go_wp2_with fail
  refine (HO.out _ (below_box HB.out)).mono ?_
  rintro e w2 ⟨AW, cw, b, rfl, hci, hmet, hcw, hb⟩
  have HB2 := Aside0.mk (below_step (below_box HB.out) hb)
  have HW2 := Lib.hid (HW.out w2 AW cw b hci hcw hmet)
  clear HO HB hb hci hmet hcw HW hc0 hc1 hc2 hc3
  go_wp2_with fail
  refine HW2.out.mono ?_
  rintro e w3 ⟨v, cs, T, rfl, hrow, hel, hb⟩
  have HB3 := Aside0.mk (below_step HB2.out hb)
  have hbase := HB2.out.size
  cases out with
  | nil => exact absurd rfl hne
  | cons x xs =>
   rw [List.length_cons] at hrow
   obtain ⟨g, cap, rfl⟩ := ownsRow_succ hrow
   obtain ⟨A, c, hcs, hm⟩ := hel 0 x rfl
   have hc0 := hrow.cells (g := g) rfl 0 _ hcs
   rw [Addr.add_zero'] at hc0
   have HV := Aside0.mk (own_lower hm.own hbase)
   clear hel hrow hcs hm hb HW2 HB2 hne hbase
   go_wp2
   go_ret2
   exact ⟨_, rfl, OI.toR HV.out, HB3.out⟩
set_option maxHeartbeats 2000000 in
set_option maxRecDepth 100000 in
theorem column_Count.calls (A0_0 : Option Addr) (c0_0 : Nat) (l0_0 : List Int) (a0_1 : Int) (a0_2 : Int) (a0_3 : Int) (r1 : Int) (r2 : Int) (w : World) (hr0_0 : Kd.C (Kd.int .i64) w A0_0 l0_0.length l0_0) (hc0_0 : l0_0.length ≤ c0_0) (h : column_Count.f l0_0 a0_1 a0_2 a0_3 = some (r1, r2)) :
  Calls Tryz.prog 29 #[.agg #[.slice A0_0 l0_0.length c0_0, .int .i64 a0_1, .int .i64 a0_2, .int .i64 a0_3]] w fun e w' => e = .returned (.tuple #[.int .i64 r1, .int .i64 r2]) ∧ Below w.heap.size w w' := by
 have hr : Col.fCount l0_0 a0_1 a0_2 a0_3 = some (r1, r2) := h
 unfold Col.fCount at hr
 have HS := Lib.hid (fun W (hb : Below w.heap.size w W) => column_isSheet.calls A0_0 c0_0 l0_0 a0_1 a0_2 a0_3 (Col.isSheet l0_0 a0_1 a0_2 a0_3) W (CI.below hr0_0 hb) hc0_0 rfl)
 cases hs : Col.isSheet l0_0 a0_1 a0_2 a0_3 with
 | false =>
  rw [hs] at HS hr
  obtain ⟨rfl, rfl⟩ := Prod.mk.inj (Option.some.inj hr)
  clear hr h hs hr0_0 hc0_0
  go_enter Tryz.func29, Tryz.ntmps29
  go_wp2_with fail
  refine (HS.out _ ((Below.refl _ _).alloc (Nat.le_refl _) _)).mono ?_
  rintro e w' ⟨rfl, hb⟩
  have HB := Aside0.mk (box_of hb)
  clear hb HS
  go_wp2
  go_ret2
  exact ⟨rfl, below_box HB.out⟩
 | true =>
  have hsm := small_of_sheet hs
  obtain ⟨l1, l15, ho1, ho3, _, _, _, _, _⟩ := small_parts hsm
  rw [hs] at HS hr
  obtain ⟨rfl, rfl⟩ := Prod.mk.inj (Option.some.inj hr)
  have HO := Lib.hid (fun W (hb : Below w.heap.size w W) => sheetOf_calls A0_0 c0_0 l0_0 a0_1 a0_2 a0_3 W (CI.below hr0_0 hb) hc0_0 hsm)
  have hwl : (Col.wins l0_0 a0_1).length ≤ 15 := Nat.le_trans (wins_length_le _ _) l15
  have HW := Lib.hid (fun W AW cw b hw hc hm => wrongs_calls A0_0 l0_0.length c0_0 a0_1 a0_2 a0_3 AW cw b (Col.wins l0_0 a0_1) hwl (by omega) ho3 W hw hc hm)
  have hne := wrongs_ne (Col.wins l0_0 a0_1) (o := a0_1) (by omega) a0_2 a0_3
  rw [wrongs_eq]
  clear hr h hs hr0_0 hc0_0 hsm l1 l15 hwl
  generalize (allLists (Col.wins l0_0 a0_1) a0_1 a0_2 a0_3).foldl Col.keep [] = out at *
  generalize Col.wins l0_0 a0_1 = ws at *
  go_enter Tryz.func29, Tryz.ntmps29
  go_wp2_with fail
  refine (HS.out _ ((Below.refl _ _).alloc (Nat.le_refl _) _)).mono ?_
  rintro e w' ⟨rfl, hb⟩
  have HB := Aside0.mk (box_of hb)
  have hc0 := box_cell HB.out 0 rfl
  have hc1 := box_cell HB.out 1 rfl
  have hc2 := box_cell HB.out 2 rfl
  have hc3 := box_cell HB.out 3 rfl
  clear hb HS
  go_wp2_with fail
  refine (HO.out _ (below_box HB.out)).mono ?_
  rintro e w2 ⟨AW, cw, b, rfl, hci, hmet, hcw, hb⟩
  have HB2 := Aside0.mk (below_step (below_box HB.out) hb)
  have HW2 := Lib.hid (HW.out w2 AW cw b hci hcw hmet)
  clear HO HB hb hci hmet hcw HW hc0 hc1 hc2 hc3
  go_wp2_with fail
  refine HW2.out.mono ?_
  rintro e w3 ⟨v, cs, T, rfl, hrow, hel, hb⟩
  have HB3 := Aside0.mk (below_step HB2.out hb)
  have hbase := HB2.out.size
  obtain ⟨Av, cv, rfl⟩ := row_form hrow
  clear hel hrow hb HW2 HB2 hne hbase
  go_wp2
  go_ret2
  exact ⟨rfl, HB3.out⟩
set_option maxHeartbeats 4000000 in
set_option maxRecDepth 100000 in
theorem column_Suspect.calls (A0_0 : Option Addr) (c0_0 : Nat) (l0_0 : List Int) (a0_1 : Int) (a0_2 : Int) (a0_3 : Int) (r1 : List Int) (r2 : Int) (w : World) (hr0_0 : Kd.C (Kd.int .i64) w A0_0 l0_0.length l0_0) (hc0_0 : l0_0.length ≤ c0_0) (h : column_Suspect.f l0_0 a0_1 a0_2 a0_3 = some (r1, r2)) :
  Calls Tryz.prog 30 #[.agg #[.slice A0_0 l0_0.length c0_0, .int .i64 a0_1, .int .i64 a0_2, .int .i64 a0_3]] w fun e w' => ∃ v0_ : Value, e = .returned (.tuple #[v0_, .int .i64 r2]) ∧ Kd.R (Kd.int .i64) 53 w' w.heap.size (fun _ => True) v0_ r1 ∧ Below w.heap.size w w' := by
 have hr : Col.fSuspect l0_0 a0_1 a0_2 a0_3 = some (r1, r2) := h
 unfold Col.fSuspect at hr
 have HS := Lib.hid (fun W (hb : Below w.heap.size w W) => column_isSheet.calls A0_0 c0_0 l0_0 a0_1 a0_2 a0_3 (Col.isSheet l0_0 a0_1 a0_2 a0_3) W (CI.below hr0_0 hb) hc0_0 rfl)
 cases hs : Col.isSheet l0_0 a0_1 a0_2 a0_3 with
 | false =>
  rw [hs] at HS hr
  obtain ⟨rfl, rfl⟩ := Prod.mk.inj (Option.some.inj hr)
  clear hr h hs hr0_0 hc0_0
  go_enter Tryz.func30, Tryz.ntmps30
  go_wp2_with fail
  refine (HS.out _ ((Below.refl _ _).alloc (Nat.le_refl _) _)).mono ?_
  rintro e w' ⟨rfl, hb⟩
  have HB := Aside0.mk (box_of hb)
  clear hb HS
  go_wp2
  go_ret2
  exact ⟨_, rfl, Kd.R_nil _ _ _ _ _, below_box HB.out⟩
 | true =>
  have hsm := small_of_sheet hs
  obtain ⟨l1, l15, ho1, ho3, _, _, _, _, _⟩ := small_parts hsm
  rw [hs] at HS hr
  obtain ⟨rfl, rfl⟩ := Prod.mk.inj (Option.some.inj hr)
  have HO := Lib.hid (fun W (hb : Below w.heap.size w W) => sheetOf_calls A0_0 c0_0 l0_0 a0_1 a0_2 a0_3 W (CI.below hr0_0 hb) hc0_0 hsm)
  have hwl : (Col.wins l0_0 a0_1).length ≤ 15 := Nat.le_trans (wins_length_le _ _) l15
  have HW := Lib.hid (fun W AW cw b hw hc hm => wrongs_calls A0_0 l0_0.length c0_0 a0_1 a0_2 a0_3 AW cw b (Col.wins l0_0 a0_1) hwl (by omega) ho3 W hw hc hm)
  have hne := wrongs_ne (Col.wins l0_0 a0_1) (o := a0_1) (by omega) a0_2 a0_3
  rw [wrongs_eq]
  have hcnt := wrongs_count (Col.wins l0_0 a0_1) (o := a0_1) ho3 a0_2 a0_3 (by omega)
  have hrows : (Col.rows l0_0.length).map (Col.word ((allLists (Col.wins l0_0 a0_1) a0_1 a0_2 a0_3).foldl Col.keep [])) = wordsTo ((allLists (Col.wins l0_0 a0_1) a0_1 a0_2 a0_3).foldl Col.keep []) l0_0.length := by simp [Col.rows, wordsTo]
  rw [hrows]
  have hl15 := l15
  clear hr h hs hr0_0 hc0_0 hsm l1 l15 hwl hrows hne
  generalize (allLists (Col.wins l0_0 a0_1) a0_1 a0_2 a0_3).foldl Col.keep [] = out at *
  generalize Col.wins l0_0 a0_1 = ws at *
  go_enter Tryz.func30, Tryz.ntmps30
  go_wp2_with fail
  refine (HS.out _ ((Below.refl _ _).alloc (Nat.le_refl _) _)).mono ?_
  rintro e w' ⟨rfl, hb⟩
  have HB := Aside0.mk (box_of hb)
  have hc0 := box_cell HB.out 0 rfl
  have hc1 := box_cell HB.out 1 rfl
  have hc2 := box_cell HB.out 2 rfl
  have hc3 := box_cell HB.out 3 rfl
  clear hb HS
  go_wp2_with fail
  refine (HO.out _ (below_box HB.out)).mono ?_
  rintro e w2 ⟨AW, cw, b, rfl, hci, hmet, hcw, hb⟩
  have HB2 := Aside0.mk (below_thru2 HB.out hb)
  have HW2 := Lib.hid (HW.out w2 AW cw b hci hcw hmet)
  clear HO HB hb hci hmet hcw HW hc0 hc1 hc2 hc3
  go_wp2_with fail
  refine HW2.out.mono ?_
  rintro e w3 ⟨v, cs, T, rfl, hrow, hel, hb⟩
  have HB3 := Aside0.mk (below_thru2 HB2.out hb)
  obtain ⟨Av, cv, rfl⟩ := row_form hrow
  have HROW := Aside0.mk hrow
  have HEL := Aside0.mk hel
  have hsz3 : w.heap.size + 1 ≤ w3.heap.size := by have := HB3.out.size; simpa using this
  have hc0 := box_cell HB3.out 0 rfl
  clear hel hrow hb HW2 HB2
  go_wp2
  clear hc0
  go_loopw [5, 19] (fun v i wr => ∃ k : Nat, k ≤ l0_0.length ∧ i = .int .i64 (k : Int) ∧ Aside0 (wr.ownsRow w3.heap.size 53 1 v (wordsTo out k).length (nums .i64 (wordsTo out k))) ∧ Aside0 (Below w3.heap.size w3 wr)) (fun _ i _ => l0_0.length - (intOf i).toNat)
  case atStart => exact ⟨0, by omega, rfl, ⟨own_nil _ _ _ _⟩, ⟨Below.refl _ _⟩⟩
  case round =>
   obtain ⟨k, hk, rfl, HO5, HBr⟩ := hrel
   by_cases hlt : k < l0_0.length
   ·go_wp2
    go_loopw [7, 24] (fun m i wr' => ∃ j : Nat, j ≤ out.length ∧ i = .int .i64 (j : Int) ∧ m = .int .i64 (many out (k : Int) j : Int) ∧ Aside0 (Below wr.heap.size wr wr')) (fun _ i _ => out.length - (intOf i).toNat)
    case atStart => exact ⟨0, by omega, rfl, rfl, ⟨Below.refl _ _⟩⟩
    case round =>
     obtain ⟨j, hj, rfl, rfl, HBi⟩ := hrel
     have hml := many_le out (k : Int) j
     have hBa : Below w3.heap.size w3 _ := below_step HBr.out HBi.out
     by_cases hjt : j < out.length
     ·obtain ⟨x, hx⟩ : ∃ x, out[j]? = some x := ⟨_, List.getElem?_eq_getElem hjt⟩
      obtain ⟨A, c, hcs, hm⟩ := HEL.out j x hx
      obtain ⟨g, cap, hge, hgb, hgl⟩ := World.ownsRow.form HROW.out (by omega)
      injection hge with hge1 _ hge2
      subst hge1
      subst hge2
      have hcj0 := HROW.out.cells (g := g) rfl j _ hcs
      rw [Addr.add_lit, Nat.zero_add] at hcj0
      have hcj := (Below.cell hBa (p := ⟨g, j, none⟩) hgl).trans hcj0
      have HC := Lib.hid (contains_calls A c x (k : Int) _ (hm.fr.ci.below hBa))
      cases hxc : x.contains (k : Int) with
      | true =>
       rw [hxc] at HC
       have HX := Lib.hid (many_yes hx hxc)
       clear hxc hcs hm hcj0 hx hBa
       go_wp2_with fail
       refine HC.out.mono ?_
       rintro e w5 ⟨rfl, hb⟩
       have HBi2 := Aside0.mk (below_step HBi.out hb)
       clear hb HC HBi hcj
       go_wp2
       go_roundw
       case rel => exact ⟨j + 1, by omega, by go_num, by rw [HX.out]; go_num, HBi2⟩
       case measure => simp [intOf]; omega
      | false =>
       rw [hxc] at HC
       have HX := Lib.hid (many_no hx hxc)
       clear hxc hcs hm hcj0 hx hBa
       go_wp2_with fail
       refine HC.out.mono ?_
       rintro e w5 ⟨rfl, hb⟩
       have HBi2 := Aside0.mk (below_step HBi.out hb)
       clear hb HC HBi hcj
       go_wp2
       go_roundw
       case rel => exact ⟨j + 1, by omega, by go_num, by rw [HX.out], HBi2⟩
       case measure => simp [intOf]; omega
     ·have e : j = out.length := by omega
      subst e
      clear hBa hjt
      have HO6 := Aside0.mk (pw_own_below HO5.out HBi.out)
      have HB6 := Aside0.mk (below_step HBr.out HBi.out)
      have hwl : (wordsTo out k).length = k := by simp [wordsTo]
      have HWS := Lib.hid (wordsTo_succ out k)
      have HWE := Lib.hid (word_eq out (k : Int))
      clear HO5 HBr HBi
      have HWL := Lib.hid hwl
      clear hwl
      generalize hme : many out (k : Int) out.length = mm at *
      clear hme
      by_cases hm0 : mm = 0
      ·subst hm0
       go_wp2_with (at_builtin; refine print_append_num (w0 := w3) w3.heap.size rfl (.tmp 40) (.tmp 41) 49 53 .i64 8 rfl Tryz.underlying49 info_word (by decide) _ (wordsTo out k) 1 rfl rfl ?hO ?hB ?hb ?hl ?_)
       case hO => exact HO6.out
       case hB => exact HB6.out
       case hb => exact HB6.out.size
       case hl => have := HWL.out; omega
       intro v1 w7 ho hb hg hat
       have HO7 : Aside0 (w7.ownsRow w3.heap.size 53 1 v1 (wordsTo out (k + 1)).length (nums .i64 (wordsTo out (k + 1)))) := ⟨by rw [HWS.out, HWE.out, if_pos (by simp)]; rw [List.length_append]; exact ho⟩
       have HB7 := Aside0.mk hb
       clear ho hb hg hat HO6 HB6
       go_wp2
       go_roundw
       case rel => exact ⟨k + 1, by omega, by go_num, HO7, HB7⟩
       case measure => simp [intOf]; omega
      ·by_cases hm1 : mm = out.length
       ·have he1 : ((mm : Int) == 0) = false := by rw [beq_eq_false_iff_ne]; omega
        have he2 : ((mm : Int) == (out.length : Int)) = true := by rw [beq_iff_eq]; omega
        have HQ := Lib.hid hm1
        have HQ0 := Lib.hid hm0
        clear hm1 hm0
        go_wp2_with (at_builtin; refine print_append_num (w0 := w3) w3.heap.size rfl (.tmp 47) (.tmp 48) 49 53 .i64 8 rfl Tryz.underlying49 info_word (by decide) _ (wordsTo out k) 3 rfl rfl ?hO ?hB ?hb ?hl ?_)
        case hO => exact HO6.out
        case hB => exact HB6.out
        case hb => exact HB6.out.size
        case hl => have := HWL.out; omega
        intro v1 w7 ho hb hg hat
        have HO7 : Aside0 (w7.ownsRow w3.heap.size 53 1 v1 (wordsTo out (k + 1)).length (nums .i64 (wordsTo out (k + 1)))) := ⟨by rw [HWS.out, HWE.out, if_neg HQ0.out, if_pos HQ.out]; rw [List.length_append]; exact ho⟩
        have HB7 := Aside0.mk hb
        clear ho hb hg hat HO6 HB6
        go_wp2
        go_roundw
        case rel => exact ⟨k + 1, by omega, by go_num, HO7, HB7⟩
        case measure => simp [intOf]; omega
       ·have he1 : ((mm : Int) == 0) = false := by rw [beq_eq_false_iff_ne]; omega
        have he2 : ((mm : Int) == (out.length : Int)) = false := by rw [beq_eq_false_iff_ne]; omega
        have HQ := Lib.hid hm1
        have HQ0 := Lib.hid hm0
        clear hm1 hm0
        go_wp2_with (at_builtin; refine print_append_num (w0 := w3) w3.heap.size rfl (.tmp 35) (.tmp 36) 49 53 .i64 8 rfl Tryz.underlying49 info_word (by decide) _ (wordsTo out k) 2 rfl rfl ?hO ?hB ?hb ?hl ?_)
        case hO => exact HO6.out
        case hB => exact HB6.out
        case hb => exact HB6.out.size
        case hl => have := HWL.out; omega
        intro v1 w7 ho hb hg hat
        have HO7 : Aside0 (w7.ownsRow w3.heap.size 53 1 v1 (wordsTo out (k + 1)).length (nums .i64 (wordsTo out (k + 1)))) := ⟨by rw [HWS.out, HWE.out, if_neg HQ0.out, if_neg HQ.out]; rw [List.length_append]; exact ho⟩
        have HB7 := Aside0.mk hb
        clear ho hb hg hat HO6 HB6
        go_wp2
        go_roundw
        case rel => exact ⟨k + 1, by omega, by go_num, HO7, HB7⟩
        case measure => simp [intOf]; omega
   ·have e : k = l0_0.length := by omega
    subst e
    go_wp2
    go_ret2
    exact ⟨_, rfl, Kd.R_lower (WordR.toR HO5.out) (by omega), below_box (below_thru2 HB3.out HBr.out)⟩
end Go.Proofs.YtohlmoppcmjknaaGreatDoor.P
end
