/- Contracts of the program's functions, and the words that their proofs take (joined out of several texts). -/
import Derived.RangeFuncNested
import Derived.RangeFuncBound
import Derived.RangeFuncCalls
import Derived.RangeFuncLeaves
import Derived.RangeFuncKeeps
import Derived.Shelf.Abstract
import Derived.Shelf.RegionOpen
import Derived.OwnWalkIn
import Derived.TacticsInMore
import Derived.LoopNIn
import Derived.LoopIn
import Derived.Maps.OwnIn
import Derived.Test.YtohlmoppcmjknaaGreatDoorM2
import Derived.Test.YtohlmoppcmjknaaGreatDoorM3
import Derived.Test.YtohlmoppcmjknaaGreatDoorM4
section
namespace Go.Proofs.YtohlmoppcmjknaaGreatDoor.X
open Go.RowKit Go.Shelf Go.Proofs.YtohlmoppcmjknaaGreatDoorW.PrintWords Go.Proofs.YtohlmoppcmjknaaGreatDoorW.PrintLast Go.Proofs.YtohlmoppcmjknaaGreatDoorW.PrintMore
open Go.Proofs.YtohlmoppcmjknaaGreatDoor.Col (nth)
set_option linter.unusedVariables false
set_option linter.unusedSimpArgs false
attribute [local go_sem] Oper.semAt_some
structure Step (T T' : Nat → Prop) (W W' : World) : Prop where
 size : W.heap.size ≤ W'.heap.size
 own : ∀ b, b < W.heap.size → (T' b ↔ T b)
 keep : ∀ b, b < W.heap.size → ¬ T b → W'.heap[b]? = W.heap[b]?
theorem Step.refl (T : Nat → Prop) (W : World) : Step T T W W := ⟨Nat.le_refl _, fun _ _ => Iff.rfl, fun _ _ _ => rfl⟩
theorem Step.trans {T T' T'' : Nat → Prop} {A B C : World} (h : Step T T' A B) (k : Step T' T'' B C) : Step T T'' A C :=
 ⟨Nat.le_trans h.size k.size, fun b hb => (k.own b (Nat.lt_of_lt_of_le hb h.size)).trans (h.own b hb),
  fun b hb hn => (k.keep b (Nat.lt_of_lt_of_le hb h.size) (fun ht => hn ((h.own b hb).1 ht))).trans (h.keep b hb hn)⟩
theorem Step.below {T : Nat → Prop} {A B : World} (h : Below A.heap.size A B) : Step T T A B := ⟨h.size, fun _ _ => Iff.rfl, fun b hb _ => h.block b hb⟩
theorem CI.kept {w w' : World} {A : Option Addr} {l : List Int} (h : CI w A l) (hk : ∀ ad, A = some ad → 0 < l.length → w'.heap[ad.block]? = w.heap[ad.block]?) : CI w' A l := by
 refine ⟨h.1, h.2.1, fun hn => ?_⟩
 obtain ⟨ad, e, hc⟩ := h.2.2 hn
 refine ⟨ad, e, fun j x hx => ?_⟩
 obtain ⟨c, hl, hr, hcell⟩ := hc j x hx
 refine ⟨c, hl, hr, fun i v hv => ?_⟩
 rw [World.cell?_of_block (w := w) (by rw [add_block]; exact hk ad e hn)]
 exact hcell i v hv
theorem CI.lt {w : World} {A : Option Addr} {l : List Int} (h : CI w A l) : ∀ ad, A = some ad → 0 < l.length → ad.block < w.heap.size := by
 intro ad e hn
 obtain ⟨ad', e', hc⟩ := h.at_ 0 hn
 rw [e] at e'
 cases e'
 have := World.block_lt_of_cell? w _ hc
 rwa [add_block] at this
structure Free (T : Nat → Prop) (W : World) (A : Option Addr) (c : Nat) (l : List Int) : Prop where
 ci : CI W A l
 cap : l.length ≤ c
 free : ∀ ad, A = some ad → 0 < l.length → ¬ T ad.block
theorem Free.step {T T' : Nat → Prop} {W W' : World} {A : Option Addr} {c : Nat} {l : List Int} (h : Free T W A c l) (hs : Step T T' W W') : Free T' W' A c l :=
 ⟨h.ci.kept (fun ad e hn => hs.keep _ (h.ci.lt ad e hn) (h.free ad e hn)), h.cap, fun ad e hn ht => h.free ad e hn ((hs.own _ (h.ci.lt ad e hn)).1 ht)⟩
theorem own_kept {W W' : World} {base n c : Nat} {e : TypeId} {size : Nat} {A : Option Addr} {xs : List Value} (h : W.ownsRow base e size (.slice A n c) n xs) (hk : ∀ ad, A = some ad → W'.heap[ad.block]? = W.heap[ad.block]?) : W'.ownsRow base e size (.slice A n c) n xs := by
 obtain ⟨h1, h2⟩ := h
 refine ⟨h1, ?_⟩
 rcases h2 with h2 | ⟨g, cap, cur, he, hb, hh, hnc, hcm, hcs, ht⟩
 ·exact .inl h2
 ·refine .inr ⟨g, cap, cur, he, hb, ?_, hnc, hcm, hcs, ht⟩
  injection he with ha _ _
  exact (hk _ ha).trans hh
theorem own_lt {W : World} {base n c : Nat} {e : TypeId} {size : Nat} {A : Option Addr} {xs : List Value} (h : W.ownsRow base e size (.slice A n c) n xs) : ∀ ad, A = some ad → ad.block < W.heap.size := by
 intro ad e1
 rcases h.2 with ⟨he, _⟩ | ⟨g, cap, cur, he, hb, hh, _⟩
 ·injection he with ha _ _
  rw [e1] at ha
  cases ha
 ·injection he with ha _ _
  rw [e1] at ha
  injection ha with ha
  subst ha
  exact (Array.getElem?_eq_some_iff.1 hh).1
theorem own_lower {W : World} {a b : Nat} {v : Value} {l : List Int} (h : OI W a v l) (hb : b ≤ a) : OI W b v l := RI.own ((OI.toR h).lower hb)
structure Mine (T : Nat → Prop) (n0 : Nat) (W : World) (A : Option Addr) (c : Nat) (l : List Int) : Prop where
 own : OI W n0 (.slice A l.length c) l
 free : ∀ ad, A = some ad → ¬ T ad.block
theorem Mine.fr {T : Nat → Prop} {n0 : Nat} {W : World} {A : Option Addr} {c : Nat} {l : List Int} (h : Mine T n0 W A c l) : Free T W A c l := by
 obtain ⟨A', c', e, hc, hci⟩ := RI.reads (OI.toR h.own)
 injection e with e1 e2 e3
 subst e1
 subst e3
 exact ⟨hci, hc, fun ad e _ => h.free ad e⟩
theorem Mine.step {T T' : Nat → Prop} {n0 : Nat} {W W' : World} {A : Option Addr} {c : Nat} {l : List Int} (h : Mine T n0 W A c l) (hs : Step T T' W W') : Mine T' n0 W' A c l :=
 ⟨own_kept h.own (fun ad e => hs.keep _ (own_lt h.own ad e) (h.free ad e)), fun ad e ht => h.free ad e ((hs.own _ (own_lt h.own ad e)).1 ht)⟩
structure Env (T : Nat → Prop) (W : World) (bs bY bp l : Nat) (A : Option Addr) (n c : Nat) (o lo hi : Int) (AW : Option Addr) (cw mb : Nat) (ws : List Int) : Prop where
 eS : W.heap[bs]? = some (.cells #[.slice A n c, .int .i64 o, .int .i64 lo, .int .i64 hi, .slice AW ws.length cw, .map (some mb)] 90 (0, 0))
 eY : W.heap[bY]? = some (.cells #[.func (.yield l) #[] #[]] 167 (0, 0))
 eP : W.heap[bp]? = some (.cells #[.func (.func 136) #[] #[.pointer (some ⟨bs, 0, none⟩), .pointer (some ⟨bY, 0, none⟩), .pointer (some ⟨bp, 0, none⟩)]] 167 (0, 0))
 met : Met W mb (Col.metsTo ws o lo hi ws.length)
 win : Free T W AW cw ws
 fS : ¬ T bs
 fY : ¬ T bY
 fP : ¬ T bp
 fM : ¬ T mb
theorem Env.step {T T' : Nat → Prop} {W W' : World} {bs bY bp l : Nat} {A : Option Addr} {n c : Nat} {o lo hi : Int} {AW : Option Addr} {cw mb : Nat} {ws : List Int} (h : Env T W bs bY bp l A n c o lo hi AW cw mb ws) (hs : Step T T' W W') : Env T' W' bs bY bp l A n c o lo hi AW cw mb ws := by
 have lt : ∀ {b : Nat} {ob : Obj}, W.heap[b]? = some ob → b < W.heap.size := fun h => (Array.getElem?_eq_some_iff.1 h).1
 obtain ⟨es, clock, hm, hm2⟩ := h.met
 exact ⟨(hs.keep _ (lt h.eS) h.fS).trans h.eS, (hs.keep _ (lt h.eY) h.fY).trans h.eY, (hs.keep _ (lt h.eP) h.fP).trans h.eP, ⟨es, clock, (hs.keep _ (lt hm) h.fM).trans hm, hm2⟩, h.win.step hs,
  fun ht => h.fS ((hs.own _ (lt h.eS)).1 ht), fun ht => h.fY ((hs.own _ (lt h.eY)).1 ht), fun ht => h.fP ((hs.own _ (lt h.eP)).1 ht), fun ht => h.fM ((hs.own _ (lt hm)).1 ht)⟩
def Round (l n0 : Nat) (J : List (List Int) → (Nat → Prop) → World → Prop) : Prop :=
 ∀ m out T W A c now, J out T W → Mine T n0 W A c now → now.length ≤ 20 → out.length + 1 ≤ 1099511627776 → YieldAt Fence.wide m Tryz.prog l #[.slice A now.length c] W fun e W' => e = .returned (.bool true) ∧ ∃ T', J (Col.keep out now) T' W' ∧ Step T T' W W'
def uncov (J : List Int) (o : Int) (now : List Int) : Nat := (J.filter fun i => !now.any fun r => Col.inr r i (i + o)).length
theorem uncov_less {J : List Int} {o : Int} {now : List Int} {i r : Int} (h : Col.opens J o now = some i) (hr : Col.inr r i (i + o) = true) : uncov J o (now ++ [r]) < uncov J o now := by
 unfold Col.opens at h
 have hi := List.find?_some h
 have hm := List.mem_of_find?_eq_some h
 unfold uncov
 have hsub : ((J.filter fun i => !now.any fun r => Col.inr r i (i + o)).filter fun i => !Col.inr r i (i + o)) = J.filter fun i => !(now ++ [r]).any fun r => Col.inr r i (i + o) := by
  rw [List.filter_filter]
  congr 1
  funext x
  simp [List.any_append, Bool.and_comm]
 rw [← hsub]
 have hmem : i ∈ J.filter fun i => !now.any fun r => Col.inr r i (i + o) := List.mem_filter.2 ⟨hm, hi⟩
 refine List.length_filter_lt_length_iff_exists.2 ⟨i, hmem, by rw [hr]; decide⟩
theorem uncov_pos {J : List Int} {o : Int} {now : List Int} {i : Int} (h : Col.opens J o now = some i) : 0 < uncov J o now := by
 unfold Col.opens at h
 have hi := List.find?_some h
 exact List.length_pos_of_mem (List.mem_filter.2 ⟨List.mem_of_find?_eq_some h, hi⟩)
def some_ (k : Nat) (J : List Int) (o : Int) (now : List Int) (i : Int) (m : Nat) : List (List Int) := (List.range m).flatMap fun j : Nat => Col.lists k J o (now ++ [i + (j : Int)])
theorem some_succ (k : Nat) (J : List Int) (o : Int) (now : List Int) (i : Int) (m : Nat) : some_ k J o now i (m + 1) = some_ k J o now i m ++ Col.lists k J o (now ++ [i + (m : Int)]) := by
 simp [some_, List.range_succ]
theorem keep_length (out : List (List Int)) (l : List Int) : (Col.keep out l).length ≤ out.length + 1 := by
 unfold Col.keep
 simp only
 split <;> split <;> simp <;> omega
theorem keeps_length (ls : List (List Int)) : ∀ out : List (List Int), (ls.foldl Col.keep out).length ≤ out.length + ls.length := by
 induction ls with
 | nil => intro out; simp
 | cons l ls ih => intro out; have h1 := ih (Col.keep out l); have h2 := keep_length out l; simp only [List.foldl_cons, List.length_cons]; omega
theorem flat_length {f : Nat → List (List Int)} {B : Nat} (h : ∀ j, (f j).length ≤ B) : ∀ m, ((List.range m).flatMap f).length ≤ m * B := by
 intro m
 induction m with
 | zero => simp
 | succ m ih =>
  have := h m
  rw [List.range_succ, List.flatMap_append, List.length_append, Nat.succ_mul]
  simp only [List.flatMap_cons, List.flatMap_nil, List.append_nil]
  omega
theorem lists_length {o : Int} (ho : o ≤ 3) (J : List Int) : ∀ (k : Nat) (now : List Int), (Col.lists k J o now).length ≤ 4 ^ k := by
 intro k
 induction k with
 | zero => intro now; simp [Col.lists]
 | succ k ih =>
  intro now
  have hp : 0 < 4 ^ k := Nat.pow_pos (by decide)
  show (match Col.opens J o now with | none => [now] | some i => (List.range (o.toNat + 1)).flatMap fun j : Nat => Col.lists k J o (now ++ [i + (j : Int)])).length ≤ _
  rw [Nat.pow_succ]
  cases Col.opens J o now with
  | none => simp; omega
  | some i =>
   have h1 := flat_length (f := fun j : Nat => Col.lists k J o (now ++ [i + (j : Int)])) (fun j => ih _) (o.toNat + 1)
   have h2 : (o.toNat + 1) * 4 ^ k ≤ 4 * 4 ^ k := Nat.mul_le_mul_right _ (by omega)
   simp only
   omega
theorem some_length (k : Nat) (J : List Int) {o : Int} (ho : o ≤ 3) (now : List Int) (i : Int) (j : Nat) : (some_ k J o now i j).length ≤ j * 4 ^ k := flat_length (fun j => lists_length ho J k _) j
theorem lit_cell (W : World) (x : Int) : (W.alloc (.cells #[.int .i64 x] 3)).cell? ⟨W.heap.size, 0, none⟩ = some (.int .i64 x) := by
 have hn : (W.alloc (.cells #[.int .i64 x] 3)).heap[W.heap.size]? = some (.cells #[.int .i64 x] 3) := heap_alloc_new W _
 simp only [World.cell?, hn]
 rfl
theorem lit_lt (W : World) (x : Int) : W.heap.size < (W.alloc (.cells #[.int .i64 x] 3)).heap.size := by simp
theorem int_next (i : Int) (j : Nat) : Value.int .i64 (i + (j : Int) + 1) = .int .i64 (i + ((j + 1 : Nat) : Int)) := by
 congr 1
 omega
theorem app1 (W : World) (base : Nat) (v : Value) (xs : List Int) (y : Int) (hO : OI W base v xs) (b : Nat) (hlit : W.cell? ⟨b, 0, none⟩ = some (.int .i64 y)) (hbase : base ≤ W.heap.size) (hl : xs.length ≤ 1000) :
  ∃ v' w', (Builtin.append_ #[22, 22] 22 #[v, .slice (some ⟨b, 0, none⟩) 1 1]).run Tryz.prog W = .ok v' w' ∧ OI w' base v' (xs ++ [y]) ∧ Below base W w' := by
 obtain ⟨i0, hi, hzz⟩ := Option.map_eq_some_iff.1 info_int
 simp only [Prod.mk.injEq] at hzz
 obtain ⟨hz0, hz1, hz2⟩ := hzz
 obtain ⟨v', w', hrun, ho, hg, _, hat⟩ := run_append_own_at (P := Tryz.prog) W base 22 22 3 i0 (.int .i64 0) 1 8 Tryz.underlying22 hi hz0 hz1 hz2 rfl (by decide) v xs.length (nums .i64 xs) hO ⟨b, 0, none⟩ 1 1 [.int .i64 y] rfl
  (fun j u hj => by
   cases j with
   | zero => simp at hj; subst hj; exact hlit
   | succ j => simp at hj) (by simp [Value.oneCell']) (by unfold maxLen; omega) (by omega) hbase
 refine ⟨v', w', hrun, ?_, (Below.refl _ _).grown hg hbase (fun k e => own_base hO k e)⟩
 unfold OI
 rw [List.length_append]
 simpa [nums] using ho
theorem stepIn_append {F : Fence} {n : Nat} {P : Program} {K : Act → World → Prop} {Q : Exit → Act → World → Prop} {a : Act} {w : World} {o : Oper} {s x : Operand} {t : TypeId} {v X v' : Value} {w' : World}
  (hgd : o.guard = none) (ho : o.op = .call { callee := .builtin .append, args := #[s, x], argTypes := #[t, t] }) (hs : a.eval s = v) (hx : a.eval x = X)
  (hrun : (Builtin.append_ #[t, t] o.type #[v, X]).run P w = .ok v' w') (h : K (a.put o.dst v') w') : Oper.wpIn F n P o a w K Q := by
 unfold Oper.wpIn
 refine ⟨?_, ?_⟩
 ·simp [Oper.about, ho, resolve, Target.leads, Sem.run_pure]
 ·rw [Oper.semAt_plain F _ _ (by rw [ho]; intro c hc'; cases hc')]
  simp [execOp, ho, resolve, invoke, builtin, hs, hx, hrun, Result.andThen]
  exact h
theorem opV_none : opV none = .tuple #[.int .i64 0, .bool false] := rfl
theorem opV_some (i : Int) : opV (some i) = .tuple #[.int .i64 i, .bool true] := rfl
set_option maxHeartbeats 4000000 in
set_option maxRecDepth 100000 in
theorem put_in (l bs bY bp : Nat) (A : Option Addr) (n c : Nat) (o lo hi : Int) (AW : Option Addr) (cw mb : Nat) (ws : List Int) (hl : ws.length ≤ 1000) (ho : 0 ≤ o) (ho3 : o ≤ 3)
  (J : List (List Int) → (Nat → Prop) → World → Prop) (n0 : Nat) (hround : Round l n0 J) (hbelow : ∀ out T W W', J out T W → Below W.heap.size W W' → J out T W') (hT : ∀ out T W, J out T W → ∀ b, T b → b < W.heap.size) (hn0 : ∀ out T W, J out T W → n0 ≤ W.heap.size) :
  ∀ (k m : Nat) (out : List (List Int)) (T : Nat → Prop) (W : World) (AN : Option Addr) (cN : Nat) (now : List Int), J out T W → Env T W bs bY bp l A n c o lo hi AW cw mb ws → Mine T n0 W AN cN now → uncov (Col.jumping ws lo hi) o now < k → now.length + k ≤ 20 → out.length + 4 ^ k ≤ 1099511627776 →
   CallsIn Fence.wide m Tryz.prog 136 #[.slice AN now.length cN, .pointer (some ⟨bs, 0, none⟩), .pointer (some ⟨bY, 0, none⟩), .pointer (some ⟨bp, 0, none⟩)] W fun e W' =>
    e = .returned (.bool true) ∧ ∃ T', J ((Col.lists k (Col.jumping ws lo hi) o now).foldl Col.keep out) T' W' ∧ Step T T' W W' := by
 intro k
 induction k with
 | zero => intro m out T W AN cN now _ _ _ hu _ _; omega
 | succ k ih =>
  intro m out T W AN cN now hJ hE hN hu hlen hcount
  have ho9 : o ≤ 9 := by omega
  have h4 : 0 < 4 ^ k := Nat.pow_pos (by decide)
  have h4s : 4 ^ (k + 1) = 4 * 4 ^ k := by rw [Nat.pow_succ, Nat.mul_comm]
  rw [h4s] at hcount
  have HCO := Lib.hid hcount
  clear hcount h4s
  have HO := Lib.hid (open_calls A n c o lo hi AW cw mb ws hl ho ho9 AN cN now W hE.win.ci hN.fr.ci hE.met)
  have hc0 := (blk_cell hE.eS 0).trans rfl
  have hc1 := (blk_cell hE.eS 1).trans rfl
  have hc2 := (blk_cell hE.eS 2).trans rfl
  have hc3 := (blk_cell hE.eS 3).trans rfl
  have hc4 := (blk_cell hE.eS 4).trans rfl
  have hc5 := (blk_cell hE.eS 5).trans rfl
  cases hop : Col.opens (Col.jumping ws lo hi) o now with
  | none =>
   have hlists : Col.lists (k + 1) (Col.jumping ws lo hi) o now = [now] := by
    show (match Col.opens (Col.jumping ws lo hi) o now with | none => [now] | some i => _) = _
    rw [hop]
   rw [hlists]
   rw [hop, opV_none] at HO
   have HE := Aside0.mk hE
   have HN := Aside0.mk hN
   have HJ := Aside0.mk hJ
   clear hE hN hJ ih hop hlists
   refine callsIn_of_wp Tryz.func136 rfl trivial ?_ rfl
   simp only [Tryz.ntmps136, List.size_toArray, List.length_cons, List.length_nil, Nat.reduceAdd, Nat.reduceSub, Array.replicate_succ, Array.replicate_zero, List.push_toArray, List.append_toArray, List.nil_append, List.cons_append]
   gi_wp2
   refine ⟨trivial, fun h => (by cases h), (callsIn_wide.2 HO.out).mono ?_⟩
   rintro e w1 ⟨rfl, hb⟩
   have hs1 := Step.below (T := T) hb
   have HE1 := Aside0.mk (HE.out.step hs1)
   have hcy := (blk_cell HE1.out.eY 0).trans rfl
   obtain ⟨fn, tmps, assign, body, hy, hR⟩ := hround (m - 1) out T w1 AN cN now (hbelow _ _ _ _ HJ.out hb) (HN.out.step hs1) (by omega) (by have := HCO.out; omega)
   have HS1 := Aside0.mk hs1
   clear HO hb hs1 HE HE1 HN HJ hc0 hc1 hc2 hc3 hc4 hc5
   gi_wp2
   refine ⟨fun h => (by cases h), hR.mono ?_⟩
   rintro e w2 ⟨rfl, T', hJ', hs2⟩
   have HJ' := Aside0.mk hJ'
   have HS := Aside0.mk (HS1.out.trans hs2)
   clear hJ' hs2 hR hy HS1
   gi_wp2
   go_ret
   exact ⟨rfl, T', HJ'.out, HS.out⟩
  | some i =>
   have hlists : Col.lists (k + 1) (Col.jumping ws lo hi) o now = some_ k (Col.jumping ws lo hi) o now i (o.toNat + 1) := by
    show (match Col.opens (Col.jumping ws lo hi) o now with | none => [now] | some i => _) = _
    rw [hop]
    rfl
   rw [hlists]
   rw [hop, opV_some] at HO
   have HE := Aside0.mk hE
   have HN := Aside0.mk hN
   have HJ := Aside0.mk hJ
   have hil : 0 ≤ i ∧ i ≤ 1000 := by
    have hm := List.mem_of_find?_eq_some hop
    unfold Col.jumping at hm
    obtain ⟨x, hx, rfl⟩ := List.mem_map.1 hm
    have := List.mem_range.1 (List.mem_filter.1 hx).1
    omega
   have HU : Aside0 (∀ r, Col.inr r i (i + o) = true → uncov (Col.jumping ws lo hi) o (now ++ [r]) < k) := ⟨fun r hr => by have := uncov_less hop hr; omega⟩
   have HIH := Lib.hid ih
   clear hE hN hJ ih hop hlists hu
   generalize hJs : Col.jumping ws lo hi = Js at *
   refine callsIn_of_wp Tryz.func136 rfl trivial ?_ rfl
   simp only [Tryz.ntmps136, List.size_toArray, List.length_cons, List.length_nil, Nat.reduceAdd, Nat.reduceSub, Array.replicate_succ, Array.replicate_zero, List.push_toArray, List.append_toArray, List.nil_append, List.cons_append]
   gi_wp2
   refine ⟨trivial, fun h => (by cases h), (callsIn_wide.2 HO.out).mono ?_⟩
   rintro e w1 ⟨rfl, hb⟩
   have hs1 := Step.below (T := T) hb
   have HE1 := Aside0.mk (HE.out.step hs1)
   have HN1 := Aside0.mk (HN.out.step hs1)
   have HJ1 := Aside0.mk (hbelow _ _ _ _ HJ.out hb)
   have HS1 := Aside0.mk hs1
   clear HO hb hs1 HE HN HJ hc0 hc1 hc2 hc3 hc4 hc5
   gi_wp2
   gi_loopw [8] (fun r wr => ∃ (j : Nat) (T' : Nat → Prop), (j : Int) ≤ o + 1 ∧ r = .int .i64 (i + (j : Int)) ∧ Aside0 (Env T' wr bs bY bp l A n c o lo hi AW cw mb ws) ∧ Aside0 (Mine T' n0 wr AN cN now) ∧ Aside0 (J ((some_ k Js o now i j).foldl Col.keep out) T' wr) ∧ Aside0 (Step T T' W wr)) (fun r _ => (i + o + 1 - intOf r).toNat)
   case atStart => exact ⟨0, T, by omega, by simp, HE1, HN1, HJ1, HS1⟩
   case round =>
    clear HE1 HN1 HJ1 HS1
    obtain ⟨j, T', hj, rfl, HE, HN, HJ, HS⟩ := hrel
    have hc1 := (blk_cell HE.out.eS 1).trans rfl
    by_cases hlt : (j : Int) < o + 1
    ·obtain ⟨nx, hnx⟩ : ∃ nx, nx = now ++ [i + (j : Int)] := ⟨_, rfl⟩
     have HUr : Hid (uncov Js o nx < k) := Lib.hid (by rw [hnx]; exact HU.out (i + (j : Int)) (by simp [Col.inr]; omega))
     have hnl : nx.length + k ≤ 20 := by rw [hnx]; simp; omega
     have HNX := Lib.hid hnx
     clear hnx
     have HNj : Hid (((some_ k Js o now i j).foldl Col.keep out).length + 4 ^ k ≤ 1099511627776) := Lib.hid (by
      have h1 := keeps_length (some_ k Js o now i j) out
      have h2 := some_length k Js (o := o) ho3 now i j
      have h3 : j * 4 ^ k ≤ 3 * 4 ^ k := Nat.mul_le_mul_right _ (by omega)
      have := HCO.out
      omega)
     have hcp := (blk_cell HE.out.eP 0).trans rfl
     have hmx : Tryz.prog.follows .mixedOrders = true := by kernel_rfl
     gi_wp2
     have hbp : bp < wr.heap.size := (Array.getElem?_eq_some_iff.1 HE.out.eP).1
     have HC : Hid (∀ W, Below wr.heap.size wr W → Calls Tryz.prog 92 #[.slice AN now.length cN] W fun e w' => ∃ v, e = .returned v ∧ RI w' W.heap.size v now ∧ Below W.heap.size W w') := Lib.hid (fun W hb => P.slices_Clone_int_int.calls AN cN now now W (HN.out.fr.ci.below hb) HN.out.fr.cap (by unfold P.slices_Clone_int_int.f; rw [if_pos (by omega)]))
     have HB0 := Aside0.mk (Below.drew (Below.refl wr.heap.size wr))
     refine wpIn_region_any hmx ?_
     change wpAnyIn _ _ _ _ _ _ _ _ _ (World.drew _)

     refine wpAnyIn_take (i := 1) (v := ?_) rfl rfl (by kernel_rfl) (by kernel_rfl) (by kernel_rfl) (fun _ _ _ h => h) ⟨Or.inl ⟨by rfl, ?_⟩, fun _ => rfl⟩ ?_
     rotate_left
     ·intro w
      go_simp
      with_reducible rfl
     refine wpAnyIn_take (i := 3) (v := ?_) rfl rfl (by kernel_rfl) (by kernel_rfl) (by kernel_rfl) (fun _ _ _ h => h) ⟨Or.inl ⟨by rfl, ?_⟩, fun _ => rfl⟩ ?_
     rotate_left
     ·intro w
      go_simp
      with_reducible rfl
     refine wpAnyIn_ready (rs := [0, 2, 4]) (by kernel_rfl) (by simp) ?_
     refine AllReadyIn.cons rfl (fun K hK => ?_) ?_
     ·have hcq := (Below.cell HB0.out (p := ⟨bp, 0, none⟩) hbp).trans hcp
      go_simp
      refine hK _ _ ?_
      clear hK K hcq
      refine wpAnyIn_ready (rs := [2, 4]) (by kernel_rfl) (by simp) ?_
      refine AllReadyIn.cons rfl (fun K hK => ?_) ?_
      ·go_simp
       refine ⟨trivial, fun h => (by cases h), (callsIn_wide.2 (HC.out _ HB0.out)).mono ?_⟩
       rintro e wc ⟨vc, rfl, hvc, hbc⟩
       refine hK _ _ ?_
       clear hK K
       have HB2 := Aside0.mk (below_step HB0.out hbc)
       have HV := Aside0.mk (RI.own (hvc.lower (base' := wr.heap.size) HB0.out.size))
       clear hvc hbc
       refine wpAnyIn_ready (rs := [4]) (by kernel_rfl) (by simp) ?_
       refine AllReadyIn.cons rfl (fun K hK => ?_) ?_
       ·go_simp
        refine hK _ _ ?_
        clear hK K
        have HB3 := Aside0.mk (Below.alloc HB2.out HB2.out.size (.cells #[.int .i64 (i + (j : Int))] 3))
        have HL := Aside0.mk (lit_cell wc (i + (j : Int)))
        have HV4 := Aside0.mk (own_alloc HV.out (.cells #[.int .i64 (i + (j : Int))] 3))
        refine wpAnyIn_ready (rs := [5]) (by kernel_rfl) (by simp) ?_
        refine AllReadyIn.cons rfl (fun K hK => ?_) ?_
        ·obtain ⟨v5, w5, hrun, ho5, hb5⟩ := app1 (wc.alloc (.cells #[.int .i64 (i + (j : Int))] 3)) wr.heap.size vc now (i + (j : Int)) HV4.out _ HL.out HB3.out.size (by omega)
         rw [← HNX.out] at ho5
         have HO5 := Aside0.mk ho5
         obtain ⟨AK, cK, rfl, hcK, hciK⟩ := RI.reads (OI.toR ho5)
         refine stepIn_append rfl rfl rfl rfl hrun ?_
         refine hK _ _ ?_
         clear hK K hrun
         have HB4 := Aside0.mk (HB3.out.trans hb5)
         have HCI := Aside0.mk hciK
         clear ho5 hb5 hciK
         refine wpAnyIn_ready (rs := [6]) (by kernel_rfl) (by simp) ?_
         refine AllReadyIn.cons rfl (fun K hK => ?_) ?_
         ·have hs5 := Step.below (T := T') HB4.out
          have HIH2 := Lib.hid (HIH.out (m - 1) _ T' w5 AK cK nx (hbelow _ _ _ _ HJ.out HB4.out) (HE.out.step hs5) ⟨own_lower HO5.out (hn0 _ _ _ HJ.out), fun ad e ht => absurd (hT _ _ _ HJ.out _ ht) (by have := own_base HO5.out ad.block (by subst e; rfl); omega)⟩ HUr.out hnl HNj.out)
          have HS5 := Aside0.mk hs5
          clear hs5
          go_simp
          refine ⟨trivial, fun h => (by cases h), HIH2.out.mono ?_⟩
          rintro e w6 ⟨rfl, T6, hJ6, hs6⟩
          refine hK _ _ ?_
          clear hK K HIH2
          have HS6 := Aside0.mk (HS5.out.trans hs6)
          have HJ6 : Aside0 (J ((some_ k Js o now i (j + 1)).foldl Col.keep out) T6 w6) := ⟨by rw [some_succ, List.foldl_append, ← HNX.out]; exact hJ6⟩
          clear hJ6 hs6 HS5
          refine wpAnyIn_take (i := 7) (v := ?_) rfl rfl (by kernel_rfl) (by kernel_rfl) (by kernel_rfl) (fun _ _ _ h => h) ⟨Or.inl ⟨by rfl, ?_⟩, fun _ => rfl⟩ ?_
          rotate_left
          ·intro w
           go_simp
           with_reducible rfl
          refine wpAnyIn_done (by kernel_rfl) ?_ _
          gi_wp2
          go_roundw
          case rel => exact ⟨j + 1, T6, by omega, int_next i j, ⟨HE.out.step HS6.out⟩, ⟨HN.out.step HS6.out⟩, HJ6, ⟨HS.out.trans HS6.out⟩⟩
          case measure => simp [intOf]; omega
         exact AllReadyIn.nil
        exact AllReadyIn.nil
       exact AllReadyIn.nil
      refine AllReadyIn.cons rfl (fun K hK => ?_) ?_
      ·go_simp
       refine hK _ _ ?_
       clear hK K
       have HB2 := Aside0.mk (Below.alloc HB0.out HB0.out.size (.cells #[.int .i64 (i + (j : Int))] 3))
       have HL := Aside0.mk (lit_cell wr.drew (i + (j : Int)))
       refine wpAnyIn_ready (rs := [2]) (by kernel_rfl) (by simp) ?_
       refine AllReadyIn.cons rfl (fun K hK => ?_) ?_
       ·go_simp
        refine ⟨trivial, fun h => (by cases h), (callsIn_wide.2 (HC.out _ HB2.out)).mono ?_⟩
        rintro e wc ⟨vc, rfl, hvc, hbc⟩
        refine hK _ _ ?_
        clear hK K
        have HB3 := Aside0.mk (below_step HB2.out hbc)
        have HV := Aside0.mk (RI.own (hvc.lower (base' := wr.heap.size) HB2.out.size))
        have HLc := Aside0.mk ((Below.cell hbc (p := ⟨wr.drew.heap.size, 0, none⟩) (lit_lt wr.drew (i + (j : Int)))).trans HL.out)
        clear hvc hbc
        refine wpAnyIn_ready (rs := [5]) (by kernel_rfl) (by simp) ?_
        refine AllReadyIn.cons rfl (fun K hK => ?_) ?_
        ·obtain ⟨v5, w5, hrun, ho5, hb5⟩ := app1 wc wr.heap.size vc now (i + (j : Int)) HV.out _ HLc.out HB3.out.size (by omega)
         rw [← HNX.out] at ho5
         have HO5 := Aside0.mk ho5
         obtain ⟨AK, cK, rfl, hcK, hciK⟩ := RI.reads (OI.toR ho5)
         refine stepIn_append rfl rfl rfl rfl hrun ?_
         refine hK _ _ ?_
         clear hK K hrun
         have HB4 := Aside0.mk (HB3.out.trans hb5)
         have HCI := Aside0.mk hciK
         clear ho5 hb5 hciK
         refine wpAnyIn_ready (rs := [6]) (by kernel_rfl) (by simp) ?_
         refine AllReadyIn.cons rfl (fun K hK => ?_) ?_
         ·have hs5 := Step.below (T := T') HB4.out
          have HIH2 := Lib.hid (HIH.out (m - 1) _ T' w5 AK cK nx (hbelow _ _ _ _ HJ.out HB4.out) (HE.out.step hs5) ⟨own_lower HO5.out (hn0 _ _ _ HJ.out), fun ad e ht => absurd (hT _ _ _ HJ.out _ ht) (by have := own_base HO5.out ad.block (by subst e; rfl); omega)⟩ HUr.out hnl HNj.out)
          have HS5 := Aside0.mk hs5
          clear hs5
          go_simp
          refine ⟨trivial, fun h => (by cases h), HIH2.out.mono ?_⟩
          rintro e w6 ⟨rfl, T6, hJ6, hs6⟩
          refine hK _ _ ?_
          clear hK K HIH2
          have HS6 := Aside0.mk (HS5.out.trans hs6)
          have HJ6 : Aside0 (J ((some_ k Js o now i (j + 1)).foldl Col.keep out) T6 w6) := ⟨by rw [some_succ, List.foldl_append, ← HNX.out]; exact hJ6⟩
          clear hJ6 hs6 HS5
          refine wpAnyIn_take (i := 7) (v := ?_) rfl rfl (by kernel_rfl) (by kernel_rfl) (by kernel_rfl) (fun _ _ _ h => h) ⟨Or.inl ⟨by rfl, ?_⟩, fun _ => rfl⟩ ?_
          rotate_left
          ·intro w
           go_simp
           with_reducible rfl
          refine wpAnyIn_done (by kernel_rfl) ?_ _
          gi_wp2
          go_roundw
          case rel => exact ⟨j + 1, T6, by omega, int_next i j, ⟨HE.out.step HS6.out⟩, ⟨HN.out.step HS6.out⟩, HJ6, ⟨HS.out.trans HS6.out⟩⟩
          case measure => simp [intOf]; omega
         exact AllReadyIn.nil
        exact AllReadyIn.nil
       exact AllReadyIn.nil
      exact AllReadyIn.nil
     refine AllReadyIn.cons rfl (fun K hK => ?_) ?_
     ·go_simp
      refine ⟨trivial, fun h => (by cases h), (callsIn_wide.2 (HC.out _ HB0.out)).mono ?_⟩
      rintro e wc ⟨vc, rfl, hvc, hbc⟩
      refine hK _ _ ?_
      clear hK K
      have HB1 := Aside0.mk (below_step HB0.out hbc)
      have HV := Aside0.mk (RI.own (hvc.lower (base' := wr.heap.size) HB0.out.size))
      clear hvc hbc
      refine wpAnyIn_ready (rs := [0, 4]) (by kernel_rfl) (by simp) ?_
      refine AllReadyIn.cons rfl (fun K hK => ?_) ?_
      ·have hcq := (Below.cell HB1.out (p := ⟨bp, 0, none⟩) hbp).trans hcp
       go_simp
       refine hK _ _ ?_
       clear hK K hcq
       refine wpAnyIn_ready (rs := [4]) (by kernel_rfl) (by simp) ?_
       refine AllReadyIn.cons rfl (fun K hK => ?_) ?_
       ·go_simp
        refine hK _ _ ?_
        clear hK K
        have HB3 := Aside0.mk (Below.alloc HB1.out HB1.out.size (.cells #[.int .i64 (i + (j : Int))] 3))
        have HL := Aside0.mk (lit_cell wc (i + (j : Int)))
        have HV4 := Aside0.mk (own_alloc HV.out (.cells #[.int .i64 (i + (j : Int))] 3))
        refine wpAnyIn_ready (rs := [5]) (by kernel_rfl) (by simp) ?_
        refine AllReadyIn.cons rfl (fun K hK => ?_) ?_
        ·obtain ⟨v5, w5, hrun, ho5, hb5⟩ := app1 (wc.alloc (.cells #[.int .i64 (i + (j : Int))] 3)) wr.heap.size vc now (i + (j : Int)) HV4.out _ HL.out HB3.out.size (by omega)
         rw [← HNX.out] at ho5
         have HO5 := Aside0.mk ho5
         obtain ⟨AK, cK, rfl, hcK, hciK⟩ := RI.reads (OI.toR ho5)
         refine stepIn_append rfl rfl rfl rfl hrun ?_
         refine hK _ _ ?_
         clear hK K hrun
         have HB4 := Aside0.mk (HB3.out.trans hb5)
         have HCI := Aside0.mk hciK
         clear ho5 hb5 hciK
         refine wpAnyIn_ready (rs := [6]) (by kernel_rfl) (by simp) ?_
         refine AllReadyIn.cons rfl (fun K hK => ?_) ?_
         ·have hs5 := Step.below (T := T') HB4.out
          have HIH2 := Lib.hid (HIH.out (m - 1) _ T' w5 AK cK nx (hbelow _ _ _ _ HJ.out HB4.out) (HE.out.step hs5) ⟨own_lower HO5.out (hn0 _ _ _ HJ.out), fun ad e ht => absurd (hT _ _ _ HJ.out _ ht) (by have := own_base HO5.out ad.block (by subst e; rfl); omega)⟩ HUr.out hnl HNj.out)
          have HS5 := Aside0.mk hs5
          clear hs5
          go_simp
          refine ⟨trivial, fun h => (by cases h), HIH2.out.mono ?_⟩
          rintro e w6 ⟨rfl, T6, hJ6, hs6⟩
          refine hK _ _ ?_
          clear hK K HIH2
          have HS6 := Aside0.mk (HS5.out.trans hs6)
          have HJ6 : Aside0 (J ((some_ k Js o now i (j + 1)).foldl Col.keep out) T6 w6) := ⟨by rw [some_succ, List.foldl_append, ← HNX.out]; exact hJ6⟩
          clear hJ6 hs6 HS5
          refine wpAnyIn_take (i := 7) (v := ?_) rfl rfl (by kernel_rfl) (by kernel_rfl) (by kernel_rfl) (fun _ _ _ h => h) ⟨Or.inl ⟨by rfl, ?_⟩, fun _ => rfl⟩ ?_
          rotate_left
          ·intro w
           go_simp
           with_reducible rfl
          refine wpAnyIn_done (by kernel_rfl) ?_ _
          gi_wp2
          go_roundw
          case rel => exact ⟨j + 1, T6, by omega, int_next i j, ⟨HE.out.step HS6.out⟩, ⟨HN.out.step HS6.out⟩, HJ6, ⟨HS.out.trans HS6.out⟩⟩
          case measure => simp [intOf]; omega
         exact AllReadyIn.nil
        exact AllReadyIn.nil
       exact AllReadyIn.nil
      refine AllReadyIn.cons rfl (fun K hK => ?_) ?_
      ·go_simp
       refine hK _ _ ?_
       clear hK K
       have HB2 := Aside0.mk (Below.alloc HB1.out HB1.out.size (.cells #[.int .i64 (i + (j : Int))] 3))
       have HL := Aside0.mk (lit_cell wc (i + (j : Int)))
       have HV4 := Aside0.mk (own_alloc HV.out (.cells #[.int .i64 (i + (j : Int))] 3))
       refine wpAnyIn_ready (rs := [0, 5]) (by kernel_rfl) (by simp) ?_
       refine AllReadyIn.cons rfl (fun K hK => ?_) ?_
       ·have hcq := (Below.cell HB2.out (p := ⟨bp, 0, none⟩) hbp).trans hcp
        go_simp
        refine hK _ _ ?_
        clear hK K hcq
        refine wpAnyIn_ready (rs := [5]) (by kernel_rfl) (by simp) ?_
        refine AllReadyIn.cons rfl (fun K hK => ?_) ?_
        ·obtain ⟨v5, w5, hrun, ho5, hb5⟩ := app1 (wc.alloc (.cells #[.int .i64 (i + (j : Int))] 3)) wr.heap.size vc now (i + (j : Int)) HV4.out _ HL.out HB2.out.size (by omega)
         rw [← HNX.out] at ho5
         have HO5 := Aside0.mk ho5
         obtain ⟨AK, cK, rfl, hcK, hciK⟩ := RI.reads (OI.toR ho5)
         refine stepIn_append rfl rfl rfl rfl hrun ?_
         refine hK _ _ ?_
         clear hK K hrun
         have HB4 := Aside0.mk (HB2.out.trans hb5)
         have HCI := Aside0.mk hciK
         clear ho5 hb5 hciK
         refine wpAnyIn_ready (rs := [6]) (by kernel_rfl) (by simp) ?_
         refine AllReadyIn.cons rfl (fun K hK => ?_) ?_
         ·have hs5 := Step.below (T := T') HB4.out
          have HIH2 := Lib.hid (HIH.out (m - 1) _ T' w5 AK cK nx (hbelow _ _ _ _ HJ.out HB4.out) (HE.out.step hs5) ⟨own_lower HO5.out (hn0 _ _ _ HJ.out), fun ad e ht => absurd (hT _ _ _ HJ.out _ ht) (by have := own_base HO5.out ad.block (by subst e; rfl); omega)⟩ HUr.out hnl HNj.out)
          have HS5 := Aside0.mk hs5
          clear hs5
          go_simp
          refine ⟨trivial, fun h => (by cases h), HIH2.out.mono ?_⟩
          rintro e w6 ⟨rfl, T6, hJ6, hs6⟩
          refine hK _ _ ?_
          clear hK K HIH2
          have HS6 := Aside0.mk (HS5.out.trans hs6)
          have HJ6 : Aside0 (J ((some_ k Js o now i (j + 1)).foldl Col.keep out) T6 w6) := ⟨by rw [some_succ, List.foldl_append, ← HNX.out]; exact hJ6⟩
          clear hJ6 hs6 HS5
          refine wpAnyIn_take (i := 7) (v := ?_) rfl rfl (by kernel_rfl) (by kernel_rfl) (by kernel_rfl) (fun _ _ _ h => h) ⟨Or.inl ⟨by rfl, ?_⟩, fun _ => rfl⟩ ?_
          rotate_left
          ·intro w
           go_simp
           with_reducible rfl
          refine wpAnyIn_done (by kernel_rfl) ?_ _
          gi_wp2
          go_roundw
          case rel => exact ⟨j + 1, T6, by omega, int_next i j, ⟨HE.out.step HS6.out⟩, ⟨HN.out.step HS6.out⟩, HJ6, ⟨HS.out.trans HS6.out⟩⟩
          case measure => simp [intOf]; omega
         exact AllReadyIn.nil
        exact AllReadyIn.nil
       refine AllReadyIn.cons rfl (fun K hK => ?_) ?_
       ·obtain ⟨v5, w5, hrun, ho5, hb5⟩ := app1 (wc.alloc (.cells #[.int .i64 (i + (j : Int))] 3)) wr.heap.size vc now (i + (j : Int)) HV4.out _ HL.out HB2.out.size (by omega)
        rw [← HNX.out] at ho5
        have HO5 := Aside0.mk ho5
        obtain ⟨AK, cK, rfl, hcK, hciK⟩ := RI.reads (OI.toR ho5)
        refine stepIn_append rfl rfl rfl rfl hrun ?_
        refine hK _ _ ?_
        clear hK K hrun
        have HB3 := Aside0.mk (HB2.out.trans hb5)
        have HCI := Aside0.mk hciK
        clear ho5 hb5 hciK
        refine wpAnyIn_ready (rs := [0]) (by kernel_rfl) (by simp) ?_
        refine AllReadyIn.cons rfl (fun K hK => ?_) ?_
        ·have hcq := (Below.cell HB3.out (p := ⟨bp, 0, none⟩) hbp).trans hcp
         go_simp
         refine hK _ _ ?_
         clear hK K hcq
         refine wpAnyIn_ready (rs := [6]) (by kernel_rfl) (by simp) ?_
         refine AllReadyIn.cons rfl (fun K hK => ?_) ?_
         ·have hs5 := Step.below (T := T') HB3.out
          have HIH2 := Lib.hid (HIH.out (m - 1) _ T' w5 AK cK nx (hbelow _ _ _ _ HJ.out HB3.out) (HE.out.step hs5) ⟨own_lower HO5.out (hn0 _ _ _ HJ.out), fun ad e ht => absurd (hT _ _ _ HJ.out _ ht) (by have := own_base HO5.out ad.block (by subst e; rfl); omega)⟩ HUr.out hnl HNj.out)
          have HS5 := Aside0.mk hs5
          clear hs5
          go_simp
          refine ⟨trivial, fun h => (by cases h), HIH2.out.mono ?_⟩
          rintro e w6 ⟨rfl, T6, hJ6, hs6⟩
          refine hK _ _ ?_
          clear hK K HIH2
          have HS6 := Aside0.mk (HS5.out.trans hs6)
          have HJ6 : Aside0 (J ((some_ k Js o now i (j + 1)).foldl Col.keep out) T6 w6) := ⟨by rw [some_succ, List.foldl_append, ← HNX.out]; exact hJ6⟩
          clear hJ6 hs6 HS5
          refine wpAnyIn_take (i := 7) (v := ?_) rfl rfl (by kernel_rfl) (by kernel_rfl) (by kernel_rfl) (fun _ _ _ h => h) ⟨Or.inl ⟨by rfl, ?_⟩, fun _ => rfl⟩ ?_
          rotate_left
          ·intro w
           go_simp
           with_reducible rfl
          refine wpAnyIn_done (by kernel_rfl) ?_ _
          gi_wp2
          go_roundw
          case rel => exact ⟨j + 1, T6, by omega, int_next i j, ⟨HE.out.step HS6.out⟩, ⟨HN.out.step HS6.out⟩, HJ6, ⟨HS.out.trans HS6.out⟩⟩
          case measure => simp [intOf]; omega
         exact AllReadyIn.nil
        exact AllReadyIn.nil
       exact AllReadyIn.nil
      exact AllReadyIn.nil
     refine AllReadyIn.cons rfl (fun K hK => ?_) ?_
     ·go_simp
      refine hK _ _ ?_
      clear hK K
      have HB1 := Aside0.mk (Below.alloc HB0.out HB0.out.size (.cells #[.int .i64 (i + (j : Int))] 3))
      have HL := Aside0.mk (lit_cell wr.drew (i + (j : Int)))
      refine wpAnyIn_ready (rs := [0, 2]) (by kernel_rfl) (by simp) ?_
      refine AllReadyIn.cons rfl (fun K hK => ?_) ?_
      ·have hcq := (Below.cell HB1.out (p := ⟨bp, 0, none⟩) hbp).trans hcp
       go_simp
       refine hK _ _ ?_
       clear hK K hcq
       refine wpAnyIn_ready (rs := [2]) (by kernel_rfl) (by simp) ?_
       refine AllReadyIn.cons rfl (fun K hK => ?_) ?_
       ·go_simp
        refine ⟨trivial, fun h => (by cases h), (callsIn_wide.2 (HC.out _ HB1.out)).mono ?_⟩
        rintro e wc ⟨vc, rfl, hvc, hbc⟩
        refine hK _ _ ?_
        clear hK K
        have HB3 := Aside0.mk (below_step HB1.out hbc)
        have HV := Aside0.mk (RI.own (hvc.lower (base' := wr.heap.size) HB1.out.size))
        have HLc := Aside0.mk ((Below.cell hbc (p := ⟨wr.drew.heap.size, 0, none⟩) (lit_lt wr.drew (i + (j : Int)))).trans HL.out)
        clear hvc hbc
        refine wpAnyIn_ready (rs := [5]) (by kernel_rfl) (by simp) ?_
        refine AllReadyIn.cons rfl (fun K hK => ?_) ?_
        ·obtain ⟨v5, w5, hrun, ho5, hb5⟩ := app1 wc wr.heap.size vc now (i + (j : Int)) HV.out _ HLc.out HB3.out.size (by omega)
         rw [← HNX.out] at ho5
         have HO5 := Aside0.mk ho5
         obtain ⟨AK, cK, rfl, hcK, hciK⟩ := RI.reads (OI.toR ho5)
         refine stepIn_append rfl rfl rfl rfl hrun ?_
         refine hK _ _ ?_
         clear hK K hrun
         have HB4 := Aside0.mk (HB3.out.trans hb5)
         have HCI := Aside0.mk hciK
         clear ho5 hb5 hciK
         refine wpAnyIn_ready (rs := [6]) (by kernel_rfl) (by simp) ?_
         refine AllReadyIn.cons rfl (fun K hK => ?_) ?_
         ·have hs5 := Step.below (T := T') HB4.out
          have HIH2 := Lib.hid (HIH.out (m - 1) _ T' w5 AK cK nx (hbelow _ _ _ _ HJ.out HB4.out) (HE.out.step hs5) ⟨own_lower HO5.out (hn0 _ _ _ HJ.out), fun ad e ht => absurd (hT _ _ _ HJ.out _ ht) (by have := own_base HO5.out ad.block (by subst e; rfl); omega)⟩ HUr.out hnl HNj.out)
          have HS5 := Aside0.mk hs5
          clear hs5
          go_simp
          refine ⟨trivial, fun h => (by cases h), HIH2.out.mono ?_⟩
          rintro e w6 ⟨rfl, T6, hJ6, hs6⟩
          refine hK _ _ ?_
          clear hK K HIH2
          have HS6 := Aside0.mk (HS5.out.trans hs6)
          have HJ6 : Aside0 (J ((some_ k Js o now i (j + 1)).foldl Col.keep out) T6 w6) := ⟨by rw [some_succ, List.foldl_append, ← HNX.out]; exact hJ6⟩
          clear hJ6 hs6 HS5
          refine wpAnyIn_take (i := 7) (v := ?_) rfl rfl (by kernel_rfl) (by kernel_rfl) (by kernel_rfl) (fun _ _ _ h => h) ⟨Or.inl ⟨by rfl, ?_⟩, fun _ => rfl⟩ ?_
          rotate_left
          ·intro w
           go_simp
           with_reducible rfl
          refine wpAnyIn_done (by kernel_rfl) ?_ _
          gi_wp2
          go_roundw
          case rel => exact ⟨j + 1, T6, by omega, int_next i j, ⟨HE.out.step HS6.out⟩, ⟨HN.out.step HS6.out⟩, HJ6, ⟨HS.out.trans HS6.out⟩⟩
          case measure => simp [intOf]; omega
         exact AllReadyIn.nil
        exact AllReadyIn.nil
       exact AllReadyIn.nil
      refine AllReadyIn.cons rfl (fun K hK => ?_) ?_
      ·go_simp
       refine ⟨trivial, fun h => (by cases h), (callsIn_wide.2 (HC.out _ HB1.out)).mono ?_⟩
       rintro e wc ⟨vc, rfl, hvc, hbc⟩
       refine hK _ _ ?_
       clear hK K
       have HB2 := Aside0.mk (below_step HB1.out hbc)
       have HV := Aside0.mk (RI.own (hvc.lower (base' := wr.heap.size) HB1.out.size))
       have HLc := Aside0.mk ((Below.cell hbc (p := ⟨wr.drew.heap.size, 0, none⟩) (lit_lt wr.drew (i + (j : Int)))).trans HL.out)
       clear hvc hbc
       refine wpAnyIn_ready (rs := [0, 5]) (by kernel_rfl) (by simp) ?_
       refine AllReadyIn.cons rfl (fun K hK => ?_) ?_
       ·have hcq := (Below.cell HB2.out (p := ⟨bp, 0, none⟩) hbp).trans hcp
        go_simp
        refine hK _ _ ?_
        clear hK K hcq
        refine wpAnyIn_ready (rs := [5]) (by kernel_rfl) (by simp) ?_
        refine AllReadyIn.cons rfl (fun K hK => ?_) ?_
        ·obtain ⟨v5, w5, hrun, ho5, hb5⟩ := app1 wc wr.heap.size vc now (i + (j : Int)) HV.out _ HLc.out HB2.out.size (by omega)
         rw [← HNX.out] at ho5
         have HO5 := Aside0.mk ho5
         obtain ⟨AK, cK, rfl, hcK, hciK⟩ := RI.reads (OI.toR ho5)
         refine stepIn_append rfl rfl rfl rfl hrun ?_
         refine hK _ _ ?_
         clear hK K hrun
         have HB4 := Aside0.mk (HB2.out.trans hb5)
         have HCI := Aside0.mk hciK
         clear ho5 hb5 hciK
         refine wpAnyIn_ready (rs := [6]) (by kernel_rfl) (by simp) ?_
         refine AllReadyIn.cons rfl (fun K hK => ?_) ?_
         ·have hs5 := Step.below (T := T') HB4.out
          have HIH2 := Lib.hid (HIH.out (m - 1) _ T' w5 AK cK nx (hbelow _ _ _ _ HJ.out HB4.out) (HE.out.step hs5) ⟨own_lower HO5.out (hn0 _ _ _ HJ.out), fun ad e ht => absurd (hT _ _ _ HJ.out _ ht) (by have := own_base HO5.out ad.block (by subst e; rfl); omega)⟩ HUr.out hnl HNj.out)
          have HS5 := Aside0.mk hs5
          clear hs5
          go_simp
          refine ⟨trivial, fun h => (by cases h), HIH2.out.mono ?_⟩
          rintro e w6 ⟨rfl, T6, hJ6, hs6⟩
          refine hK _ _ ?_
          clear hK K HIH2
          have HS6 := Aside0.mk (HS5.out.trans hs6)
          have HJ6 : Aside0 (J ((some_ k Js o now i (j + 1)).foldl Col.keep out) T6 w6) := ⟨by rw [some_succ, List.foldl_append, ← HNX.out]; exact hJ6⟩
          clear hJ6 hs6 HS5
          refine wpAnyIn_take (i := 7) (v := ?_) rfl rfl (by kernel_rfl) (by kernel_rfl) (by kernel_rfl) (fun _ _ _ h => h) ⟨Or.inl ⟨by rfl, ?_⟩, fun _ => rfl⟩ ?_
          rotate_left
          ·intro w
           go_simp
           with_reducible rfl
          refine wpAnyIn_done (by kernel_rfl) ?_ _
          gi_wp2
          go_roundw
          case rel => exact ⟨j + 1, T6, by omega, int_next i j, ⟨HE.out.step HS6.out⟩, ⟨HN.out.step HS6.out⟩, HJ6, ⟨HS.out.trans HS6.out⟩⟩
          case measure => simp [intOf]; omega
         exact AllReadyIn.nil
        exact AllReadyIn.nil
       refine AllReadyIn.cons rfl (fun K hK => ?_) ?_
       ·obtain ⟨v5, w5, hrun, ho5, hb5⟩ := app1 wc wr.heap.size vc now (i + (j : Int)) HV.out _ HLc.out HB2.out.size (by omega)
        rw [← HNX.out] at ho5
        have HO5 := Aside0.mk ho5
        obtain ⟨AK, cK, rfl, hcK, hciK⟩ := RI.reads (OI.toR ho5)
        refine stepIn_append rfl rfl rfl rfl hrun ?_
        refine hK _ _ ?_
        clear hK K hrun
        have HB3 := Aside0.mk (HB2.out.trans hb5)
        have HCI := Aside0.mk hciK
        clear ho5 hb5 hciK
        refine wpAnyIn_ready (rs := [0]) (by kernel_rfl) (by simp) ?_
        refine AllReadyIn.cons rfl (fun K hK => ?_) ?_
        ·have hcq := (Below.cell HB3.out (p := ⟨bp, 0, none⟩) hbp).trans hcp
         go_simp
         refine hK _ _ ?_
         clear hK K hcq
         refine wpAnyIn_ready (rs := [6]) (by kernel_rfl) (by simp) ?_
         refine AllReadyIn.cons rfl (fun K hK => ?_) ?_
         ·have hs5 := Step.below (T := T') HB3.out
          have HIH2 := Lib.hid (HIH.out (m - 1) _ T' w5 AK cK nx (hbelow _ _ _ _ HJ.out HB3.out) (HE.out.step hs5) ⟨own_lower HO5.out (hn0 _ _ _ HJ.out), fun ad e ht => absurd (hT _ _ _ HJ.out _ ht) (by have := own_base HO5.out ad.block (by subst e; rfl); omega)⟩ HUr.out hnl HNj.out)
          have HS5 := Aside0.mk hs5
          clear hs5
          go_simp
          refine ⟨trivial, fun h => (by cases h), HIH2.out.mono ?_⟩
          rintro e w6 ⟨rfl, T6, hJ6, hs6⟩
          refine hK _ _ ?_
          clear hK K HIH2
          have HS6 := Aside0.mk (HS5.out.trans hs6)
          have HJ6 : Aside0 (J ((some_ k Js o now i (j + 1)).foldl Col.keep out) T6 w6) := ⟨by rw [some_succ, List.foldl_append, ← HNX.out]; exact hJ6⟩
          clear hJ6 hs6 HS5
          refine wpAnyIn_take (i := 7) (v := ?_) rfl rfl (by kernel_rfl) (by kernel_rfl) (by kernel_rfl) (fun _ _ _ h => h) ⟨Or.inl ⟨by rfl, ?_⟩, fun _ => rfl⟩ ?_
          rotate_left
          ·intro w
           go_simp
           with_reducible rfl
          refine wpAnyIn_done (by kernel_rfl) ?_ _
          gi_wp2
          go_roundw
          case rel => exact ⟨j + 1, T6, by omega, int_next i j, ⟨HE.out.step HS6.out⟩, ⟨HN.out.step HS6.out⟩, HJ6, ⟨HS.out.trans HS6.out⟩⟩
          case measure => simp [intOf]; omega
         exact AllReadyIn.nil
        exact AllReadyIn.nil
       exact AllReadyIn.nil
      exact AllReadyIn.nil
     exact AllReadyIn.nil

    ·have e : o.toNat + 1 = j := by omega
     gi_wp2
     go_ret
     exact ⟨rfl, T', HJ.out, HS.out⟩
end Go.Proofs.YtohlmoppcmjknaaGreatDoor.X
end
