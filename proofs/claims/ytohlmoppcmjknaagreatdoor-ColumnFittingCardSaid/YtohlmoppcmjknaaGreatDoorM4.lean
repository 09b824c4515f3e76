/- Contracts of the program's functions, and the words that their proofs take (joined out of several texts). -/
import Derived.MapKept
import Derived.Deep.QuietTactic
import Derived.BigQuiet
import Derived.Deep.RegionHeld3
import Derived.Deep.AppendLies
import Derived.Test.YtohlmoppcmjknaaGreatDoorM1
import Derived.Test.YtohlmoppcmjknaaGreatDoorM2
import Derived.Test.YtohlmoppcmjknaaGreatDoorM3
section
namespace Go.Proofs.YtohlmoppcmjknaaGreatDoor.X
open Go.RowKit Go.Proofs.YtohlmoppcmjknaaGreatDoorW.PrintWords Go.Proofs.YtohlmoppcmjknaaGreatDoorW.PrintLast Go.Proofs.YtohlmoppcmjknaaGreatDoorW.PrintMore
set_option linter.unusedVariables false
set_option linter.unusedSimpArgs false
def encP (x : Int × Int) : Value := .agg #[.int .i64 x.1, .int .i64 x.2]
theorem eqPlace (d : Nat) (w : World) (x0 y0 : Int) (x1 y1 : Int) :
  (Op.equalIn (d + 2) 120 (.agg #[.int .i64 x0, .int .i64 x1]) (.agg #[.int .i64 y0, .int .i64 y1])).run Tryz.prog w = .ok (x0 == y0 && (x1 == y1)) w := by
 refine eqA_of Tryz.underlying120 (by kernel_rfl) ?_
 refine eqf_cons (by rfl) (by go_simp; rfl) (by go_simp; rfl) (by go_simp) ?_
 exact eqf_last (by rfl) (by go_simp; rfl) (by go_simp; rfl) (by go_simp)
theorem equalPlace (w : World) (x y : Int × Int) : (Op.equal 120 (encP x) (encP y)).run Tryz.prog w = .ok (x == y) w := by
 have h := eqPlace 9998 w x.1 y.1 x.2 y.2
 obtain ⟨x1, x2⟩ := x
 obtain ⟨y1, y2⟩ := y
 exact h
theorem checkPlace (e : Bool) (x : Int × Int) (w : World) : (Instr.checkKey e 10000 120 (encP x)).run Tryz.prog w = .ok () w := by
 kernel_rfl
theorem findAskingPlace (x : Int × Int) (w : World) : ∀ (es : List MapEntry) (ps : List (Int × Int)) (i : Nat), (∀ e ∈ es, e.val = .agg #[]) → es.map (·.key) = ps.map encP →
  ∃ r, (Instr.findAsking 120 (encP x) es i).run Tryz.prog w = .ok r w ∧ r.isSome = ps.contains x ∧ ∀ y, r = some y → y.2 = .agg #[] := by
 intro es
 induction es with
 | nil =>
  intro ps i hv h
  cases ps with
  | nil => exact ⟨none, rfl, rfl, fun y hy => by cases hy⟩
  | cons p ps => cases h
 | cons e es ih =>
  intro ps i hv h
  cases ps with
  | nil => cases h
  | cons p ps =>
   obtain ⟨hk, ht⟩ := List.cons.inj h
   have hq := equalPlace w x p
   rw [← hk] at hq
   obtain ⟨r, hr, hs, hy⟩ := ih ps (i + 1) (fun e he => hv e (List.mem_cons_of_mem _ he)) ht
   cases hb : x == p with
   | true =>
    rw [hb] at hq
    refine ⟨some (i, e.val), ?_, ?_, fun y hy => by cases hy; exact hv e List.mem_cons_self⟩
    ·simp only [Instr.findAsking]
     simp [hq, Result.andThen]
    ·rw [List.contains_cons, hb]; rfl
   | false =>
    rw [hb] at hq
    refine ⟨r, ?_, ?_, hy⟩
    ·simp only [Instr.findAsking]
     simp [hq, hr, Result.andThen]
    ·rw [List.contains_cons, hb, hs]; rfl
theorem findKeyPlace (x : Int × Int) (w : World) (es : List MapEntry) (ps : List (Int × Int)) (hv : ∀ e ∈ es, e.val = .agg #[]) (h : es.map (·.key) = ps.map encP) :
  ∃ r, (Instr.findKey 120 (encP x) es).run Tryz.prog w = .ok r w ∧ r.isSome = ps.contains x ∧ ∀ y, r = some y → y.2 = .agg #[] := by
 obtain ⟨r, hr, hs, hy⟩ := findAskingPlace x w es ps 0 hv h
 refine ⟨r, ?_, hs, hy⟩
 unfold Instr.findKey
 simp only [Sem.run_bind, run_underlying Tryz.underlying120, Result.andThen]
 cases es with
 | nil =>
  simp only [Instr.findAsking] at hr
  simpa [Instr.findNow] using hr
 | cons e es => simpa [Instr.findNow, Instr.sameNow] using hr
def Met (w : World) (b : Nat) (ps : List (Int × Int)) : Prop := ∃ es clock, w.heap[b]? = some (.map es clock) ∧ es.toList.map (·.key) = ps.map encP ∧ ∀ e ∈ es.toList, e.val = .agg #[]
theorem Met.lookup {w : World} {b : Nat} {ps : List (Int × Int)} (h : Met w b ps) (x : Int × Int) :
  (Instr.lookup 88 (.map (some b)) (encP x) true).run Tryz.prog w = .ok (.tuple #[.agg #[], .bool (ps.contains x)]) w := by
 obtain ⟨es, clock, hb, hk, hv⟩ := h
 obtain ⟨r, hr, hs, hy⟩ := findKeyPlace x w es.toList ps hv hk
 have hc := checkPlace es.isEmpty x w
 rw [← hs]
 cases r with
 | none =>
  unfold Instr.lookup
  simp [run_underlying Tryz.underlying88, MapKept.run_getObj_map hb, hc, hr, Tryz.zeroValue118, Result.andThen]
 | some r =>
  have e := hy r rfl
  obtain ⟨r1, r2⟩ := r
  simp only at e
  subst e
  unfold Instr.lookup
  simp [run_underlying Tryz.underlying88, MapKept.run_getObj_map hb, hc, hr, Result.andThen]
theorem Met.update {w : World} {b : Nat} {ps : List (Int × Int)} (h : Met w b ps) (x : Int × Int) (hn : ps.contains x = false) :
  ∃ w', (Instr.mapUpdate 88 (.map (some b)) (encP x) (.agg #[])).run Tryz.prog w = .ok () w' ∧ Met w' b (ps ++ [x]) ∧ w.grownBy w' (some b) := by
 obtain ⟨es, clock, hb, hk, hv⟩ := h
 obtain ⟨r, hr, hs, hy⟩ := findKeyPlace x w es.toList ps hv hk
 have hc := checkPlace false x w
 rw [hn] at hs
 obtain rfl : r = none := by cases r <;> simp at hs ⊢
 refine ⟨{ w with heap := w.heap.setIfInBounds b (.map (es.push { key := encP x, val := .agg #[], born := clock }) (clock + 1)) }, ?_, ?_, ?_⟩
 ·unfold Instr.mapUpdate
  simp [run_underlying Tryz.underlying88, MapKept.run_getObj_map hb, hc, hr, Result.andThen, MapKept.run_setObj_map _ hb]
 ·refine ⟨es.push { key := encP x, val := .agg #[], born := clock }, clock + 1, ?_, ?_, ?_⟩
  ·have hlt : b < w.heap.size := (Array.getElem?_eq_some_iff.1 hb).1
   simp [Array.getElem?_setIfInBounds, hlt]
  ·simp [hk]
  ·intro e he
   rw [Array.toList_push, List.mem_append] at he
   rcases he with he | he
   ·exact hv e he
   ·rw [List.mem_singleton.1 he]
 ·refine ⟨rfl, rfl, rfl, by simp, fun i _ hi => ?_⟩
  have : b ≠ i := fun e => hi (by rw [e])
  simp [Array.getElem?_setIfInBounds, this]
end Go.Proofs.YtohlmoppcmjknaaGreatDoor.X
end
section
namespace Go.Proofs.YtohlmoppcmjknaaGreatDoor.X
open Go.RowKit Go.Proofs.YtohlmoppcmjknaaGreatDoorW.PrintWords Go.Proofs.YtohlmoppcmjknaaGreatDoorW.PrintLast Go.Proofs.YtohlmoppcmjknaaGreatDoorW.PrintMore
open Go.Proofs.YtohlmoppcmjknaaGreatDoor.Col (nth)
set_option linter.unusedVariables false
set_option linter.unusedSimpArgs false
abbrev shV (A : Option Addr) (n c : Nat) (o lo hi : Int) (AW : Option Addr) (m cw : Nat) (b : Nat) : Value :=
 .agg #[.slice A n c, .int .i64 o, .int .i64 lo, .int .i64 hi, .slice AW m cw, .map (some b)]
set_option maxHeartbeats 2000000 in
set_option maxRecDepth 100000 in
theorem jumps_calls (A : Option Addr) (n c : Nat) (o lo hi : Int) (AW : Option Addr) (cw b : Nat) (ws : List Int) (i : Nat) (hi_ : i < ws.length) (w : World) (hw : CI w AW ws) :
  Calls Tryz.prog 99 #[shV A n c o lo hi AW ws.length cw b, .int .i64 (i : Int)] w fun e w' => e = .returned (.bool (Col.jumpsAt ws lo hi i)) ∧ Below w.heap.size w w' := by
 have hlen := hw.len
 obtain ⟨ad, rfl, hc⟩ := hw.at_ i hi_
 have HC := Lib.hid (in_calls (nth ws i) lo hi)
 have he : Col.jumpsAt ws lo hi i = !Col.inr (nth ws i) lo hi := rfl
 rw [he]
 clear he hw
 generalize Col.inr (nth ws i) lo hi = bb at HC ⊢
 generalize nth ws i = x at hc HC
 have hlt := World.block_lt_of_cell? w _ hc
 go_enter Tryz.func99, Tryz.ntmps99
 go_wp2_with fail
 go_quiet ((go_at_call 72; exact Calls.quiet_of_same ((HC.out _).mono fun _ _ h => ⟨h.1, h.2.symm⟩)))
 go_wp2
 go_ret
 exact ⟨rfl, pw_below_drewN ((Below.refl _ _).alloc (Nat.le_refl _) _) _⟩
set_option maxHeartbeats 2000000 in
set_option maxRecDepth 100000 in
theorem jumping_calls (A : Option Addr) (n c : Nat) (o lo hi : Int) (AW : Option Addr) (cw b : Nat) (ws : List Int) (hl : ws.length ≤ 1000) (w : World) (hw : CI w AW ws) :
  Calls Tryz.prog 69 #[shV A n c o lo hi AW ws.length cw b] w fun e w' => ∃ v, e = .returned v ∧ RI w' w.heap.size v (Col.jumping ws lo hi) ∧ Below w.heap.size w w' := by
 have HW := Aside0.mk hw
 clear hw
 go_enter Tryz.func69, Tryz.ntmps69
 go_wp2
 go_loopw [3, 8] (fun v i wr => ∃ k : Nat, k ≤ ws.length ∧ i = .int .i64 (k : Int) ∧ Aside0 (OI wr (w.heap.size + 1) v (Col.jumpingTo ws lo hi k)) ∧ Aside0 (Below (w.heap.size + 1) (w.alloc (.cells #[.slice A n c, .int .i64 o, .int .i64 lo, .int .i64 hi, .slice AW ws.length cw, .map (some b)] 90)) wr)) (fun _ i _ => ws.length - (intOf i).toNat)
 case atStart => exact ⟨0, by omega, rfl, ⟨OI.nil _ _⟩, ⟨Below.refl _ _⟩⟩
 case round =>
  obtain ⟨k, hk, rfl, HO, HB⟩ := hrel
  have hc0 := box_cell HB.out 0 rfl
  have hc1 := box_cell HB.out 1 rfl
  have hc2 := box_cell HB.out 2 rfl
  have hc3 := box_cell HB.out 3 rfl
  have hc4 := box_cell HB.out 4 rfl
  have hc5 := box_cell HB.out 5 rfl
  by_cases hlt : k < ws.length
  ·have HJ := Lib.hid (jumps_calls A n c o lo hi AW cw b ws k hlt)
   cases hx : Col.jumpsAt ws lo hi k with
   | true =>
    rw [hx] at HJ
    have HX := Lib.hid (Col.jumpingTo_yes hx)
    clear hx
    go_wp2_with fail
    refine (HJ.out _ (HW.out.below (below_box HB.out))).mono ?_
    rintro e w' ⟨rfl, hb⟩
    have HB' := Aside0.mk (HB.out.trans (hb.mono (by have := HB.out.size; simp at this; exact this)))
    have HO' := Aside0.mk (pw_own_below HO.out hb)
    clear HB HO hb hc0 hc1 hc2 hc3 hc4 hc5
    have hjl := Col.jumpingTo_length ws lo hi k
    go_wp2_with (at_builtin; refine print_append_num (w0 := w.alloc (.cells #[.slice A n c, .int .i64 o, .int .i64 lo, .int .i64 hi, .slice AW ws.length cw, .map (some b)] 90)) (w.heap.size + 1) rfl (.tmp 14) (.tmp 16) 22 3 .i64 8 rfl Tryz.underlying22 info_int (by decide) _ (Col.jumpingTo ws lo hi k) (k : Int) rfl rfl ?hO ?hB ?hb ?hl ?_)
    case hO => exact HO'.out
    case hB => exact HB'.out
    case hb => have := HB'.out.size; simp at this; exact this
    case hl => omega
    intro v1 w1 ho hb hg hat
    have HO2 : Aside0 (OI w1 (w.heap.size + 1) v1 (Col.jumpingTo ws lo hi (k + 1))) := ⟨by rw [HX.out]; unfold OI; rw [List.length_append]; simpa using ho⟩
    have HB2 := Aside0.mk hb
    clear ho hb hg hat HO' HB' hjl
    go_wp2
    go_roundw
    case rel => exact ⟨k + 1, by omega, by go_num, HO2, HB2⟩
    case measure => simp [intOf]; omega
   | false =>
    rw [hx] at HJ
    have HX := Lib.hid (Col.jumpingTo_no hx)
    clear hx
    go_wp2_with fail
    refine (HJ.out _ (HW.out.below (below_box HB.out))).mono ?_
    rintro e w' ⟨rfl, hb⟩
    have HB' := Aside0.mk (HB.out.trans (hb.mono (by have := HB.out.size; simp at this; exact this)))
    have HO' := Aside0.mk (pw_own_below HO.out hb)
    clear HB HO hb hc0 hc1 hc2 hc3 hc4 hc5
    go_wp2
    go_roundw
    case rel => exact ⟨k + 1, by omega, by go_num, by rw [HX.out]; exact HO', HB'⟩
    case measure => simp [intOf]; omega
  ·have e : k = ws.length := by omega
   subst e
   clear hc0 hc1 hc2 hc3 hc4 hc5
   go_wp2
   go_ret
   exact ⟨_, rfl, (OI.toR HO.out).lower (by omega), below_box HB.out⟩
end Go.Proofs.YtohlmoppcmjknaaGreatDoor.X
end
section
namespace Go.Proofs.YtohlmoppcmjknaaGreatDoor.X
open Go.RowKit Go.Proofs.YtohlmoppcmjknaaGreatDoorW.PrintWords Go.Proofs.YtohlmoppcmjknaaGreatDoorW.PrintLast Go.Proofs.YtohlmoppcmjknaaGreatDoorW.PrintMore
open Go.Proofs.YtohlmoppcmjknaaGreatDoor.Col (nth)
set_option linter.unusedVariables false
set_option linter.unusedSimpArgs false
theorem Met.below {w w' : World} {b : Nat} {ps : List (Int × Int)} (h : Met w b ps) (hb : Below w.heap.size w w') : Met w' b ps := by
 obtain ⟨es, clock, h1, h2⟩ := h
 exact ⟨es, clock, (hb.block b (Array.getElem?_eq_some_iff.1 h1).1).trans h1, h2⟩
theorem Met.setCell {w : World} {b : Nat} {ps : List (Int × Int)} (h : Met w b ps) {a : Addr} (ha : b ≠ a.block) (u : Value) : Met (w.setCell a u) b ps := by
 obtain ⟨es, clock, h1, h2⟩ := h
 exact ⟨es, clock, (Below.heap_setCell _ _ _ _ ha).trans h1, h2⟩
theorem CI.upd {w w' : World} {A : Option Addr} {l : List Int} {b : Nat} {ps : List (Int × Int)} (h : CI w A l) (hm : Met w b ps) (hg : w.grownBy w' (some b)) : CI w' A l := by
 obtain ⟨es, clock, h1, _⟩ := hm
 refine ⟨h.1, h.2.1, fun hn => ?_⟩
 obtain ⟨ad, e, hc⟩ := h.2.2 hn
 refine ⟨ad, e, fun j p hp => ?_⟩
 obtain ⟨c, hl, hr, hcell⟩ := hc j p hp
 refine ⟨c, hl, hr, fun i u hu => ?_⟩
 have hx := hcell i u hu
 have hblk := World.block_lt_of_cell? w _ hx
 rw [World.cell?_of_block (w := w) (hg.block _ hblk (fun e => by
  injection e with e
  unfold World.cell? at hx
  rw [e, h1] at hx
  cases hx))]
 exact hx
structure St (w wr : World) (A : Option Addr) (n c : Nat) (o lo hi : Int) (AW : Option Addr) (cw : Nat) (ws : List Int) (ps : List (Int × Int)) : Prop where
 b0 : wr.heap[w.heap.size]? = some (.cells #[.slice A n c, .int .i64 o, .int .i64 lo, .int .i64 hi] 26 (0, 0))
 b1 : wr.heap[w.heap.size + 1]? = some (.cells #[.slice none 0 0, .int .i64 0, .int .i64 0, .int .i64 0, .slice none 0 0, .map none] 90 (0, 0))
 b3 : wr.heap[w.heap.size + 1 + 1 + 1]? = some (.cells #[.slice A n c, .int .i64 o, .int .i64 lo, .int .i64 hi, .slice AW ws.length cw, .map (some (w.heap.size + 1 + 1))] 90 (0, 0))
 met : Met wr (w.heap.size + 1 + 1) ps
 ci : CI wr AW ws
 below : Below w.heap.size w wr
section
variable {w wr w' : World} {A : Option Addr} {n c : Nat} {o lo hi : Int} {AW : Option Addr} {cw : Nat} {ws : List Int} {ps ps' : List (Int × Int)}
theorem St.step (h : St w wr A n c o lo hi AW cw ws ps) (hb : Below wr.heap.size wr w') : St w w' A n c o lo hi AW cw ws ps :=
 ⟨blk_below h.b0 hb, blk_below h.b1 hb, blk_below h.b3 hb, h.met.below hb, h.ci.below hb, below_step h.below hb⟩
theorem St.upd (h : St w wr A n c o lo hi AW cw ws ps) (hm : Met w' (w.heap.size + 1 + 1) ps') (hg : wr.grownBy w' (some (w.heap.size + 1 + 1))) : St w w' A n c o lo hi AW cw ws ps' :=
 ⟨blk_grown h.b0 hg (by simp; omega), blk_grown h.b1 hg (by simp), blk_grown h.b3 hg (by simp), hm, h.ci.upd h.met hg, h.below.grown hg h.below.size (fun k e => by injection e with e; omega)⟩
end
theorem world_four {w : World} {o0 o1 o2 o3 : Obj} {G : World → Prop}
  (h : ∀ W, W.heap[w.heap.size]? = some o0 → W.heap[w.heap.size + 1]? = some o1 → W.heap[w.heap.size + 1 + 1]? = some o2 → W.heap[w.heap.size + 1 + 1 + 1]? = some o3 → Below w.heap.size w W → G W) :
  G ((((w.alloc o0).alloc o1).alloc o2).alloc o3) := by
 refine h _ ?_ ?_ ?_ ?_ ?_
 ·exact blk_alloc (blk_alloc (blk_alloc (blk_new _ _) _) _) _
 ·have := blk_alloc (blk_alloc (blk_new (w.alloc o0) o1) o2) o3
  simpa using this
 ·have := blk_alloc (blk_new ((w.alloc o0).alloc o1) o2) o3
  simpa using this
 ·have := blk_new (((w.alloc o0).alloc o1).alloc o2) o3
  simpa using this
 ·exact ((((Below.refl _ _).alloc (Nat.le_refl _) _).alloc (by simp) _).alloc (by simp; omega) _).alloc (by simp; omega) _
theorem add_block (ad : Addr) (j : Nat) : (ad.add j).block = ad.block := by unfold Addr.add; split <;> rfl
theorem CI.setCell {w : World} {A : Option Addr} {l : List Int} (h : CI w A l) {p : Addr} (hp : ∀ ad, A = some ad → 0 < l.length → ad.block ≠ p.block) (u : Value) : CI (w.setCell p u) A l := by
 refine ⟨h.1, h.2.1, fun hn => ?_⟩
 obtain ⟨ad, e, hc⟩ := h.2.2 hn
 refine ⟨ad, e, fun j x hx => ?_⟩
 obtain ⟨c, hl, hr, hcell⟩ := hc j x hx
 refine ⟨c, hl, hr, fun i v hv => ?_⟩
 have hb : (ad.add (j * (Kd.int .i64).sz + i)).block ≠ p.block := by rw [add_block]; exact hp ad e hn
 rw [World.cell?_of_block (w := w) (Below.heap_setCell w p u _ hb)]
 exact hcell i v hv
theorem RI.reads_far {w : World} {base : Nat} {v : Value} {l : List Int} (h : RI w base v l) :
  ∃ A c, v = .slice A l.length c ∧ l.length ≤ c ∧ CI w A l ∧ ∀ ad, A = some ad → 0 < l.length → base ≤ ad.block := by
 have ho := RI.own h
 obtain ⟨A, c, rfl, hc, hr⟩ := RI.reads h
 refine ⟨A, c, rfl, hc, hr, fun ad e hn => ?_⟩
 subst e
 exact own_base ho ad.block rfl
theorem St.mk_store {w w1 : World} {A : Option Addr} {n c : Nat} {o lo hi : Int} {AW : Option Addr} {cw : Nat} {ws : List Int}
  (b0 : w1.heap[w.heap.size]? = some (.cells #[.slice A n c, .int .i64 o, .int .i64 lo, .int .i64 hi] 26 (0, 0)))
  (b1 : w1.heap[w.heap.size + 1]? = some (.cells #[.slice none 0 0, .int .i64 0, .int .i64 0, .int .i64 0, .slice none 0 0, .map none] 90 (0, 0)))
  (b3 : w1.heap[w.heap.size + 1 + 1 + 1]? = some (.cells #[.slice A n c, .int .i64 o, .int .i64 lo, .int .i64 hi, .slice none 0 0, .map (some (w.heap.size + 1 + 1))] 90 (0, 0)))
  (hm : Met w1 (w.heap.size + 1 + 1) []) (hw : CI w1 AW ws) (hA : ∀ ad, AW = some ad → 0 < ws.length → w.heap.size + 1 + 1 + 1 < ad.block) (hb : Below w.heap.size w w1) :
  St w (w1.setCell ⟨w.heap.size + 1 + 1 + 1, 4, none⟩ (.slice AW ws.length cw)) A n c o lo hi AW cw ws [] :=
 ⟨blk_far b0 (by simp; omega) _, blk_far b1 (by simp) _, blk_put b3 4 _ rfl, hm.setCell (by simp) _, hw.setCell (fun ad e hn => by have := hA ad e hn; simp; omega) _, hb.setCell (by simp; omega) _⟩
theorem small_parts {l : List Int} {o lo hi : Int} (h : Col.small l o lo hi = true) : 1 ≤ l.length ∧ l.length ≤ 15 ∧ 1 ≤ o ∧ o ≤ 3 ∧ -99999 ≤ lo ∧ lo ≤ 99999 ∧ -99999 ≤ hi ∧ hi ≤ 99999 ∧ Col.Bd l 9999 := by
 unfold Col.small at h
 simp only [Bool.and_eq_true] at h
 obtain ⟨⟨⟨⟨h1, h2⟩, h3⟩, h4⟩, h5⟩ := h
 simp only [Col.inr, Bool.and_eq_true, decide_eq_true_eq] at h1 h2 h3 h4
 exact ⟨by omega, by omega, h2.1, h2.2, h3.1, h3.2, h4.1, h4.2, Col.bd_of_all h5⟩
theorem fin_of {w wr : World} {A : Option Addr} {n c : Nat} {o lo hi : Int} {AW : Option Addr} {cw : Nat} {ws : List Int} {ps : List (Int × Int)} (h : St w wr A n c o lo hi AW cw ws ps) (hA : ∀ ad, AW = some ad → 0 < ws.length → w.heap.size + 1 + 1 + 1 < ad.block) (hcw : ws.length ≤ cw) (v0 v1 v2 v3 v4 v5 : Value) :
  ∃ AW' cw' b, (Ending.returned (shV A n c o lo hi AW ws.length cw (w.heap.size + 1 + 1)) = .returned (shV A n c o lo hi AW' ws.length cw' b)) ∧
   CI ((((((wr.setCell ⟨w.heap.size + 1, 0, none⟩ v0).setCell ⟨w.heap.size + 1, 1, none⟩ v1).setCell ⟨w.heap.size + 1, 2, none⟩ v2).setCell ⟨w.heap.size + 1, 3, none⟩ v3).setCell ⟨w.heap.size + 1, 4, none⟩ v4).setCell ⟨w.heap.size + 1, 5, none⟩ v5) AW' ws ∧
   Met ((((((wr.setCell ⟨w.heap.size + 1, 0, none⟩ v0).setCell ⟨w.heap.size + 1, 1, none⟩ v1).setCell ⟨w.heap.size + 1, 2, none⟩ v2).setCell ⟨w.heap.size + 1, 3, none⟩ v3).setCell ⟨w.heap.size + 1, 4, none⟩ v4).setCell ⟨w.heap.size + 1, 5, none⟩ v5) b ps ∧ ws.length ≤ cw' ∧
   Below w.heap.size w ((((((wr.setCell ⟨w.heap.size + 1, 0, none⟩ v0).setCell ⟨w.heap.size + 1, 1, none⟩ v1).setCell ⟨w.heap.size + 1, 2, none⟩ v2).setCell ⟨w.heap.size + 1, 3, none⟩ v3).setCell ⟨w.heap.size + 1, 4, none⟩ v4).setCell ⟨w.heap.size + 1, 5, none⟩ v5) := by
 have hne : ∀ (j : Nat) ad, AW = some ad → 0 < ws.length → ad.block ≠ (⟨w.heap.size + 1, j, none⟩ : Addr).block := fun j ad e hn => by have := hA ad e hn; simp; omega
 have hm : ∀ (j : Nat), w.heap.size + 1 + 1 ≠ (⟨w.heap.size + 1, j, none⟩ : Addr).block := fun j => by simp
 have hb : ∀ (j : Nat), w.heap.size ≤ (⟨w.heap.size + 1, j, none⟩ : Addr).block := fun j => by simp
 exact ⟨AW, cw, w.heap.size + 1 + 1, rfl, (((((h.ci.setCell (hne 0) _).setCell (hne 1) _).setCell (hne 2) _).setCell (hne 3) _).setCell (hne 4) _).setCell (hne 5) _,
  (((((h.met.setCell (hm 0) _).setCell (hm 1) _).setCell (hm 2) _).setCell (hm 3) _).setCell (hm 4) _).setCell (hm 5) _, hcw,
  (((((h.below.setCell (hb 0) _).setCell (hb 1) _).setCell (hb 2) _).setCell (hb 3) _).setCell (hb 4) _).setCell (hb 5) _⟩
set_option maxHeartbeats 4000000 in
set_option maxRecDepth 100000 in
theorem sheetOf_calls (A : Option Addr) (c : Nat) (l : List Int) (o lo hi : Int) (w : World) (hl : CI w A l) (hc : l.length ≤ c) (hs : Col.small l o lo hi = true) :
  Calls Tryz.prog 66 #[.agg #[.slice A l.length c, .int .i64 o, .int .i64 lo, .int .i64 hi]] w fun e w' =>
   ∃ AW' cw' b, e = .returned (shV A l.length c o lo hi AW' (Col.wins l o).length cw' b) ∧ CI w' AW' (Col.wins l o) ∧ Met w' b (Col.metsTo (Col.wins l o) o lo hi (Col.wins l o).length) ∧ (Col.wins l o).length ≤ cw' ∧ Below w.heap.size w w' := by
 obtain ⟨l1, l15, h1, h3, _, _, _, _, hbd⟩ := small_parts hs
 have HL := Aside0.mk hl
 have hmm := @run_makeMap Tryz.prog
 have hwl : (Col.wins l o).length ≤ 15 := by unfold Col.wins; split <;> simp [Col.diffs_length]; omega
 have HBD := Aside0.mk hbd
 clear hl hbd hs
 by_cases hlo : o < l.length
 ·have hw : Col.wins l o = Col.diffs o.toNat l := by unfold Col.wins; rw [if_pos hlo]
  have HD := Lib.hid (P.column_differences.calls A c l o (Col.diffs o.toNat l))
  rw [← hw] at HD
  generalize hws : Col.wins l o = ws at *
  have HF : Hid (Col.fdiffs l o = some ws) := Lib.hid (by unfold Col.fdiffs; rw [if_pos (by
   simp only [Bool.and_eq_true, decide_eq_true_eq]
   exact ⟨⟨⟨by omega, hlo⟩, by omega⟩, List.all_eq_true.2 (fun x hx => by have := HBD.out x hx; simp [Col.inr]; omega)⟩), hw])
  clear hws hw HBD
  have fin := fun (wr : World) (h : St w wr A l.length c o lo hi none 0 ws []) => h
  clear fin
  go_enter Tryz.func66, Tryz.ntmps66
  go_wp2_with fail
  refine world_four (G := fun W => Calls _ _ _ W _) ?_
  intro W b0 b1 b2 b3 hB
  have hci := HL.out.below hB
  refine (HD.out W hci hc HF.out).mono ?_
  rintro e w1 ⟨v, rfl, hv, hb⟩
  have hs3 : w.heap.size + 1 + 1 + 1 < W.heap.size := blk_lt b3
  obtain ⟨AW, cw, rfl, hcw0, hw, hA0⟩ := RI.reads_far hv
  have HCW := Aside0.mk hcw0
  have hA := Aside0.mk (fun ad e hn => Nat.lt_of_lt_of_le hs3 (hA0 ad e hn) : ∀ ad, AW = some ad → 0 < ws.length → w.heap.size + 1 + 1 + 1 < ad.block)
  have hst := Aside0.mk (St.mk_store (w := w) (cw := cw) (blk_below b0 hb) (blk_below b1 hb) (blk_below b3 hb) ⟨#[], 0, blk_below b2 hb, rfl, by simp⟩ hw hA.out (below_step hB hb))
  have hf := blk_frozen (blk_below b3 hb) 4
  have hc34 := (blk_cell (blk_below b3 hb) 4).trans rfl
  clear HD HF HL b0 b1 b2 b3 hB hci hv hb hw hs3 hA0 hcw0
  go_wp2_with fail
  clear hf hc34
  have hc30 := (blk_cell hst.out.b3 0).trans rfl
  have hc31 := (blk_cell hst.out.b3 1).trans rfl
  have hc32 := (blk_cell hst.out.b3 2).trans rfl
  have hc33 := (blk_cell hst.out.b3 3).trans rfl
  have hc34 := (blk_cell hst.out.b3 4).trans rfl
  have hc35 := (blk_cell hst.out.b3 5).trans rfl
  go_wp2_with fail
  clear hc30 hc31 hc32 hc33 hc34 hc35
  go_loopw [24] (fun i wr => ∃ k : Nat, k ≤ ws.length ∧ i = .int .i64 (k : Int) ∧ Aside0 (St w wr A l.length c o lo hi AW cw ws (Col.metsTo ws o lo hi k))) (fun i _ => ws.length - (intOf i).toNat)
  case atStart => exact ⟨0, by omega, rfl, hst⟩
  case round =>
   clear hst
   obtain ⟨k, hk, rfl, hst⟩ := hrel
   have hc00 := (blk_cell hst.out.b0 0).trans rfl
   have hc01 := (blk_cell hst.out.b0 1).trans rfl
   have hc30 := (blk_cell hst.out.b3 0).trans rfl
   have hc31 := (blk_cell hst.out.b3 1).trans rfl
   have hc32 := (blk_cell hst.out.b3 2).trans rfl
   have hc33 := (blk_cell hst.out.b3 3).trans rfl
   have hc34 := (blk_cell hst.out.b3 4).trans rfl
   have hc35 := (blk_cell hst.out.b3 5).trans rfl
   by_cases hlt : k < ws.length
   ·have HJ := Lib.hid (jumps_calls A l.length c o lo hi AW cw (w.heap.size + 1 + 1) ws k hlt)
    cases hx : Col.jumpsAt ws lo hi k with
    | true =>
     rw [hx] at HJ
     have HX := Lib.hid (Col.metsTo_yes (o := o) hx)
     clear hx
     go_wp2_with fail
     refine (HJ.out _ hst.out.ci).mono ?_
     rintro e w' ⟨rfl, hb⟩
     have hst' := Aside0.mk (hst.out.step hb)
     clear hst hb hc00 hc01 hc30 hc31 hc32 hc33 hc34 hc35
     have hc01 := (blk_cell hst'.out.b0 1).trans rfl
     go_wp2
     clear hc01
     go_loopw [33] (fun i wr => ∃ m : Nat, (m : Int) ≤ o + 1 ∧ i = .int .i64 (m : Int) ∧ Aside0 (St w wr A l.length c o lo hi AW cw ws (Col.metsTo ws o lo hi k ++ Col.rowsOf k m))) (fun i _ => (o + 1).toNat - (intOf i).toNat)
     case atStart => exact ⟨0, by omega, rfl, ⟨by rw [Col.rowsOf_zero, List.append_nil]; exact hst'.out⟩⟩
     case round =>
      clear hst'
      obtain ⟨m, hm, rfl, hst⟩ := hrel
      by_cases hmt : (m : Int) < o + 1
      ·obtain ⟨w2, hrun, hmet, hg⟩ := hst.out.met.update ((k : Int), (k : Int) + (m : Int)) (Col.new_place ws o lo hi k m)
       rw [List.append_assoc, ← Col.rowsOf_succ] at hmet
       have hst2 := Aside0.mk (hst.out.upd hmet hg)
       unfold encP at hrun
       simp only at hrun
       have hc35 := (blk_cell hst.out.b3 5).trans rfl
       clear hst hmet hg
       go_wp2
       go_roundw
       case rel => exact ⟨m + 1, by omega, by go_num, hst2⟩
       case measure => simp [intOf]; omega
      ·have e : o.toNat + 1 = m := by omega
       rw [e] at HX
       go_wp2
       exact ⟨⟨k + 1, by omega, by go_num, ⟨by rw [HX.out]; exact hst.out⟩⟩, by simp [intOf]; omega⟩
    | false =>
     rw [hx] at HJ
     have HX := Lib.hid (Col.metsTo_no (o := o) hx)
     clear hx
     go_wp2_with fail
     refine (HJ.out _ hst.out.ci).mono ?_
     rintro e w' ⟨rfl, hb⟩
     have hst' := Aside0.mk (hst.out.step hb)
     clear hst hb hc00 hc01 hc30 hc31 hc32 hc33 hc34 hc35
     go_wp2
     go_roundw
     case rel => exact ⟨k + 1, by omega, by go_num, ⟨by rw [HX.out]; exact hst'.out⟩⟩
     case measure => simp [intOf]; omega
   ·have e : k = ws.length := by omega
    subst e
    have hf0 := blk_frozen hst.out.b1 0
    have hf1 := blk_frozen hst.out.b1 1
    have hf2 := blk_frozen hst.out.b1 2
    have hf3 := blk_frozen hst.out.b1 3
    have hf4 := blk_frozen hst.out.b1 4
    have hf5 := blk_frozen hst.out.b1 5
    have hc10 := (blk_cell hst.out.b1 0).trans rfl
    have hc11 := (blk_cell hst.out.b1 1).trans rfl
    have hc12 := (blk_cell hst.out.b1 2).trans rfl
    have hc13 := (blk_cell hst.out.b1 3).trans rfl
    have hc14 := (blk_cell hst.out.b1 4).trans rfl
    have hc15 := (blk_cell hst.out.b1 5).trans rfl
    go_wp2
    refine bodyPost_ret (results_cell_row rfl _ _ (w.heap.size + 1) 90 #[.slice A l.length c, .int .i64 o, .int .i64 lo, .int .i64 hi, .slice AW ws.length cw, .map (some (w.heap.size + 1 + 1))] (0, 0) _ rfl (blk_put (blk_put (blk_put (blk_put (blk_put (blk_put hst.out.b1 0 _ rfl) 1 _ rfl) 2 _ rfl) 3 _ rfl) 4 _ rfl) 5 _ rfl) Tryz.underlying90 rfl (by kernel_rfl)) rfl ?_
    exact fin_of hst.out hA.out HCW.out _ _ _ _ _ _
 ·have hw : Col.wins l o = [] := by unfold Col.wins; rw [if_neg hlo]
  rw [hw]
  clear hw hwl HBD
  have fin := 0
  go_enter Tryz.func66, Tryz.ntmps66
  go_wp2_with fail
  refine world_four (G := fun W => Code.wp _ _ _ _ W) ?_
  intro W b0 b1 b2 b3 hB
  have hst : Aside0 (St w W A l.length c o lo hi none 0 [] []) := ⟨⟨b0, b1, b3, ⟨#[], 0, b2, rfl, by simp⟩, ⟨rfl, by simp, fun h => by simp at h⟩, hB⟩⟩
  clear b0 b1 b2 b3 hB HL
  go_loopw [24] (fun i wr => i = .int .i64 0 ∧ Aside0 (St w wr A l.length c o lo hi none 0 [] [])) (fun _ _ => 0)
  case atStart => exact ⟨rfl, hst⟩
  case round =>
   clear hst
   obtain ⟨rfl, hst⟩ := hrel
   have hf0 := blk_frozen hst.out.b1 0
   have hf1 := blk_frozen hst.out.b1 1
   have hf2 := blk_frozen hst.out.b1 2
   have hf3 := blk_frozen hst.out.b1 3
   have hf4 := blk_frozen hst.out.b1 4
   have hf5 := blk_frozen hst.out.b1 5
   have hc10 := (blk_cell hst.out.b1 0).trans rfl
   have hc11 := (blk_cell hst.out.b1 1).trans rfl
   have hc12 := (blk_cell hst.out.b1 2).trans rfl
   have hc13 := (blk_cell hst.out.b1 3).trans rfl
   have hc14 := (blk_cell hst.out.b1 4).trans rfl
   have hc15 := (blk_cell hst.out.b1 5).trans rfl
   have hc30 := (blk_cell hst.out.b3 0).trans rfl
   have hc31 := (blk_cell hst.out.b3 1).trans rfl
   have hc32 := (blk_cell hst.out.b3 2).trans rfl
   have hc33 := (blk_cell hst.out.b3 3).trans rfl
   have hc34 := (blk_cell hst.out.b3 4).trans rfl
   have hc35 := (blk_cell hst.out.b3 5).trans rfl
   go_wp2
   refine bodyPost_ret (results_cell_row rfl _ _ (w.heap.size + 1) 90 #[.slice A l.length c, .int .i64 o, .int .i64 lo, .int .i64 hi, .slice none 0 0, .map (some (w.heap.size + 1 + 1))] (0, 0) _ rfl (blk_put (blk_put (blk_put (blk_put (blk_put (blk_put hst.out.b1 0 _ rfl) 1 _ rfl) 2 _ rfl) 3 _ rfl) 4 _ rfl) 5 _ rfl) Tryz.underlying90 rfl (by kernel_rfl)) rfl ?_
   exact fin_of hst.out (fun ad e hn => by cases e) (Nat.le_refl _) _ _ _ _ _ _
end Go.Proofs.YtohlmoppcmjknaaGreatDoor.X
end
section
namespace Go.Proofs.YtohlmoppcmjknaaGreatDoor.X
open Go.RowKit
theorem small_of_sheet {l : List Int} {o lo hi : Int} (h : Col.isSheet l o lo hi = true) : Col.small l o lo hi = true := by
 unfold Col.isSheet at h
 unfold Col.small
 simp only [Bool.and_eq_true] at h ⊢
 obtain ⟨⟨⟨⟨h1, h2⟩, h3⟩, h4⟩, h5⟩ := h
 refine ⟨⟨⟨⟨?_, h2⟩, h3⟩, ?_⟩, h5⟩ <;> simp only [Col.inr, Bool.and_eq_true, decide_eq_true_eq] at h1 h3 h4 ⊢ <;> omega
theorem box_of {w wr : World} {cs : Array Value} {t : TypeId} (hb : Below (w.alloc (.cells cs t)).heap.size (w.alloc (.cells cs t)) wr) : Below (w.heap.size + 1) (w.alloc (.cells cs t)) wr := by simpa using hb
theorem wins_length_le (l : List Int) (o : Int) : (Col.wins l o).length ≤ l.length := by
 unfold Col.wins
 split
 ·rw [Col.diffs_length]; omega
 ·simp
end Go.Proofs.YtohlmoppcmjknaaGreatDoor.X
namespace Go.Proofs.YtohlmoppcmjknaaGreatDoor.P
open Go.RowKit Go.Proofs.YtohlmoppcmjknaaGreatDoorW.PrintWords Go.Proofs.YtohlmoppcmjknaaGreatDoorW.PrintLast Go.Proofs.YtohlmoppcmjknaaGreatDoorW.PrintMore Go.Proofs.YtohlmoppcmjknaaGreatDoor.X
set_option linter.unusedVariables false
set_option linter.unusedSimpArgs false
set_option maxHeartbeats 2000000 in
set_option maxRecDepth 100000 in
theorem column_Jumps.calls (A0_0 : Option Addr) (c0_0 : Nat) (l0_0 : List Int) (a0_1 : Int) (a0_2 : Int) (a0_3 : Int) (r1 : List Int) (r2 : Int) (w : World) (hr0_0 : Kd.C (Kd.int .i64) w A0_0 l0_0.length l0_0) (hc0_0 : l0_0.length ≤ c0_0) (h : column_Jumps.f l0_0 a0_1 a0_2 a0_3 = some (r1, r2)) :
  Calls Tryz.prog 22 #[.agg #[.slice A0_0 l0_0.length c0_0, .int .i64 a0_1, .int .i64 a0_2, .int .i64 a0_3]] w fun e w' => ∃ v0_ : Value, e = .returned (.tuple #[v0_, .int .i64 r2]) ∧ Kd.R (Kd.int .i64) 3 w' w.heap.size (fun _ => True) v0_ r1 ∧ Below w.heap.size w w' := by
 have hr : Col.fJumps l0_0 a0_1 a0_2 a0_3 = some (r1, r2) := h
 unfold Col.fJumps at hr
 have HS := Lib.hid (fun W (hb : Below w.heap.size w W) => column_isSheet.calls A0_0 c0_0 l0_0 a0_1 a0_2 a0_3 (Col.isSheet l0_0 a0_1 a0_2 a0_3) W (CI.below hr0_0 hb) hc0_0 rfl)
 cases hs : Col.isSheet l0_0 a0_1 a0_2 a0_3 with
 | false =>
  rw [hs] at HS hr
  obtain ⟨rfl, rfl⟩ := Prod.mk.inj (Option.some.inj hr)
  clear hr h hs hr0_0 hc0_0
  go_enter Tryz.func22, Tryz.ntmps22
  go_wp2_with fail
  refine (HS.out _ ((Below.refl _ _).alloc (Nat.le_refl _) _)).mono ?_
  rintro e w' ⟨rfl, hb⟩
  have HB := Aside0.mk (box_of hb)
  clear hb HS
  go_wp2
  go_ret2
  exact ⟨_, rfl, Kd.R_nil _ _ _ _ _, below_box HB.out⟩
 | true =>
  have hsm := small_of_sheet hs
  have hl15 := (small_parts hsm).2.1
  rw [hs] at HS hr
  obtain ⟨rfl, rfl⟩ := Prod.mk.inj (Option.some.inj hr)
  have HO := Lib.hid (fun W (hb : Below w.heap.size w W) => sheetOf_calls A0_0 c0_0 l0_0 a0_1 a0_2 a0_3 W (CI.below hr0_0 hb) hc0_0 hsm)
  have hwl : (Col.wins l0_0 a0_1).length ≤ 1000 := Nat.le_trans (wins_length_le _ _) (by omega)
  have HJ := Lib.hid (fun W AW cw b hw => jumping_calls A0_0 l0_0.length c0_0 a0_1 a0_2 a0_3 AW cw b (Col.wins l0_0 a0_1) hwl W hw)
  show Calls _ _ _ w fun e w' => ∃ v0_ : Value, e = .returned (.tuple #[v0_, .int .i64 0]) ∧ RI w' w.heap.size v0_ (Col.jumping (Col.wins l0_0 a0_1) a0_2 a0_3) ∧ Below w.heap.size w w'
  generalize Col.wins l0_0 a0_1 = ws at *
  clear hr h hs hr0_0 hc0_0 hsm hl15
  go_enter Tryz.func22, Tryz.ntmps22
  go_wp2_with fail
  refine (HS.out _ ((Below.refl _ _).alloc (Nat.le_refl _) _)).mono ?_
  rintro e w' ⟨rfl, hb⟩
  have HB := Aside0.mk (box_of hb)
  have hc0 := box_cell HB.out 0 rfl
  have hc1 := box_cell HB.out 1 rfl
  have hc2 := box_cell HB.out 2 rfl
  have hc3 := box_cell HB.out 3 rfl
  clear hb HS
  go_wp2_with fail
  refine (HO.out _ (below_box HB.out)).mono ?_
  rintro e w2 ⟨AW, cw, b, rfl, hci, hmet, hcw, hb⟩
  have HB2 := Aside0.mk (below_step (below_box HB.out) hb)
  have HJ2 := Lib.hid (HJ.out w2 AW cw b hci)
  clear HO HB hb hci hmet hcw HJ hc0 hc1 hc2 hc3
  go_wp2_with fail
  refine HJ2.out.mono ?_
  rintro e w3 ⟨v, rfl, hv, hb⟩
  have HB3 := Aside0.mk (below_step HB2.out hb)
  have HV := Aside0.mk (hv.lower (Nat.le_trans HB2.out.size (Nat.le_refl _)))
  clear hv hb HJ2
  go_wp2
  go_ret2
  exact ⟨_, rfl, HV.out, HB3.out⟩
end Go.Proofs.YtohlmoppcmjknaaGreatDoor.P
end
section
namespace Go.Proofs.YtohlmoppcmjknaaGreatDoor.X
open Go.RowKit Go.Proofs.YtohlmoppcmjknaaGreatDoorW.PrintWords Go.Proofs.YtohlmoppcmjknaaGreatDoorW.PrintLast Go.Proofs.YtohlmoppcmjknaaGreatDoorW.PrintMore
open Go.Proofs.YtohlmoppcmjknaaGreatDoor.Col (nth)
set_option linter.unusedVariables false
set_option linter.unusedSimpArgs false
theorem tdiv_less {a b : Int} (hb : 1 ≤ b) (h : a < a.tdiv b * b) : a.tdiv b - 1 = a / b := by
 rw [Int.tdiv_eq_ediv] at h ⊢
 split at h
 ·have := Int.ediv_mul_le a (show b ≠ 0 by omega)
  rw [Int.add_zero] at h
  omega
 ·rename_i hn
  rw [if_neg hn, Int.sign_eq_one_of_pos (by omega)]
  omega
theorem tdiv_same {a b : Int} (hb : 1 ≤ b) (h : ¬ a < a.tdiv b * b) : a.tdiv b = a / b := by
 rw [Int.tdiv_eq_ediv] at h ⊢
 split at h
 ·rename_i hn
  rw [if_pos hn, Int.add_zero]
 ·rename_i hn
  exfalso
  apply h
  rw [Int.sign_eq_one_of_pos (by omega)]
  have := Int.lt_ediv_add_one_mul_self a (show 0 < b by omega)
  exact this
theorem tdiv_bound {a b : Int} {B : Nat} (hb : 1 ≤ b) (h : a.natAbs ≤ B) : (a.tdiv b).natAbs ≤ B := by
 rw [Int.natAbs_tdiv]
 exact Nat.le_trans (Nat.div_le_self _ _) h
theorem wrap_in (x : Int) (h1 : -9223372036854775808 ≤ x) (h2 : x ≤ 9223372036854775807) : wrap64 x = x := by
 unfold wrap64
 omega
theorem floor_calls (a b : Int) (hb : 1 ≤ b) (hb3 : b ≤ 9) (ha : a.natAbs ≤ 1000000000) (w : World) :
  Calls Tryz.prog 142 #[.int .i64 a, .int .i64 b] w fun e w' => e = .returned (.int .i64 (a / b)) ∧ w = w' := by
 have hq := tdiv_bound (b := b) hb ha
 have hm1 : a.tdiv b * b ≤ 9000000000 := by
  have h1 : a.tdiv b ≤ 1000000000 := by omega
  have h2 : a.tdiv b * b ≤ 1000000000 * b := Int.mul_le_mul_of_nonneg_right h1 (by omega)
  omega
 have hm2 : -9000000000 ≤ a.tdiv b * b := by
  have h1 : -1000000000 ≤ a.tdiv b := by omega
  have h2 : -1000000000 * b ≤ a.tdiv b * b := Int.mul_le_mul_of_nonneg_right h1 (by omega)
  omega
 have hb0 : ¬ b = 0 := by omega
 have hbm : ¬ b = -1 := by omega
 have hwr : wrap64 (a.tdiv b * b) = a.tdiv b * b := wrap_in _ (by omega) (by omega)
 by_cases h : a < a.tdiv b * b
 ·have HE := Lib.hid (tdiv_less hb h)
  go_enter Tryz.func142, Tryz.ntmps142
  go_wp2
  go_ret
  exact ⟨ret_int HE.out, rfl⟩
 ·have HE := Lib.hid (tdiv_same hb h)
  go_enter Tryz.func142, Tryz.ntmps142
  go_wp2
  go_ret
  exact ⟨ret_int HE.out, rfl⟩
theorem div_bound {a b : Int} (hb : 1 ≤ b) (h : a.natAbs ≤ 1000000000) : (a / b).natAbs ≤ 1000000001 := by
 have h1 := tdiv_bound (b := b) hb h
 by_cases hh : a < a.tdiv b * b
 ·have := tdiv_less hb hh; omega
 ·have := tdiv_same hb hh; omega
set_option maxRecDepth 100000 in
theorem low_calls (lo hi rest wt : Int) (hl : lo.natAbs ≤ 100000) (hh : hi.natAbs ≤ 100000) (hr : rest.natAbs ≤ 1000000) (hw : wt ≠ 0) (hw3 : wt.natAbs ≤ 3) (w : World) :
  Calls Tryz.prog 121 #[.agg #[.int .i64 lo, .int .i64 hi, .int .i64 rest, .int .i64 wt]] w fun e w' => e = .returned (.int .i64 (Col.lowOf rest wt lo hi)) ∧ Below w.heap.size w w' := by
 by_cases hp : 0 < wt
 ·have he : Col.lowOf rest wt lo hi = -((rest - lo) / wt) := by unfold Col.lowOf; rw [if_pos hp]
  have hb := div_bound (a := rest - lo) (b := wt) (by omega) (by omega)
  have HF := Lib.hid (fun W => floor_calls (rest - lo) wt (by omega) (by omega) (by omega) W)
  rw [he]
  clear he
  generalize (rest - lo) / wt = q at *
  go_enter Tryz.func121, Tryz.ntmps121
  go_wp2_with fail
  go_wp2_with fail
  refine (HF.out _).mono ?_
  rintro e w' ⟨rfl, rfl⟩
  clear HF
  go_wp2
  go_ret
  exact ⟨rfl, (Below.refl _ _).alloc (Nat.le_refl _) _⟩
 ·have he : Col.lowOf rest wt lo hi = -((hi - rest) / (-wt)) := by unfold Col.lowOf; rw [if_neg hp]
  have hb := div_bound (a := hi - rest) (b := -wt) (by omega) (by omega)
  have HF := Lib.hid (fun W => floor_calls (hi - rest) (-wt) (by omega) (by omega) (by omega) W)
  rw [he]
  clear he
  generalize (hi - rest) / (-wt) = q at *
  go_enter Tryz.func121, Tryz.ntmps121
  go_wp2_with fail
  go_wp2_with fail
  refine (HF.out _).mono ?_
  rintro e w' ⟨rfl, rfl⟩
  clear HF
  go_wp2
  go_ret
  exact ⟨rfl, (Below.refl _ _).alloc (Nat.le_refl _) _⟩
set_option maxRecDepth 100000 in
theorem high_calls (lo hi rest wt : Int) (hl : lo.natAbs ≤ 100000) (hh : hi.natAbs ≤ 100000) (hr : rest.natAbs ≤ 1000000) (hw : wt ≠ 0) (hw3 : wt.natAbs ≤ 3) (w : World) :
  Calls Tryz.prog 122 #[.agg #[.int .i64 lo, .int .i64 hi, .int .i64 rest, .int .i64 wt]] w fun e w' => e = .returned (.int .i64 (Col.highOf rest wt lo hi)) ∧ Below w.heap.size w w' := by
 by_cases hp : 0 < wt
 ·have he : Col.highOf rest wt lo hi = (hi - rest) / wt := by unfold Col.highOf; rw [if_pos hp]
  have hb := div_bound (a := hi - rest) (b := wt) (by omega) (by omega)
  have HF := Lib.hid (fun W => floor_calls (hi - rest) wt (by omega) (by omega) (by omega) W)
  rw [he]
  clear he
  generalize (hi - rest) / wt = q at *
  go_enter Tryz.func122, Tryz.ntmps122
  go_wp2_with fail
  go_wp2_with fail
  refine (HF.out _).mono ?_
  rintro e w' ⟨rfl, rfl⟩
  clear HF
  go_wp2
  go_ret
  exact ⟨rfl, (Below.refl _ _).alloc (Nat.le_refl _) _⟩
 ·have he : Col.highOf rest wt lo hi = (rest - lo) / (-wt) := by unfold Col.highOf; rw [if_neg hp]
  have hb := div_bound (a := rest - lo) (b := -wt) (by omega) (by omega)
  have HF := Lib.hid (fun W => floor_calls (rest - lo) (-wt) (by omega) (by omega) (by omega) W)
  rw [he]
  clear he
  generalize (rest - lo) / (-wt) = q at *
  go_enter Tryz.func122, Tryz.ntmps122
  go_wp2_with fail
  go_wp2_with fail
  refine (HF.out _).mono ?_
  rintro e w' ⟨rfl, rfl⟩
  clear HF
  go_wp2
  go_ret
  exact ⟨rfl, (Below.refl _ _).alloc (Nat.le_refl _) _⟩
end Go.Proofs.YtohlmoppcmjknaaGreatDoor.X
end
section
namespace Go.Proofs.YtohlmoppcmjknaaGreatDoor.X
open Go.RowKit Go.Proofs.YtohlmoppcmjknaaGreatDoorW.PrintWords Go.Proofs.YtohlmoppcmjknaaGreatDoorW.PrintLast Go.Proofs.YtohlmoppcmjknaaGreatDoorW.PrintMore
open Go.Proofs.YtohlmoppcmjknaaGreatDoor.Col (nth)
set_option linter.unusedVariables false
set_option linter.unusedSimpArgs false
theorem headD_nth (l : List Int) : l.headD 0 = nth l 0 := by cases l <;> rfl
set_option maxHeartbeats 1000000 in
set_option maxRecDepth 100000 in
theorem weight_calls (k a : Nat) (hk : k ≤ 3) (ha : a ≤ k) (w : World) :
  Calls Tryz.prog 140 #[.int .i64 (k : Int), .int .i64 (a : Int)] w fun e w' => e = .returned (.int .i64 (Col.weight (k : Int) a)) ∧ Below w.heap.size w w' := by
 have hmk := print_make (P := Tryz.prog) 22 3 .i64 8 Tryz.underlying22 info_int (by decide) (k + 1) (by omega)
 have e1 : ((k + 1 : Nat) : Int) = (k : Int) + 1 := by omega
 rw [e1] at hmk
 clear e1
 have hown := own_made w w.heap.size 3 .i64 (k + 1) (Nat.le_refl _) (by omega)
 have hrow : Row (w.alloc (.cells (madeCells #[.int .i64 0] (k + 1)) 3)) w.heap.size w.heap.size (k + 1) (k + 1) (List.replicate (k + 1) 0) := hown
 have hcell := hrow.cell a (by omega)
 have hset := hrow.set a 1
 obtain ⟨W1, hW1⟩ : ∃ W1, W1 = w.alloc (.cells (madeCells #[.int .i64 0] (k + 1)) 3) := ⟨_, rfl⟩
 have hB1 : Below w.heap.size w (W1.setCell ⟨w.heap.size, a, none⟩ (.int .i64 1)) := by rw [hW1]; exact ((Below.refl _ _).alloc (Nat.le_refl _) _).setCell (p := ⟨w.heap.size, a, none⟩) (Nat.le_refl _) _
 rw [← hW1] at hcell hset
 have hc := hcell.1
 have hf := hcell.2
 have hwt : Col.weight (k : Int) a = nth (Col.diffs k ((List.replicate (k + 1) 0).set a 1)) 0 := by
  unfold Col.weight
  rw [headD_nth, Int.toNat_natCast]
 have hlen : ((List.replicate (k + 1) (0 : Int)).set a 1).length = k + 1 := by simp
 have hall : (((List.replicate (k + 1) (0 : Int)).set a 1).all fun n => Col.inr n (-99999) 99999) = true := by
  rw [List.all_eq_true]
  intro x hx
  rcases List.mem_or_eq_of_mem_set hx with h | h
  ·rw [List.eq_of_mem_replicate h]; decide
  ·rw [h]; decide
 rw [hwt]
 generalize (List.replicate (k + 1) (0 : Int)).set a 1 = xs at *
 have hdl : (Col.diffs k xs).length = 1 := by rw [Col.diffs_length]; omega
 obtain ⟨A, c, hv, hcap, hci⟩ := RI.reads hset.toR
 rw [hlen] at hv
 injection hv with hv1 _ hv2
 subst hv1
 subst hv2
 have HD := Lib.hid (P.column_differences.calls _ _ xs (k : Int) (Col.diffs k xs) _ hci hcap (by
  show Col.fdiffs xs (k : Int) = _
  unfold Col.fdiffs
  rw [if_pos (by
   simp only [Bool.and_eq_true, decide_eq_true_eq]
   exact ⟨⟨⟨by omega, by omega⟩, by omega⟩, hall⟩)]
  rfl))
 rw [hlen] at HD
 have HB := Aside0.mk hB1
 have hmk1 := hmk w
 rw [← hW1] at hmk1
 clear hcell hset hrow hown hwt hall hci hcap hB1 hmk hW1
 go_enter Tryz.func140, Tryz.ntmps140
 go_wp2_with fail
 refine HD.out.mono ?_
 rintro e w2 ⟨v, rfl, hv, hb⟩
 obtain ⟨A, c, rfl, hcap, hci⟩ := RI.reads hv
 obtain ⟨ad, rfl, hc0⟩ := hci.at_ 0 (by omega)
 rw [Addr.add_zero'] at hc0
 have HB2 := Aside0.mk (below_step HB.out hb)
 rw [hdl]
 clear hv hb hci hcap HD HB hc hf hmk1
 go_wp2
 go_ret
 exact ⟨rfl, HB2.out⟩
theorem sum_take (l : List Int) (j : Nat) (hj : j < l.length) : (l.take (j + 1)).sum = (l.take j).sum + nth l j := by
 rw [List.take_succ_eq_append_getElem hj, List.sum_append]
 simp [nth, hj]
theorem sum_bound {l : List Int} {B : Nat} (h : ∀ x ∈ l, x.natAbs ≤ B) (j : Nat) : (l.take j).sum.natAbs ≤ j * B := by
 induction j with
 | zero => simp
 | succ j ih =>
  rcases Nat.lt_or_ge j l.length with hj | hj
  ·rw [sum_take l j hj, Nat.succ_mul]
   have : (nth l j).natAbs ≤ B := h _ (by simp [nth, hj])
   omega
  ·rw [List.take_of_length_le (by omega)] at ih ⊢
   rw [Nat.succ_mul]
   omega
set_option maxRecDepth 100000 in
theorem sum_calls (A : Option Addr) (c : Nat) (l : List Int) (hl : l.length ≤ 1000) (hb : ∀ x ∈ l, x.natAbs ≤ 1000000) (w : World) (hr : CI w A l) :
  Calls Tryz.prog 141 #[.slice A l.length c] w fun e w' => e = .returned (.int .i64 l.sum) ∧ w = w' := by
 have HS := Lib.hid (fun j => sum_bound hb j)
 have HN := Lib.hid (fun j (hj : j < l.length) => hb (nth l j) (by simp [nth, hj]))
 clear hb
 go_enter Tryz.func141, Tryz.ntmps141
 go_wp2
 go_loopw [3, 8] (fun s i wr => ∃ k : Nat, k ≤ l.length ∧ i = .int .i64 (k : Int) ∧ s = .int .i64 (l.take k).sum ∧ w = wr) (fun _ i _ => l.length - (intOf i).toNat)
 case atStart => exact ⟨0, by omega, rfl, rfl, rfl⟩
 case round =>
  obtain ⟨k, hk, rfl, rfl, rfl⟩ := hrel
  by_cases hlt : k < l.length
  ·obtain ⟨ad, rfl, hc⟩ := hr.at_ k hlt
   have h1 := HS.out k
   have h2 := HN.out k hlt
   have h3 : k * 1000000 ≤ 1000000000 := by omega
   have HX := Lib.hid (sum_take l k hlt)
   generalize (l.take k).sum = s at *
   generalize nth l k = y at *
   go_wp2
   go_roundw
   case rel => exact ⟨k + 1, by omega, by go_num, by rw [HX.out], by trivial⟩
   case measure => simp [intOf]; omega
  ·have e : k = l.length := by omega
   subst e
   go_wp2
   go_ret
   exact ⟨ret_int (by rw [List.take_length]), by trivial⟩
end Go.Proofs.YtohlmoppcmjknaaGreatDoor.X
end
section
namespace Go.Proofs.YtohlmoppcmjknaaGreatDoor.X
open Go.RowKit Go.Proofs.YtohlmoppcmjknaaGreatDoorW.PrintWords Go.Proofs.YtohlmoppcmjknaaGreatDoorW.PrintLast Go.Proofs.YtohlmoppcmjknaaGreatDoorW.PrintMore
open Go.Proofs.YtohlmoppcmjknaaGreatDoor.Col (nth)
set_option linter.unusedVariables false
set_option linter.unusedSimpArgs false
def restTo (l : List Int) (o : Int) (wi : Nat) (row : Int) (j : Nat) : List Int := ((List.range j).filter fun k => !decide (((wi + k : Nat) : Int) = row)).map fun k => Col.weight o k * l.getD (wi + k) 0
theorem restTo_yes {l : List Int} {o : Int} {wi : Nat} {row : Int} {j : Nat} (h : ((wi + j : Nat) : Int) ≠ row) : restTo l o wi row (j + 1) = restTo l o wi row j ++ [Col.weight o j * nth l (wi + j)] := by
 unfold restTo
 rw [List.range_succ, List.filter_append, List.map_append]
 have hd : decide (((wi + j : Nat) : Int) = row) = false := decide_eq_false h
 simp only [List.filter_cons, List.filter_nil, hd, Bool.not_false, if_true, List.map_cons, List.map_nil]
 rfl
theorem restTo_no {l : List Int} {o : Int} {wi : Nat} {row : Int} {j : Nat} (h : ((wi + j : Nat) : Int) = row) : restTo l o wi row (j + 1) = restTo l o wi row j := by
 unfold restTo
 rw [List.range_succ, List.filter_append, List.map_append]
 have hd : decide (((wi + j : Nat) : Int) = row) = true := decide_eq_true h
 simp only [List.filter_cons, List.filter_nil, hd, Bool.not_true, List.map_nil, List.append_nil]
 simp
theorem weight_small : ∀ k : Fin 4, ∀ a : Fin 4, a.1 ≤ k.1 → (Col.weight (k.1 : Int) a.1 ≠ 0 ∧ (Col.weight (k.1 : Int) a.1).natAbs ≤ 3) := by decide
theorem weight_ok {k a : Nat} (hk : k ≤ 3) (ha : a ≤ k) : Col.weight (k : Int) a ≠ 0 ∧ (Col.weight (k : Int) a).natAbs ≤ 3 := weight_small ⟨k, by omega⟩ ⟨a, by omega⟩ ha
theorem restTo_bound {l : List Int} {k wi : Nat} {row : Int} (hk : k ≤ 3) (hb : Col.Bd l 9999) : ∀ x ∈ restTo l (k : Int) wi row (k + 1), x.natAbs ≤ 29997 := by
 intro x hx
 unfold restTo at hx
 obtain ⟨j, hj, rfl⟩ := List.mem_map.1 hx
 have hjk := List.mem_range.1 (List.mem_filter.1 hj).1
 have h1 := (weight_ok (a := j) hk (by omega)).2
 have h2 := hb.nth (by decide) (wi + j)
 have h3 : (l.getD (wi + j) 0).natAbs ≤ 9999 := by
  have e : nth l (wi + j) = l.getD (wi + j) 0 := rfl
  rw [← e]
  omega
 rw [Int.natAbs_mul]
 exact Nat.le_trans (Nat.mul_le_mul h1 h3) (by decide)
theorem rest_eq (l : List Int) (k wi : Nat) (row : Int) : Col.rest l (k : Int) wi row = (restTo l (k : Int) wi row (k + 1)).sum := by
 unfold Col.rest restTo
 rw [Int.toNat_natCast]
theorem world_two {w : World} {o0 o1 : Obj} {G : World → Prop}
  (h : ∀ W, W.heap[w.heap.size]? = some o0 → W.heap[w.heap.size + 1]? = some o1 → Below w.heap.size w W → W.heap.size = w.heap.size + 2 → G W) :
  G ((w.alloc o0).alloc o1) := by
 refine h _ ?_ ?_ ?_ (by simp)
 ·exact blk_alloc (blk_new _ _) _
 ·have := blk_new (w.alloc o0) o1
  simpa using this
 ·exact ((Below.refl _ _).alloc (Nat.le_refl _) _).alloc (by simp) _
set_option maxHeartbeats 8000000 in
set_option maxRecDepth 100000 in
theorem equationOf_calls (A : Option Addr) (c : Nat) (l : List Int) (k wi r : Nat) (lo hi : Int) (hk : k ≤ 3) (hwl : wi + k < l.length) (hl15 : l.length ≤ 15) (hr1 : wi ≤ r) (hr2 : r ≤ wi + k) (hbd : Col.Bd l 9999) (w : World) (hl : CI w A l) (hc : l.length ≤ c) :
  Calls Tryz.prog 120 #[.agg #[.slice A l.length c, .int .i64 (k : Int), .int .i64 lo, .int .i64 hi], .int .i64 (wi : Int), .int .i64 (r : Int)] w fun e w' =>
   e = .returned (.agg #[.int .i64 lo, .int .i64 hi, .int .i64 (Col.rest l (k : Int) wi (r : Int)), .int .i64 (Col.weight (k : Int) (r - wi))]) ∧ Below w.heap.size w w' := by
 have HL := Aside0.mk hl
 have HBD := Aside0.mk hbd
 have HRB := Lib.hid (restTo_bound (l := l) (k := k) (wi := wi) (row := (r : Int)) hk hbd)
 rw [rest_eq]
 clear hl hbd
 go_enter Tryz.func120, Tryz.ntmps120
 go_wp2_with fail
 refine world_two (G := fun W => Code.wp _ _ _ _ W) ?_
 intro W0 g0 g1 hB0 hsz
 have HB0 := Aside0.mk hB0
 clear hB0
 have hc1 := (blk_cell g0 1).trans rfl
 go_wp2
 clear hc1
 go_loopw [7, 12] (fun v i wr => ∃ j : Nat, j ≤ k + 1 ∧ i = .int .i64 (j : Int) ∧ Aside0 (OI wr W0.heap.size v (restTo l (k : Int) wi (r : Int) j)) ∧ Aside0 (Below W0.heap.size W0 wr)) (fun _ i _ => k + 1 - (intOf i).toNat)
 case atStart => exact ⟨0, by omega, rfl, ⟨OI.nil _ _⟩, ⟨Below.refl _ _⟩⟩
 case round =>
  obtain ⟨j, hj, rfl, HO, HB⟩ := hrel
  by_cases hlt : j < k + 1
  ·by_cases hne : ((wi + j : Nat) : Int) = (r : Int)
   ·have HX := Lib.hid (restTo_no (l := l) (o := (k : Int)) hne)
    have he : ((wi : Int) + (j : Int) == (r : Int)) = true := by rw [beq_iff_eq]; omega
    clear hne
    go_wp2
    go_roundw
    case rel => exact ⟨j + 1, by omega, by go_num, by rw [HX.out]; exact HO, HB⟩
    case measure => simp [intOf]; omega
   ·have HX := Lib.hid (restTo_yes (l := l) (o := (k : Int)) hne)
    have he : ((wi : Int) + (j : Int) == (r : Int)) = false := by rw [beq_eq_false_iff_ne]; omega
    clear hne
    obtain ⟨ad, rfl, hcx⟩ := (HL.out.below (below_step HB0.out HB.out)).at_ (wi + j) (by omega)
    have HW := Lib.hid (fun W => weight_calls k j hk (by omega) W)
    have hwt := weight_ok (k := k) (a := j) hk (by omega)
    have hx9 := HBD.out.nth (by decide) (wi + j)
    have hmul : wrap64 (Col.weight (k : Int) j * nth l (wi + j)) = Col.weight (k : Int) j * nth l (wi + j) := wrap_in _ (by
     have := Nat.mul_le_mul hwt.2 (show (nth l (wi + j)).natAbs ≤ 9999 by omega)
     rw [← Int.natAbs_mul] at this
     omega) (by
     have := Nat.mul_le_mul hwt.2 (show (nth l (wi + j)).natAbs ≤ 9999 by omega)
     rw [← Int.natAbs_mul] at this
     omega)
    have hrl : (restTo l (k : Int) wi (r : Int) j).length ≤ 1000 := by
     unfold restTo
     rw [List.length_map]
     exact Nat.le_trans (List.length_filter_le _ _) (by simp; omega)
    clear hwt hx9
    have hCad : ∀ W, Below W0.heap.size W0 W → W.cell? (ad.add (wi + j)) = some (.int .i64 (nth l (wi + j))) := fun W hW => by
     obtain ⟨ad', e, hcx'⟩ := (HL.out.below (below_step HB0.out hW)).at_ (wi + j) (by omega)
     cases e
     exact hcx'
    have hKS := Lib.hid (fun W (hW : Below W0.heap.size W0 W) => (⟨(blk_cell (blk_below g0 hW) 0).trans rfl, (blk_cell (blk_below g0 hW) 1).trans rfl, hCad W hW⟩ : W.cell? ⟨w.heap.size, 0, none⟩ = some (.slice (some ad) l.length c) ∧ W.cell? ⟨w.heap.size, 1, none⟩ = some (.int .i64 (k : Int)) ∧ W.cell? (ad.add (wi + j)) = some (.int .i64 (nth l (wi + j)))))
    obtain ⟨i0, hi0, hz0, hz1, hz2⟩ := info_parts info_int
    have hP0 : Below W0.heap.size W0 wr.drew := HB.out.drew
    have hb0 : (0 : Int) ≤ (wi : Int) + (j : Int) := by omega
    have hb1 : (wi : Int) + (j : Int) < (l.length : Int) := by omega
    clear hCad hcx
    generalize Col.weight (k : Int) j = wt at *
    generalize nth l (wi + j) = x at *
    go_wp2
    obtain ⟨q, hq⟩ : ∃ q : Nat, (wi : Int) + (j : Int) = (q : Int) := ⟨wi + j, by omega⟩
    have hqe : wi + j = q := by omega
    rw [hqe] at hKS
    have hq0 : (0 : Int) ≤ (q : Int) := by omega
    have hq1 : (q : Int) < (l.length : Int) := by omega
    clear he hb0 hb1
    have hwq : IntKind.i64.wrap ((wi : Int) + (j : Int)) = (q : Int) := by rw [IntWalk.i64_in _ (by omega)]; omega
    have hwm : IntKind.i64.wrap (wt * x) = wt * x := by have := hmul; unfold wrap64 at this; rw [IntKind.wrap_i64]; exact this
    clear hmul hq
    go_region_held3 (fun W => W.cell? ⟨w.heap.size, 0, none⟩ = some (.slice (some ad) l.length c) ∧ W.cell? ⟨w.heap.size, 1, none⟩ = some (.int .i64 (k : Int)) ∧ W.cell? (ad.add q) = some (.int .i64 x))
     (first | exact hKS.out _ hP0 | exact hKS.out _ hP1 | exact hKS.out _ (hP1.alloc hP1.size _) | exact hKS.out _ hP5)
     (first
      | (go_at_call 140; refine (HW.out _).mono ?_; rintro e w5 ⟨rfl, hbz⟩; have hP1 := below_step hP0 hbz; have hO1 := pw_own_below HO.out (below_step (Below.drew (Below.refl wr.heap.size wr)) hbz))
      | (refine step_append_lies _ (by rfl) _ _ _ (by rfl) W0.heap.size 3 i0 _ 1 8 Tryz.underlying22 hi0 hz0 hz1 hz2 rfl (by omega) _ (restTo l (k : Int) wi (r : Int) j).length (nums .i64 (restTo l (k : Int) wi (r : Int) j)) (by rfl) (World.ownsRow.alloc hO1 _) ⟨w5.heap.size, 0, none⟩ 1 1 [.int .i64 (wt * x)] (by rfl) (by rfl) (World.news_of_block (cs := #[.int .i64 (wt * x)]) (t := 3) (fr := (0, 0)) (heap_alloc_new w5 _)) (by simp [Value.oneCell']) (by omega) (by unfold maxLen; omega) (by omega) (by have := hP1.size; simp; omega) (w5.heap.size + 1) (by simp) ?_; intro gg cap w7 hown1 hgrow hat hlt; have hP5 := (hP1.alloc hP1.size _).grown hgrow (by have := hP1.size; simp; omega) (fun k e => own_base hO1 k e)))
    have HO7 : Aside0 (OI w7 W0.heap.size (.slice (some ⟨gg, 0, none⟩) ((restTo l (k : Int) wi (r : Int) j).length + 1) cap) (restTo l (k : Int) wi (r : Int) (j + 1))) := ⟨by
     rw [HX.out]
     unfold OI
     rw [List.length_append]
     simpa [nums] using hown1⟩
    have HB7 := Aside0.mk hP5
    clear hP5 hown1 hgrow hat hlt hO1 hP1 hbz hP0 hKS HO HB
    go_wp2
    go_roundw
    case rel => exact ⟨j + 1, by omega, by go_num, HO7, HB7⟩
    case measure => simp [intOf]; omega
  ·have e : j = k + 1 := by omega
   subst e
   obtain ⟨AV, cV, rfl, hcV, hciV⟩ := RI.reads (OI.toR HO.out)
   have hrl : (restTo l (k : Int) wi (r : Int) (k + 1)).length ≤ 1000 := by
    unfold restTo
    rw [List.length_map]
    exact Nat.le_trans (List.length_filter_le _ _) (by simp; omega)
   have HW := Lib.hid (fun W => weight_calls k (r - wi) hk (by omega) W)
   have HSu := Lib.hid (fun W (hW : Below wr.heap.size wr W) => sum_calls AV cV (restTo l (k : Int) wi (r : Int) (k + 1)) hrl (fun x hx => Nat.le_trans (HRB.out x hx) (by decide)) W (hciV.below hW))
   have hKS := Lib.hid (fun W (hW : Below W0.heap.size W0 W) => (⟨(blk_cell (blk_below g0 hW) 1).trans rfl, (blk_cell (blk_below g0 hW) 2).trans rfl, (blk_cell (blk_below g0 hW) 3).trans rfl⟩ : W.cell? ⟨w.heap.size, 1, none⟩ = some (.int .i64 (k : Int)) ∧ W.cell? ⟨w.heap.size, 2, none⟩ = some (.int .i64 lo) ∧ W.cell? ⟨w.heap.size, 3, none⟩ = some (.int .i64 hi)))
   have hP0 : Below W0.heap.size W0 wr.drew := HB.out.drew
   have hQ0 : Below wr.heap.size wr wr.drew := (Below.refl _ _).drew
   go_wp2
   have hws : IntKind.i64.wrap ((r : Int) - (wi : Int)) = ((r - wi : Nat) : Int) := by rw [IntWalk.i64_in _ (by omega)]; omega
   go_region_held3 (fun W => W.cell? ⟨w.heap.size, 1, none⟩ = some (.int .i64 (k : Int)) ∧ W.cell? ⟨w.heap.size, 2, none⟩ = some (.int .i64 lo) ∧ W.cell? ⟨w.heap.size, 3, none⟩ = some (.int .i64 hi))
    (first | exact hKS.out _ hP0 | exact hKS.out _ hP1 | go_keep)
    (first
     | (go_at_call 140; refine (HW.out _).mono ?_; rintro e w5 ⟨rfl, hbz⟩; have hP1 := below_step hP0 hbz; have hQ1 := below_step hQ0 hbz; have hg1 := blk_below g1 hP1; have hx0 := (blk_cell hg1 0).trans rfl; have hx1 := (blk_cell hg1 1).trans rfl; have hx2 := (blk_cell hg1 2).trans rfl; have hx3 := (blk_cell hg1 3).trans rfl; have hf0 := blk_frozen hg1 0; have hf1 := blk_frozen hg1 1; have hf2 := blk_frozen hg1 2; have hf3 := blk_frozen hg1 3)
     | (go_at_call 141; refine (HSu.out _ (by first | exact hQ0 | exact hQ1)).mono ?_; rintro e w6 ⟨rfl, rfl⟩))
   go_wp2
   refine bodyPost_ret (results_cell_row rfl _ _ (w.heap.size + 1) 144 #[.int .i64 lo, .int .i64 hi, .int .i64 (restTo l (k : Int) wi (r : Int) (k + 1)).sum, .int .i64 (Col.weight (k : Int) (r - wi))] (0, 0) _ rfl (blk_put (blk_put (blk_put (blk_put hg1 0 _ rfl) 1 _ rfl) 2 _ rfl) 3 _ rfl) Tryz.underlying144 rfl (by kernel_rfl)) rfl ?_
   have hB := below_step HB0.out hP1
   exact ⟨rfl, (((hB.setCell (p := ⟨w.heap.size + 1, 0, none⟩) (by simp) _).setCell (p := ⟨w.heap.size + 1, 1, none⟩) (by simp) _).setCell (p := ⟨w.heap.size + 1, 2, none⟩) (by simp) _).setCell (p := ⟨w.heap.size + 1, 3, none⟩) (by simp) _⟩
end Go.Proofs.YtohlmoppcmjknaaGreatDoor.X
end
section
namespace Go.Proofs.YtohlmoppcmjknaaGreatDoor.X
open Go.RowKit Go.Proofs.YtohlmoppcmjknaaGreatDoorW.PrintWords Go.Proofs.YtohlmoppcmjknaaGreatDoorW.PrintLast Go.Proofs.YtohlmoppcmjknaaGreatDoorW.PrintMore
open Go.Proofs.YtohlmoppcmjknaaGreatDoor.Col (nth)
set_option linter.unusedVariables false
set_option linter.unusedSimpArgs false
theorem box_of' {w wr : World} {cs : Array Value} {t : TypeId} (hb : Below (w.alloc (.cells cs t)).heap.size (w.alloc (.cells cs t)) wr) : Below (w.heap.size + 1) (w.alloc (.cells cs t)) wr := by simpa using hb
theorem below_thru {w w1 wr : World} {cs : Array Value} {t : TypeId} (h : Below (w.heap.size + 1) (w.alloc (.cells cs t)) w1) (hb : Below w1.heap.size w1 wr) : Below (w.heap.size + 1) (w.alloc (.cells cs t)) wr := h.trans (hb.mono (by have := h.size; simpa using this))
def opV : Option Int → Value
 | some i => .tuple #[.int .i64 i, .bool true]
 | none => .tuple #[.int .i64 0, .bool false]
theorem opens_at {J : List Int} {o : Int} {now : List Int} {k : Nat} (hk : k < J.length) (hp : ∀ j, j < k → now.any (fun r => Col.inr r (nth J j) (nth J j + o)) = true) (h : now.any (fun r => Col.inr r (nth J k) (nth J k + o)) = false) : Col.opens J o now = some (nth J k) := by
 unfold Col.opens
 rw [List.find?_eq_some_iff_getElem]
 refine ⟨by rw [h]; rfl, k, hk, by simp [nth, hk], fun j hj => ?_⟩
 have := hp j hj
 have e : nth J j = J[j]'(by omega) := by simp [nth, show j < J.length by omega]
 rw [e] at this
 rw [this]
 rfl
theorem opens_none {J : List Int} {o : Int} {now : List Int} (hp : ∀ j, j < J.length → now.any (fun r => Col.inr r (nth J j) (nth J j + o)) = true) : Col.opens J o now = none := by
 unfold Col.opens
 rw [List.find?_eq_none]
 intro x hx
 obtain ⟨j, hj, rfl⟩ := List.getElem_of_mem hx
 have := hp j hj
 have e : nth J j = J[j] := by simp [nth, hj]
 rw [e] at this
 rw [this]
 simp
theorem nth_jumping {ws : List Int} {lo hi : Int} {k : Nat} (hk : k < (Col.jumping ws lo hi).length) : ∃ i : Nat, nth (Col.jumping ws lo hi) k = (i : Int) ∧ i < ws.length ∧ Col.jumpsAt ws lo hi i = true := by
 have hm : nth (Col.jumping ws lo hi) k ∈ Col.jumping ws lo hi := by
  rw [show nth (Col.jumping ws lo hi) k = (Col.jumping ws lo hi)[k] by simp [nth, hk]]
  exact List.getElem_mem hk
 unfold Col.jumping at hm
 obtain ⟨i, hi, e⟩ := List.mem_map.1 hm
 obtain ⟨h1, h2⟩ := List.mem_filter.1 hi
 exact ⟨i, e.symm, List.mem_range.1 h1, h2⟩
theorem any_at {p : Int → Bool} {l : List Int} {k : Nat} (hk : k < l.length) (h : p (nth l k) = true) : l.any p = true := by
 rw [List.any_eq_true]
 exact ⟨nth l k, by simp [nth, hk], h⟩
theorem any_not {p : Int → Bool} {l : List Int} (h : ∀ j, j < l.length → p (nth l j) = false) : l.any p = false := by
 rw [List.any_eq_false]
 intro x hx
 obtain ⟨j, hj, rfl⟩ := List.getElem_of_mem hx
 have := h j hj
 rw [show nth l j = l[j] by simp [nth, hj]] at this
 simp [this]
set_option maxHeartbeats 4000000 in
set_option maxRecDepth 100000 in
theorem open_calls (A : Option Addr) (n c : Nat) (o lo hi : Int) (AW : Option Addr) (cw b : Nat) (ws : List Int) (hl : ws.length ≤ 1000) (ho : 0 ≤ o) (ho9 : o ≤ 9) (AL : Option Addr) (cl : Nat) (now : List Int) (w : World) (hw : CI w AW ws) (hn : CI w AL now) (hmet : Met w b (Col.metsTo ws o lo hi ws.length)) :
  Calls Tryz.prog 137 #[shV A n c o lo hi AW ws.length cw b, .slice AL now.length cl] w fun e w' => e = .returned (opV (Col.opens (Col.jumping ws lo hi) o now)) ∧ Below w.heap.size w w' := by
 have hnl := hn.len
 have HN := Aside0.mk hn
 have HM := Aside0.mk hmet
 have HJ := Lib.hid (fun W (hb : Below w.heap.size w W) => jumping_calls A n c o lo hi AW cw b ws hl W (hw.below hb))
 have HI := Lib.hid (fun k (hk : k < (Col.jumping ws lo hi).length) => nth_jumping hk)
 have HMI := Lib.hid (fun i (h1 : i < ws.length) (h2 : Col.jumpsAt ws lo hi i = true) (r : Int) => Col.met_iff ho h1 h2 r)
 have hJl : (Col.jumping ws lo hi).length ≤ 1000 := Nat.le_trans (by unfold Col.jumping; rw [List.length_map]; exact Nat.le_trans (List.length_filter_le _ _) (by simp)) hl
 generalize Col.jumping ws lo hi = J at *
 clear hw hn hmet
 go_enter Tryz.func137, Tryz.ntmps137
 go_wp2_with fail
 go_step3
 go_wp2_with fail
 go_step3
 go_wp2_with fail
 refine (HJ.out _ ((Below.refl _ _).alloc (Nat.le_refl _) _)).mono ?_
 rintro e w1 ⟨v, rfl, hv, hb⟩
 obtain ⟨AJ, cJ, rfl, hJc, hJ⟩ := hv.reads
 have HB := Aside0.mk (box_of' hb)
 have HJC := Aside0.mk hJ
 clear hv hb hJ HJ
 go_wp2
 go_loopw [15] (fun i wr => ∃ k : Nat, k ≤ J.length ∧ i = .int .i64 (k : Int) ∧ Aside0 (∀ j, j < k → now.any (fun r => Col.inr r (nth J j) (nth J j + o)) = true) ∧ Aside0 (Below w1.heap.size w1 wr)) (fun i _ => J.length - (intOf i).toNat)
 case atStart => exact ⟨0, by omega, rfl, ⟨fun j hj => by omega⟩, ⟨Below.refl _ _⟩⟩
 case round =>
  obtain ⟨k, hk, rfl, HP, HB1⟩ := hrel
  by_cases hlt : k < J.length
  ·obtain ⟨ad, rfl, hcj⟩ := CI.at_ (HJC.out.below HB1.out) k hlt
   go_wp2
   go_loopw [21] (fun i wr => ∃ m : Nat, m ≤ now.length ∧ i = .int .i64 (m : Int) ∧ Aside0 (∀ j, j < m → Col.inr (nth now j) (nth J k) (nth J k + o) = false) ∧ Aside0 (Below w1.heap.size w1 wr)) (fun i _ => now.length - (intOf i).toNat)
   case atStart => exact ⟨0, by omega, rfl, ⟨fun j hj => by omega⟩, HB1⟩
   case round =>
    clear HB1
    obtain ⟨m, hm, rfl, HQ, HB1⟩ := hrel
    by_cases hmt : m < now.length
    ·have hB2 : Below w.heap.size w _ := below_step (below_box HB.out) HB1.out
     obtain ⟨ad2, e2, hcn⟩ := CI.at_ (HN.out.below hB2) m hmt
     subst e2
     obtain ⟨i, hi1, hi2, hi3⟩ := HI.out k hlt
     have hlook := (HM.out.below hB2).lookup ((i : Int), nth now m)
     rw [HMI.out i hi2 hi3] at hlook
     unfold encP at hlook
     simp only at hlook
     rw [← hi1] at hlook
     have hc2 := box_cell (below_thru HB.out HB1.out) 5 rfl
     have HP2 : Hid (Col.inr (nth now m) (nth J k) (nth J k + o) = true → now.any (fun r => Col.inr r (nth J k) (nth J k + o)) = true) := Lib.hid (fun h => any_at (p := fun r => Col.inr r (nth J k) (nth J k + o)) hmt h)
     cases hx : Col.inr (nth now m) (nth J k) (nth J k + o) with
     | true =>
      have hx2 := HP2.out hx
      rw [hx] at hlook
      clear hx HP2 HMI HI hi1 hi2 hi3
      go_wp2
      exact ⟨⟨k + 1, by omega, by go_num, ⟨fun j hj => by
       by_cases e : j = k
       ·rw [e]; exact hx2
       ·exact HP.out j (by omega)⟩, ⟨HB1.out.alloc HB1.out.size _⟩⟩, by simp [intOf]; omega⟩
     | false =>
      rw [hx] at hlook
      have hx2 := hx
      clear hx HP2 HMI HI hi1 hi2 hi3
      go_wp2
      go_roundw
      case rel => exact ⟨m + 1, by omega, by go_num, ⟨fun j hj => by
       by_cases e : j = m
       ·rw [e]; exact hx2
       ·exact HQ.out j (by omega)⟩, ⟨HB1.out.alloc HB1.out.size _⟩⟩
      case measure => simp [intOf]; omega
    ·have e : m = now.length := by omega
     subst e
     have HE := Lib.hid (opens_at hlt HP.out (any_not HQ.out))
     go_wp2
     try rw [Exit.noGoto_ret]
     go_ret2
     rw [HE.out]
     exact ⟨rfl, below_step (below_box HB.out) HB1.out⟩
  ·have e : k = J.length := by omega
   subst e
   have HE := Lib.hid (opens_none HP.out)
   go_wp2
   try rw [Exit.noGoto_ret]
   go_ret2
   rw [HE.out]
   exact ⟨rfl, below_step (below_box HB.out) HB1.out⟩
end Go.Proofs.YtohlmoppcmjknaaGreatDoor.X
end
section
namespace Go.Proofs.YtohlmoppcmjknaaGreatDoor.X
open Go.RowKit Go.Proofs.YtohlmoppcmjknaaGreatDoorW.PrintWords Go.Proofs.YtohlmoppcmjknaaGreatDoorW.PrintLast Go.Proofs.YtohlmoppcmjknaaGreatDoorW.PrintMore
open Go.Proofs.YtohlmoppcmjknaaGreatDoor.Col (nth)
set_option linter.unusedVariables false
set_option linter.unusedSimpArgs false
theorem field_windows (A : Option Addr) (n c : Nat) (o lo hi : Int) (AW : Option Addr) (m cw b : Nat) (w : World) : (Instr.field 90 (shV A n c o lo hi AW m cw b) 1).run Tryz.prog w = .ok (.slice AW m cw) w := by
 kernel_rfl
theorem blk_two {w w' : World} {o1 o2 : Obj} (hb : Below ((w.alloc o1).alloc o2).heap.size ((w.alloc o1).alloc o2) w') : w'.heap[w.heap.size + 1]? = some o2 := by
 have h := blk_below (blk_new (w.alloc o1) o2) hb
 simpa using h
theorem blk_one {w w' : World} {o1 o2 : Obj} (hb : Below ((w.alloc o1).alloc o2).heap.size ((w.alloc o1).alloc o2) w') : w'.heap[w.heap.size]? = some o1 :=
 blk_below (blk_alloc (blk_new w o1) o2) hb
theorem foldl_take_succ (f : Int → Int → Int) (a : Int) (l : List Int) (k : Nat) (h1 : 1 ≤ k) (hk : k < l.length + 1) : (l.take (k + 1 - 1)).foldl f a = f ((l.take (k - 1)).foldl f a) (nth (a :: l) k) := by
 obtain ⟨j, rfl⟩ : ∃ j, k = j + 1 := ⟨k - 1, by omega⟩
 simp only [Nat.add_sub_cancel]
 rw [List.take_succ_eq_append_getElem (by omega), List.foldl_append]
 simp [nth, show j < l.length by omega]
set_option maxHeartbeats 1000000 in
set_option maxRecDepth 100000 in
theorem min_calls (A : Option Addr) (c : Nat) (x : Int) (l : List Int) (w : World) (hr : CI w A (x :: l)) :
  Calls Tryz.prog 67 #[.slice A (x :: l).length c] w fun e w' => e = .returned (.int .i64 (l.foldl min x)) ∧ Below w.heap.size w w' := by
 have hlen := hr.len
 rw [List.length_cons] at hlen
 obtain ⟨ad, rfl, hc⟩ := hr.at_ 0 (by simp)
 have hx : nth (x :: l) 0 = x := rfl
 rw [hx, Addr.add_zero'] at hc
 rw [List.length_cons]
 have HR := Aside0.mk hr
 clear hr hx
 go_enter Tryz.func67, Tryz.ntmps67
 go_wp2
 go_loopw [3, 4] (fun m i wr => ∃ k : Nat, (1 ≤ k ∧ k ≤ l.length + 1) ∧ i = .int .i64 (k : Int) ∧ m = .int .i64 ((l.take (k - 1)).foldl min x) ∧ Aside0 (Below w.heap.size w wr)) (fun _ i _ => l.length + 1 - (intOf i).toNat)
 case atStart => exact ⟨1, by omega, rfl, rfl, ⟨Below.refl _ _⟩⟩
 case round =>
  obtain ⟨k, hk, rfl, rfl, HB⟩ := hrel
  by_cases hlt : k < l.length + 1
  ·obtain ⟨_, e, hcell⟩ := (HR.out.below HB.out).at_ k (by simp; omega)
   cases e
   have HF := Lib.hid (foldl_take_succ min x l k hk.1 hlt)
   generalize (l.take (k - 1)).foldl min x = m at HF ⊢
   generalize nth (x :: l) k = y at HF hcell
   clear hc
   go_wp2
   go_roundw
   case rel => exact ⟨k + 1, by omega, by go_num, by rw [HF.out]; go_num, HB⟩
   case measure => simp [intOf]; omega
  ·have e : k = l.length + 1 := by omega
   subst e
   go_wp2
   go_ret
   exact ⟨ret_int (by rw [Nat.add_sub_cancel, List.take_length]), HB.out⟩
set_option maxHeartbeats 1000000 in
set_option maxRecDepth 100000 in
theorem max_calls (A : Option Addr) (c : Nat) (x : Int) (l : List Int) (w : World) (hr : CI w A (x :: l)) :
  Calls Tryz.prog 68 #[.slice A (x :: l).length c] w fun e w' => e = .returned (.int .i64 (l.foldl max x)) ∧ Below w.heap.size w w' := by
 have hlen := hr.len
 rw [List.length_cons] at hlen
 obtain ⟨ad, rfl, hc⟩ := hr.at_ 0 (by simp)
 have hx : nth (x :: l) 0 = x := rfl
 rw [hx, Addr.add_zero'] at hc
 rw [List.length_cons]
 have HR := Aside0.mk hr
 clear hr hx
 go_enter Tryz.func68, Tryz.ntmps68
 go_wp2
 go_loopw [3, 4] (fun m i wr => ∃ k : Nat, (1 ≤ k ∧ k ≤ l.length + 1) ∧ i = .int .i64 (k : Int) ∧ m = .int .i64 ((l.take (k - 1)).foldl max x) ∧ Aside0 (Below w.heap.size w wr)) (fun _ i _ => l.length + 1 - (intOf i).toNat)
 case atStart => exact ⟨1, by omega, rfl, rfl, ⟨Below.refl _ _⟩⟩
 case round =>
  obtain ⟨k, hk, rfl, rfl, HB⟩ := hrel
  by_cases hlt : k < l.length + 1
  ·obtain ⟨_, e, hcell⟩ := (HR.out.below HB.out).at_ k (by simp; omega)
   cases e
   have HF := Lib.hid (foldl_take_succ max x l k hk.1 hlt)
   generalize (l.take (k - 1)).foldl max x = m at HF ⊢
   generalize nth (x :: l) k = y at HF hcell
   clear hc
   go_wp2
   go_roundw
   case rel => exact ⟨k + 1, by omega, by go_num, by rw [HF.out]; go_num, HB⟩
   case measure => simp [intOf]; omega
  ·have e : k = l.length + 1 := by omega
   subst e
   go_wp2
   go_ret
   exact ⟨ret_int (by rw [Nat.add_sub_cancel, List.take_length]), HB.out⟩
end Go.Proofs.YtohlmoppcmjknaaGreatDoor.X
namespace Go.Proofs.YtohlmoppcmjknaaGreatDoor.P
open Go.RowKit Go.Proofs.YtohlmoppcmjknaaGreatDoorW.PrintWords Go.Proofs.YtohlmoppcmjknaaGreatDoorW.PrintLast Go.Proofs.YtohlmoppcmjknaaGreatDoorW.PrintMore Go.Proofs.YtohlmoppcmjknaaGreatDoor.X
set_option linter.unusedVariables false
set_option linter.unusedSimpArgs false
set_option maxHeartbeats 2000000 in
set_option maxRecDepth 100000 in
theorem column_Wide.calls (A0_0 : Option Addr) (c0_0 : Nat) (l0_0 : List Int) (a0_1 : Int) (a0_2 : Int) (a0_3 : Int) (r1 : Int) (r2 : Int) (r3 : Int) (w : World) (hr0_0 : Kd.C (Kd.int .i64) w A0_0 l0_0.length l0_0) (hc0_0 : l0_0.length ≤ c0_0) (h : column_Wide.f l0_0 a0_1 a0_2 a0_3 = some (r1, r2, r3)) :
  Calls Tryz.prog 21 #[.agg #[.slice A0_0 l0_0.length c0_0, .int .i64 a0_1, .int .i64 a0_2, .int .i64 a0_3]] w fun e w' => e = .returned (.tuple #[.agg #[.int .i64 r1, .int .i64 r2], .int .i64 r3]) ∧ Below w.heap.size w w' := by
 have hr : Col.fWide l0_0 a0_1 a0_2 a0_3 = some (r1, r2, r3) := h
 unfold Col.fWide at hr
 have HS := Lib.hid (fun W (hb : Below w.heap.size w W) => column_isSheet.calls A0_0 c0_0 l0_0 a0_1 a0_2 a0_3 (Col.isSheet l0_0 a0_1 a0_2 a0_3) W (CI.below hr0_0 hb) hc0_0 rfl)
 cases hs : Col.isSheet l0_0 a0_1 a0_2 a0_3 with
 | false =>
  rw [hs] at HS hr
  obtain ⟨rfl, h2⟩ := Prod.mk.inj (Option.some.inj hr)
  obtain ⟨rfl, rfl⟩ := Prod.mk.inj h2
  clear hr h hs hr0_0 hc0_0 h2
  go_enter Tryz.func21, Tryz.ntmps21
  go_wp2_with fail
  refine (HS.out _ (((Below.refl _ _).alloc (Nat.le_refl _) _).alloc (by simp) _)).mono ?_
  rintro e w' ⟨rfl, hb⟩
  have hg := blk_two hb
  have HB := Aside0.mk (below_step (((Below.refl w.heap.size w).alloc (Nat.le_refl _) _).alloc (by simp) _) hb)
  have hf0 := blk_frozen hg 0
  have hf1 := blk_frozen hg 1
  have hc0 := (blk_cell hg 0).trans rfl
  have hc1 := (blk_cell hg 1).trans rfl
  have HG := Aside0.mk hg
  clear hb HS hg
  go_wp2
  refine bodyPost_ret (results_ct rfl _ _ (w.heap.size + 1) 24 #[.int .i64 0, .int .i64 0] (0, 0) _ rfl (blk_put (blk_put HG.out 0 _ rfl) 1 _ rfl) Tryz.underlying24 rfl (by kernel_rfl)) rfl ?_
  exact ⟨rfl, (HB.out.setCell (p := ⟨w.heap.size + 1, 0, none⟩) (by simp) _).setCell (p := ⟨w.heap.size + 1, 1, none⟩) (by simp) _⟩
 | true =>
  have hsm := small_of_sheet hs
  rw [hs] at HS hr
  have HO := Lib.hid (fun W (hb : Below w.heap.size w W) => sheetOf_calls A0_0 c0_0 l0_0 a0_1 a0_2 a0_3 W (CI.below hr0_0 hb) hc0_0 hsm)
  simp only [if_true] at hr
  cases hw : Col.wins l0_0 a0_1 with
  | nil =>
   rw [hw] at hr HO
   obtain ⟨rfl, h2⟩ := Prod.mk.inj (Option.some.inj hr)
   obtain ⟨rfl, rfl⟩ := Prod.mk.inj h2
   clear hr h hs hr0_0 hc0_0 h2 hw hsm
   go_enter Tryz.func21, Tryz.ntmps21
   go_wp2_with fail
   refine (HS.out _ (((Below.refl _ _).alloc (Nat.le_refl _) _).alloc (by simp) _)).mono ?_
   rintro e w' ⟨rfl, hb⟩
   have hg := blk_two hb
   have ha := blk_one hb
   have HB := Aside0.mk (below_step (((Below.refl w.heap.size w).alloc (Nat.le_refl _) _).alloc (by simp) _) hb)
   have hc0 := (blk_cell ha 0).trans rfl
   have hc1 := (blk_cell ha 1).trans rfl
   have hc2 := (blk_cell ha 2).trans rfl
   have hc3 := (blk_cell ha 3).trans rfl
   clear hb HS ha
   go_wp2_with fail
   refine (HO.out _ HB.out).mono ?_
   rintro e w2 ⟨AW, cw, b, rfl, hci, hmet, hcw, hb⟩
   unfold shV
   rw [List.length_nil]
   have hfd := field_windows A0_0 l0_0.length c0_0 a0_1 a0_2 a0_3 AW 0 cw b w2
   unfold shV at hfd
   have HB2 := Aside0.mk (below_step HB.out hb)
   have hg2 := blk_below hg hb
   clear HB hb hc0 hc1 hc2 hc3 hg HO hmet hci hcw
   have hf0 := blk_frozen hg2 0
   have hf1 := blk_frozen hg2 1
   have hc0 := (blk_cell hg2 0).trans rfl
   have hc1 := (blk_cell hg2 1).trans rfl
   have HG := Aside0.mk hg2
   clear hg2
   go_wp2
   refine bodyPost_ret (results_ct rfl _ _ (w.heap.size + 1) 24 #[.int .i64 0, .int .i64 0] (0, 0) _ rfl (blk_put (blk_put HG.out 0 _ rfl) 1 _ rfl) Tryz.underlying24 rfl (by kernel_rfl)) rfl ?_
   exact ⟨rfl, (HB2.out.setCell (p := ⟨w.heap.size + 1, 0, none⟩) (by simp) _).setCell (p := ⟨w.heap.size + 1, 1, none⟩) (by simp) _⟩
  | cons x xs =>
   rw [hw] at hr HO
   obtain ⟨rfl, h2⟩ := Prod.mk.inj (Option.some.inj hr)
   obtain ⟨rfl, rfl⟩ := Prod.mk.inj h2
   clear hr h hs hr0_0 hc0_0 h2 hw hsm
   go_enter Tryz.func21, Tryz.ntmps21
   go_wp2_with fail
   refine (HS.out _ (((Below.refl _ _).alloc (Nat.le_refl _) _).alloc (by simp) _)).mono ?_
   rintro e w' ⟨rfl, hb⟩
   have hg := blk_two hb
   have ha := blk_one hb
   have HB := Aside0.mk (below_step (((Below.refl w.heap.size w).alloc (Nat.le_refl _) _).alloc (by simp) _) hb)
   have hc0 := (blk_cell ha 0).trans rfl
   have hc1 := (blk_cell ha 1).trans rfl
   have hc2 := (blk_cell ha 2).trans rfl
   have hc3 := (blk_cell ha 3).trans rfl
   clear hb HS ha
   go_wp2_with fail
   refine (HO.out _ HB.out).mono ?_
   rintro e w2 ⟨AW, cw, b, rfl, hci, hmet, hcw, hb⟩
   unfold shV
   have hfd := field_windows A0_0 l0_0.length c0_0 a0_1 a0_2 a0_3 AW (xs.length + 1) cw b w2
   unfold shV at hfd
   have HB2 := Aside0.mk (below_step HB.out hb)
   have hg2 := Aside0.mk (blk_below hg hb)
   have HC := Aside0.mk hci
   have hlen := hci.len
   rw [List.length_cons] at hlen
   rw [List.length_cons]
   have HM := Lib.hid (min_calls AW cw x xs w2 hci)
   have HX := Lib.hid (fun W hb => max_calls AW cw x xs W (hci.below (w' := W) hb))
   rw [List.length_cons] at HM HX
   clear HB hb hc0 hc1 hc2 hc3 hg HO hmet hci hcw
   go_wp2_with fail
   refine HM.out.mono ?_
   rintro e w3 ⟨rfl, hb⟩
   have HB3 := Aside0.mk (below_step HB2.out hb)
   have hg3 := Aside0.mk (blk_below hg2.out hb)
   have HX2 := Lib.hid (HX.out w3 hb)
   clear HB2 hb hg2 HM HX
   go_wp2_with fail
   refine HX2.out.mono ?_
   rintro e w4 ⟨rfl, hb⟩
   have HB4 := Aside0.mk (below_step HB3.out hb)
   have hg4 := blk_below hg3.out hb
   clear HB3 hb hg3 HX2
   have hf0 := blk_frozen hg4 0
   have hf1 := blk_frozen hg4 1
   have hc0 := (blk_cell hg4 0).trans rfl
   have hc1 := (blk_cell hg4 1).trans rfl
   have HG := Aside0.mk hg4
   clear hg4
   go_wp2
   refine bodyPost_ret (results_ct rfl _ _ (w.heap.size + 1) 24 #[.int .i64 (xs.foldl min x), .int .i64 (xs.foldl max x)] (0, 0) _ rfl (blk_put (cs := #[.int .i64 (xs.foldl min x), .int .i64 0]) (blk_put (cs := #[.int .i64 0, .int .i64 0]) HG.out 0 _ rfl) 1 _ rfl) Tryz.underlying24 rfl (by kernel_rfl)) rfl ?_
   exact ⟨rfl, (HB4.out.setCell (p := ⟨w.heap.size + 1, 0, none⟩) (by simp) _).setCell (p := ⟨w.heap.size + 1, 1, none⟩) (by simp) _⟩
end Go.Proofs.YtohlmoppcmjknaaGreatDoor.P
end
section
namespace Go.Proofs.YtohlmoppcmjknaaGreatDoor.P
open Go.RowKit Go.Proofs.YtohlmoppcmjknaaGreatDoorW.PrintWords Go.Proofs.YtohlmoppcmjknaaGreatDoorW.PrintLast Go.Proofs.YtohlmoppcmjknaaGreatDoorW.PrintMore Go.Proofs.YtohlmoppcmjknaaGreatDoor.X
set_option linter.unusedVariables false
set_option linter.unusedSimpArgs false
theorem below_thru2 {w w1 wr : World} {cs : Array Value} {t : TypeId} (h : Below (w.heap.size + 1) (w.alloc (.cells cs t)) w1) (hb : Below w1.heap.size w1 wr) : Below (w.heap.size + 1) (w.alloc (.cells cs t)) wr := h.trans (hb.mono (by have := h.size; simpa using this))
theorem box_blk {w wr : World} {cs : Array Value} {t : TypeId} (h : Below (w.heap.size + 1) (w.alloc (.cells cs t)) wr) : wr.heap[w.heap.size]? = some (.cells cs t (0, 0)) :=
 (h.block w.heap.size (by omega)).trans (blk_new w (.cells cs t (0, 0)))
set_option maxRecDepth 100000 in
theorem order_pred (b : Nat) (A : Option Addr) (n c : Nat) (o lo hi : Int) (w : World) (hb : w.heap[b]? = some (.cells #[.slice A n c, .int .i64 o, .int .i64 lo, .int .i64 hi] 26 (0, 0))) :
  Pred 71 #[.pointer (some ⟨b, 0, none⟩)] (fun x => !Col.inr x lo hi) w := by
 intro x W hB
 have HC := Lib.hid (in_calls x lo hi W)
 show Calls _ _ _ W fun e W' => e = .returned (.bool (!Col.inr x lo hi)) ∧ Below W.heap.size W W'
 generalize Col.inr x lo hi = bb at HC ⊢
 have h2 := (blk_cell (blk_below hb hB) 2).trans rfl
 have h3 := (blk_cell (blk_below hb hB) 3).trans rfl
 clear hb hB
 go_enter Tryz.func71, Tryz.ntmps71
 go_wp2_with fail
 refine HC.out.mono ?_
 rintro e w' ⟨rfl, rfl⟩
 clear HC
 go_wp2
 go_ret
 exact ⟨rfl, Below.refl _ _⟩
theorem find_at {p : Nat → Bool} {n k : Nat} (hk : k < n) (h : ∀ j, j < k → p j = false) (hp : p k = true) : (List.range n).find? p = some k := by
 rw [List.find?_eq_some_iff_getElem]
 exact ⟨hp, k, by simpa using hk, by simp, fun j hj => by simp [h j hj]⟩
theorem find_none {p : Nat → Bool} {n : Nat} (h : ∀ j, j < n → p j = false) : (List.range n).find? p = none := by
 rw [List.find?_eq_none]
 intro x hx
 rw [h x (List.mem_range.1 hx)]
 decide
set_option maxHeartbeats 4000000 in
set_option maxRecDepth 100000 in
theorem column_Order.calls (A0_0 : Option Addr) (c0_0 : Nat) (l0_0 : List Int) (a0_1 : Int) (a0_2 : Int) (a0_3 : Int) (r1 : Int) (r2 : Int) (w : World) (hr0_0 : Kd.C (Kd.int .i64) w A0_0 l0_0.length l0_0) (hc0_0 : l0_0.length ≤ c0_0) (h : column_Order.f l0_0 a0_1 a0_2 a0_3 = some (r1, r2)) :
  Calls Tryz.prog 23 #[.agg #[.slice A0_0 l0_0.length c0_0, .int .i64 a0_1, .int .i64 a0_2, .int .i64 a0_3]] w fun e w' => e = .returned (.tuple #[.int .i64 r1, .int .i64 r2]) ∧ Below w.heap.size w w' := by
 have hr : Col.fOrder l0_0 a0_1 a0_2 a0_3 = some (r1, r2) := h
 unfold Col.fOrder at hr
 have HS := Lib.hid (fun W (hb : Below w.heap.size w W) => column_isSheet.calls A0_0 c0_0 l0_0 a0_1 a0_2 a0_3 (Col.isSheet l0_0 a0_1 a0_2 a0_3) W (CI.below hr0_0 hb) hc0_0 rfl)
 have HL := Aside0.mk (show CI w A0_0 l0_0 from hr0_0)
 cases hs : Col.isSheet l0_0 a0_1 a0_2 a0_3 with
 | false =>
  rw [hs] at HS hr
  obtain ⟨rfl, rfl⟩ := Prod.mk.inj (Option.some.inj hr)
  clear hr h hs hr0_0 hc0_0
  go_enter Tryz.func23, Tryz.ntmps23
  go_wp2_with fail
  refine (HS.out _ ((Below.refl _ _).alloc (Nat.le_refl _) _)).mono ?_
  rintro e w' ⟨rfl, hb⟩
  have HB := Aside0.mk (box_of hb)
  clear hb HS
  go_wp2
  go_ret2
  exact ⟨rfl, below_box HB.out⟩
 | true =>
  obtain ⟨l1, l15, _, _, _, _, _, _, hbd⟩ := small_parts (small_of_sheet hs)
  rw [hs] at HS hr
  simp only [if_true] at hr
  have HA : Hid (l0_0.all (fun n => Col.inr n (-99999) 99999) = true) := Lib.hid (List.all_eq_true.2 (fun x hx => by have := hbd x hx; simp [Col.inr]; omega))
  have HD := Lib.hid (fun (k : Nat) (hk : k < l0_0.length) (W : World) (hb : Below w.heap.size w W) => column_differences.calls A0_0 c0_0 l0_0 (k : Int) (Col.diffs k l0_0) W (CI.below hr0_0 hb) hc0_0 (by
   show Col.fdiffs l0_0 (k : Int) = _
   unfold Col.fdiffs
   rw [if_pos (by
    simp only [Bool.and_eq_true, decide_eq_true_eq]
    exact ⟨⟨⟨by omega, by omega⟩, by omega⟩, HA.out⟩)]
   rfl))
  clear h hs hr0_0 hbd
  have HR := Lib.hid hr
  clear hr
  go_enter Tryz.func23, Tryz.ntmps23
  go_wp2_with fail
  refine (HS.out _ ((Below.refl _ _).alloc (Nat.le_refl _) _)).mono ?_
  rintro e w' ⟨rfl, hb⟩
  have HB := Aside0.mk (box_of hb)
  have hc0 := box_cell HB.out 0 rfl
  clear hb HS
  go_wp2_with fail
  clear hc0
  go_loopw [11] (fun i wr => ∃ k : Nat, k ≤ l0_0.length ∧ i = .int .i64 (k : Int) ∧ Aside0 (∀ j, j < k → ((Col.diffs j l0_0).all fun x => Col.inr x a0_2 a0_3) = false) ∧ Aside0 (Below (w.heap.size + 1) (w.alloc (.cells #[.slice A0_0 l0_0.length c0_0, .int .i64 a0_1, .int .i64 a0_2, .int .i64 a0_3] 26)) wr)) (fun i _ => l0_0.length - (intOf i).toNat)
  case atStart => exact ⟨0, by omega, rfl, ⟨fun j hj => by omega⟩, HB⟩
  case round =>
   clear HB
   obtain ⟨k, hk, rfl, HN, HB⟩ := hrel
   by_cases hlt : k < l0_0.length
   ·have hc0 := box_cell HB.out 0 rfl
    have HD2 := Lib.hid (HD.out k hlt _ (below_box HB.out))
    go_wp2_with fail
    refine HD2.out.mono ?_
    rintro e w1 ⟨v, rfl, hv, hb⟩
    obtain ⟨AW, cw, rfl, hcw, hci⟩ := RI.reads hv
    have HB1 := Aside0.mk (below_thru2 HB.out hb)
    have hbox := box_blk HB1.out
    have HF := Lib.hid (containsFunc 71 #[.pointer (some ⟨w.heap.size, 0, none⟩)] (fun x => !Col.inr x a0_2 a0_3) AW cw (Col.diffs k l0_0) w1 hci (order_pred _ _ _ _ _ _ _ w1 hbox) (fun args W => by kernel_rfl))
    have hany : (Col.diffs k l0_0).any (fun x => !Col.inr x a0_2 a0_3) = !((Col.diffs k l0_0).all fun x => Col.inr x a0_2 a0_3) := by rw [List.all_eq_not_any_not, Bool.not_not]
    rw [hany] at HF
    clear hany hbox hv hb HB hci hc0 HD2
    cases hx : (Col.diffs k l0_0).all (fun x => Col.inr x a0_2 a0_3) with
    | true =>
     have HE := Lib.hid (find_at (p := fun n => (Col.diffs n l0_0).all fun x => Col.inr x a0_2 a0_3) hlt HN.out hx)
     rw [hx] at HF
     clear hx
     go_wp2_with fail
     refine HF.out.mono ?_
     rintro e w2 ⟨rfl, hb⟩
     have HB2 := Aside0.mk (below_step (below_box HB1.out) hb)
     clear HF HB1 hb
     go_wp2
     go_ret2
     have hr := HR.out
     rw [HE.out] at hr
     obtain ⟨rfl, rfl⟩ := Prod.mk.inj (Option.some.inj hr)
     exact ⟨rfl, HB2.out⟩
    | false =>
     rw [hx] at HF
     have HX := Lib.hid hx
     clear hx
     go_wp2_with fail
     refine HF.out.mono ?_
     rintro e w2 ⟨rfl, hb⟩
     have HB2 := Aside0.mk (below_thru2 HB1.out hb)
     clear HF HB1 hb
     go_wp2
     go_roundw
     case rel => exact ⟨k + 1, by omega, by go_num, ⟨fun j hj => by
      by_cases e : j = k
      ·rw [e]; exact HX.out
      ·exact HN.out j (by omega)⟩, HB2⟩
     case measure => simp [intOf]; omega
   ·have e : k = l0_0.length := by omega
    have HE := Lib.hid (find_none (p := fun n => (Col.diffs n l0_0).all fun x => Col.inr x a0_2 a0_3) (n := l0_0.length) (fun j hj => HN.out j (by omega)))
    go_wp2
    go_ret2
    have hr := HR.out
    rw [HE.out] at hr
    obtain ⟨rfl, rfl⟩ := Prod.mk.inj (Option.some.inj hr)
    exact ⟨rfl, below_box HB.out⟩
end Go.Proofs.YtohlmoppcmjknaaGreatDoor.P
end
