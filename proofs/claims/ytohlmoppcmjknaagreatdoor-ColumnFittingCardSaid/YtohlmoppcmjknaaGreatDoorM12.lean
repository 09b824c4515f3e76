/- Contracts of the program's functions, and the words that their proofs take (joined out of several texts). -/
import Derived.Lib.OwnBridge
import Derived.Deep.RegionHeld3
import Derived.Test.YtohlmoppcmjknaaGreatDoorM2
import Derived.Test.YtohlmoppcmjknaaGreatDoorM4
import Derived.Test.YtohlmoppcmjknaaGreatDoorM7
section
namespace Go.Proofs.YtohlmoppcmjknaaGreatDoor.X
open Go.RowKit Go.Proofs.YtohlmoppcmjknaaGreatDoorW.PrintWords Go.Proofs.YtohlmoppcmjknaaGreatDoorW.PrintLast Go.Proofs.YtohlmoppcmjknaaGreatDoorW.PrintMore
open Go.Proofs.YtohlmoppcmjknaaGreatDoor.Col (nth)
set_option linter.unusedVariables false
set_option linter.unusedSimpArgs false
set_option maxRecDepth 100000 in
theorem apart1_calls (bw bs : Nat) (x wv o : Int) (W : World) (hw : W.cell? ⟨bw, 0, none⟩ = some (.int .i64 wv)) (ho : W.cell? ⟨bs, 1, none⟩ = some (.int .i64 o)) (h1 : -1000 ≤ wv) (h2 : wv ≤ 1000) (h3 : 0 ≤ o) (h4 : o ≤ 9) :
  Calls Tryz.prog 117 #[.int .i64 x, .pointer (some ⟨bw, 0, none⟩), .pointer (some ⟨bs, 0, none⟩)] W fun e w' => e = .returned (.bool (decide (x ≤ wv + o))) ∧ w' = W := by
 go_enter Tryz.func117, Tryz.ntmps117
 go_wp2
 go_ret
 exact ⟨by simp, rfl⟩
theorem apart2_calls (A B : Option Addr) (n c m d : Nat) (W : World) :
  Calls Tryz.prog 119 #[.slice A n c, .slice B m d] W fun e w' => e = .returned (.bool (decide (m < n))) ∧ w' = W := by
 go_enter Tryz.func119, Tryz.ntmps119
 go_wp2
 go_ret
 exact ⟨by simp, rfl⟩
theorem cell_sortWorld (w : World) (blk n : Nat) (dk : Array Int) (os : Array Obj) (a : Addr) (h1 : a.block ≠ blk) (h2 : a.block < w.heap.size) : (sortWorld (Value.int .i64) w blk 0 n dk os).cell? a = w.cell? a := by
 unfold sortWorld
 rw [Sort.cell?_grow _ _ _ (by simpa using h2), Sort.cell?_putRow_other _ _ _ _ _ _ (.inl h1), Sort.cell?_ahead]
set_option maxRecDepth 100000 in
set_option maxHeartbeats 1000000 in
theorem delete_calls (base : Nat) (v : Value) (l : List Int) (bw bs : Nat) (wv o : Int) (w : World) (hr : RI w base v l) (hbs : base ≤ w.heap.size) (hl : l.length ≤ 1000)
  (hb1 : bw < base) (hb2 : bs < base) (hw : w.cell? ⟨bw, 0, none⟩ = some (.int .i64 wv)) (ho : w.cell? ⟨bs, 1, none⟩ = some (.int .i64 o)) (h1 : -1000 ≤ wv) (h2 : wv ≤ 1000) (h3 : 0 ≤ o) (h4 : o ≤ 9) :
  Calls Tryz.prog 116 #[v, .func (.func 117) #[] #[.pointer (some ⟨bw, 0, none⟩), .pointer (some ⟨bs, 0, none⟩)]] w fun e w' =>
   ∃ v', e = .returned v' ∧ RI w' base v' (l.filter fun n => !decide (n ≤ wv + o)) ∧ Below base w w' := by
 have eg : ∀ (args : Array Value) (W : World), (callFunc 117 args).run Tryz.prog W = .ok (.enter 117 args) W := fun args W => by kernel_rfl
 have hown := RI.own hr
 by_cases hv : v = .slice none 0 0
 ·subst hv
  have hl0 : l = [] := by
   have := hr.reads
   obtain ⟨A, c, e, _, _⟩ := this
   injection e with _ e2
   exact List.eq_nil_of_length_eq_zero e2.symm
  subst hl0
  have HI := Lib.hid (indexFunc 117 #[.pointer (some ⟨bw, 0, none⟩), .pointer (some ⟨bs, 0, none⟩)] (fun n => decide (n ≤ wv + o)) none 0 [] w ⟨rfl, by simp, fun h => by simp at h⟩
   (fun x W hb => (apart1_calls bw bs x wv o W ((hb.cell (p := ⟨bw, 0, none⟩) (by simp; omega)).trans hw) ((hb.cell (p := ⟨bs, 1, none⟩) (by simp; omega)).trans ho) h1 h2 h3 h4).mono fun e W' ⟨he, hw'⟩ => ⟨he, hw' ▸ Below.refl _ _⟩) eg)
  clear hr hown eg hw ho
  go_enter Tryz.func116, Tryz.ntmps116
  go_wp2_with fail
  refine HI.out.mono ?_
  rintro e w' ⟨rfl, hb⟩
  have hi : idx (fun n => decide (n ≤ wv + o)) [] = -1 := rfl
  rw [hi]
  have HB := Aside0.mk hb
  clear hb HI hi
  go_wp2
  go_ret
  exact ⟨_, rfl, Kd.R_nil _ _ _ _ _, HB.out.mono hbs⟩
 ·obtain ⟨g, cap, rfl, hg, hgl, hnc, hcm, hzl, hH⟩ := Lib.holds_of_ownsRow (enc := Value.int .i64) (zs := l) hown hv
  have hH' : Sort.Holds (Value.int .i64) w g 0 l.toArray := hH
  have hc := Tryz.slices_DeleteFunc (Value.int .i64) (fun _ => rfl) (fun n => decide (n ≤ wv + o)) 117 #[.pointer (some ⟨bw, 0, none⟩), .pointer (some ⟨bs, 0, none⟩)] eg 0 (fun W => by kernel_rfl) g 0 cap l.toArray w
   (fun W x hb => (apart1_calls bw bs x wv o W ((hb.cell (p := ⟨bw, 0, none⟩) (by simp; omega)).trans hw) ((hb.cell (p := ⟨bs, 1, none⟩) (by simp; omega)).trans ho) h1 h2 h3 h4).mono fun e W' ⟨he, hw'⟩ => ⟨he, 0, hw'⟩)
   (fun n os dk x _ => (apart1_calls bw bs x wv o _ ((cell_sortWorld w g n dk os ⟨bw, 0, none⟩ (by simp; omega) (by simp; omega)).trans hw) ((cell_sortWorld w g n dk os ⟨bs, 1, none⟩ (by simp; omega) (by simp; omega)).trans ho) h1 h2 h3 h4).mono fun e W' ⟨he, hw'⟩ => ⟨he, 0, hw'⟩)
   hH' (by simp; omega) (by simpa using hnc)
  have hsz : l.toArray.size = l.length := by simp
  rw [hsz] at hc
  refine hc.mono ?_
  rintro e w' ⟨rfl, q, rfl⟩
  have hfl : (l.filter fun n => !decide (n ≤ wv + o)).length ≤ l.length := List.length_filter_le _ _
  refine ⟨_, rfl, ?_, Lib.below_putRow (Below.refl _ _) hg⟩
  have hown2 := Lib.ownsRow_putRow (enc := Value.int .i64) (q := q) (zs := l) (ys := (l.filter fun n => !decide (n ≤ wv + o)) ++ List.replicate (l.length - (l.filter fun n => !decide (n ≤ wv + o)).length) 0) (k := (l.filter fun n => !decide (n ≤ wv + o)).length) hown (by simp; omega) hfl
  rw [List.take_left'  rfl] at hown2
  exact OI.toR hown2
end Go.Proofs.YtohlmoppcmjknaaGreatDoor.X
end
section
namespace Go.Proofs.YtohlmoppcmjknaaGreatDoor.X
open Go.RowKit Go.Proofs.YtohlmoppcmjknaaGreatDoorW.PrintWords Go.Proofs.YtohlmoppcmjknaaGreatDoorW.PrintLast Go.Proofs.YtohlmoppcmjknaaGreatDoorW.PrintMore
open Go.Proofs.YtohlmoppcmjknaaGreatDoor.Col (nth)
set_option linter.unusedVariables false
set_option linter.unusedSimpArgs false
abbrev KR : Kd (List Int) := Kd.slice 3 (Kd.int .i64)
theorem longest_succ {xs : List (List Int)} {j : Nat} {x : List Int} (h : xs[j]? = some x) : Col.longest (xs.take (j + 1)) = if (Col.longest (xs.take j)).length < x.length then x else Col.longest (xs.take j) := by
  obtain ⟨hj, e⟩ := List.getElem?_eq_some_iff.1 h
  unfold Col.longest
  rw [List.take_succ_eq_append_getElem hj, List.foldl_append, e]
  rfl
set_option maxHeartbeats 2000000 in
set_option maxRecDepth 100000 in
theorem best_calls (base : Nat) (A : Option Addr) (c : Nat) (xs : List (List Int)) (w : World) (hl : xs.length ≤ 1000) (hne : ∀ x ∈ xs, 0 < x.length)
    (hx : ∀ (j : Nat) (x : List Int), xs[j]? = some x → ∃ ad v, A = some ad ∧ w.cell? (ad.add j) = some v ∧ RI w base v x) :
    Calls Tryz.prog 118 #[.slice A xs.length c, .func (.func 119) #[] #[]] w fun e w' =>
      ∃ v, e = .returned (.tuple #[v, .bool (decide (0 < xs.length))]) ∧ RI w base v (Col.longest xs) ∧ w' = w := by
  have eg : ∀ (args : Array Value) (W : World), (callFunc 119 args).run Tryz.prog W = .ok (.enter 119 args) W := fun args W => by kernel_rfl
  have HX := Lib.hid hx
  have HNE := Lib.hid hne
  clear hx hne
  go_enter Tryz.func118, Tryz.ntmps118
  go_wp2
  go_loop [6, 11] (fun v i => ∃ j : Nat, j ≤ xs.length ∧ i = .int .i64 (j : Int) ∧ Aside0 (RI w base v (Col.longest (xs.take j)))) (fun _ i => xs.length - (intOf i).toNat)
  case atStart => exact ⟨0, by omega, rfl, ⟨Kd.R_nil _ _ _ _ _⟩⟩
  case round =>
    obtain ⟨j, hj, rfl, HV⟩ := hrel
    by_cases hlt : j < xs.length
    · obtain ⟨x, hxj⟩ : ∃ x, xs[j]? = some x := ⟨_, List.getElem?_eq_getElem hlt⟩
      obtain ⟨ad, v, rfl, hc, hv⟩ := HX.out j x hxj
      obtain ⟨Av, cv, rfl, hcv, _⟩ := RI.reads hv
      have HVX := Aside0.mk hv
      have HS := Lib.hid (longest_succ hxj)
      have HP := Lib.hid (HNE.out x (List.mem_of_getElem? hxj))
      clear hv hxj hcv
      by_cases hj0 : j = 0
      · subst hj0
        have HZ : Hid (Col.longest (xs.take 0) = []) := Lib.hid rfl
        have he : (((0 : Nat) : Int) == 0) = true := rfl
        rw [Addr.add_zero'] at hc
        go_wp2
        go_round
        case rel => exact ⟨1, by omega, by go_num, by rw [show (1 : Nat) = 0 + 1 from rfl, HS.out, HZ.out, if_pos (by simpa using HP.out)]; exact HVX⟩
        case measure => simp [intOf]; omega
      · have he : ((j : Int) == 0) = false := by rw [beq_eq_false_iff_ne]; omega
        obtain ⟨Ao, co, rfl, hco, _⟩ := RI.reads HV.out
        generalize Col.longest (xs.take j) = out at *
        by_cases hlen : out.length < x.length
        · have HL := Lib.hid hlen
          have hd : decide (out.length < x.length) = true := decide_eq_true hlen
          clear hlen hco
          go_wp2_with fail
          refine (apart2_calls Av Ao x.length cv out.length co w).mono ?_
          rintro e w' ⟨rfl, rfl⟩
          rw [hd]
          go_wp2
          go_round
          case rel => exact ⟨j + 1, by omega, by go_num, by rw [HS.out, if_pos HL.out]; exact HVX⟩
          case measure => simp [intOf]; omega
        · have HL := Lib.hid hlen
          have hd : decide (out.length < x.length) = false := decide_eq_false hlen
          clear hlen hco
          go_wp2_with fail
          refine (apart2_calls Av Ao x.length cv out.length co w).mono ?_
          rintro e w' ⟨rfl, rfl⟩
          rw [hd]
          go_wp2
          go_round
          case rel => exact ⟨j + 1, by omega, by go_num, by rw [HS.out, if_neg HL.out]; exact HV⟩
          case measure => simp [intOf]; omega
    · have e : j = xs.length := by omega
      subst e
      rw [List.take_length] at HV
      clear hlt
      go_wp2
      go_ret2
      exact ⟨_, by simp, HV.out, rfl⟩
section
variable {P : Program} {ops : Array Oper} {o : Oper} {a : Act} {Q : Exit → Act → World → Prop} {Kc : Act → World → Prop} {α : Type} {E : Prop}
theorem row_step (d : Kd α) {w0 W : World} (base : Nat) (hgd : o.guard = none) (s x : Operand) (t e : TypeId) (z : Value) (bytes : Nat)
    (ho : o.op = .call { callee := .builtin .append, args := #[s, x], argTypes := #[t, t] })
    (ht : P.underlying t = some (.slice e)) (hinfo : (P.info? e).map (fun i => (i.zero, i.size, i.bytes)) = some (some z, d.sz, bytes)) (hz : z.cells.size = d.sz) (hs0 : 0 < d.sz) (hb0 : 0 < bytes)
    (v : Value) (xs : List α) (p : α) (cs : List Value) (ok okp : Nat → Prop) (hs : a.eval s = v) (hx : a.eval x = .slice (some ⟨W.heap.size, 0, none⟩) 1 1) (hp : d.M W base okp p cs) (hokp : ∀ k, okp k → ok k ∧ some k ≠ v.ownBlock) (hfresh : ∀ k, W.heap.size ≤ k → ok k)
    (HO : d.R e W base ok v xs) (HB : Below base w0 W) (hbase : base ≤ W.heap.size) (hl : (xs.length + 1) * bytes ≤ 140737488355328)
    (h : ∀ v1 w1, d.R e w1 base ok v1 (xs ++ [p]) → Below base w0 w1 → W.grownBy w1 v.ownBlock → (v1.ownBlock = v.ownBlock ∨ ∃ b, v1.ownBlock = some b ∧ W.heap.size ≤ b) → Kc (a.put o.dst v1) w1) :
    if Region.wanted o (yielded ops a.tmps) = true then Oper.wp P o a (W.alloc (.cells cs.toArray e)) Kc Q else E := by
  have hw : Region.wanted o (yielded ops a.tmps) = true := by simp [Region.wanted, hgd]
  have h_ := Kd.R_append_step (Q := Q) d base hw s x t e z bytes ho ht hinfo hz hs0 hb0 v xs p cs ok okp hs hx hp hokp hfresh HO HB hbase hl h
  rw [if_pos hw] at h_ ⊢
  exact h_
theorem rows_step (d : Kd α) {Rr : α → List Value → Prop} {w0 W : World} (base : Nat) (hgd : o.guard = none) (s x : Operand) (t e : TypeId) (z : Value) (bytes : Nat)
    (ho : o.op = .call { callee := .builtin .append, args := #[s, x], argTypes := #[t, t] })
    (ht : P.underlying t = some (.slice e)) (hinfo : (P.info? e).map (fun i => (i.zero, i.size, i.bytes)) = some (some z, d.sz, bytes)) (hz : z.cells.size = d.sz) (hs0 : 0 < d.sz) (hb0 : 0 < bytes)
    (v : Value) (xs ys : List α) (A : Option Addr) (m c : Nat) (ok okp : Nat → Prop) (hs : a.eval s = v) (hx : a.eval x = .slice A m c)
    (HO : d.R e W base ok v xs) (HR : ReadsRow Rr d.sz W A m ys) (hKM : ∀ x cs, Rr x cs → d.M W base okp x cs) (hokp : ∀ k, okp k → ok k ∧ some k ≠ v.ownBlock) (hfresh : ∀ k, W.heap.size ≤ k → ok k)
    (HB : Below base w0 W) (hbase : base ≤ W.heap.size) (hl : (xs.length + m) * bytes ≤ 140737488355328)
    (h : ∀ v1 w1, d.R e w1 base ok v1 (xs ++ ys) → Below base w0 w1 → W.grownBy w1 v.ownBlock → (v1.ownBlock = v.ownBlock ∨ ∃ b, v1.ownBlock = some b ∧ W.heap.size ≤ b) → Kc (a.put o.dst v1) w1) :
    if Region.wanted o (yielded ops a.tmps) = true then Oper.wp P o a W Kc Q else E := by
  have hw : Region.wanted o (yielded ops a.tmps) = true := by simp [Region.wanted, hgd]
  have h_ := Kd.R_append_rows_step (Q := Q) d base hw s x t e z bytes ho ht hinfo hz hs0 hb0 v xs ys A m c ok okp hs hx HO HR hKM hokp hfresh HB hbase hl h
  rw [if_pos hw] at h_ ⊢
  exact h_
end
theorem jumping_length_le' (ws : List Int) (lo hi : Int) : (Col.jumping ws lo hi).length ≤ ws.length := by
  unfold Col.jumping
  rw [List.length_map]
  exact Nat.le_trans (List.length_filter_le _ _) (by simp)
theorem info_rowP : (Tryz.prog.info? 22).map (fun i => (i.zero, i.size, i.bytes)) = some (some (.slice none 0 0), 1, 24) := by kernel_rfl
def candsTo (k : Nat) (o : Int) (l : List Int) (j : Nat) : List (List Int) := (List.range j).map fun i => nth l i :: Col.apart k o ((l.drop (i + 1)).filter fun n => !decide (n ≤ nth l i + o))
theorem candsTo_succ (k : Nat) (o : Int) (l : List Int) (j : Nat) : candsTo k o l (j + 1) = candsTo k o l j ++ [nth l j :: Col.apart k o ((l.drop (j + 1)).filter fun n => !decide (n ≤ nth l j + o))] := by simp [candsTo, List.range_succ]
theorem apart_cands (k : Nat) (o : Int) (l : List Int) : Col.apart (k + 1) o l = Col.longest (candsTo k o l l.length) := rfl
theorem candsTo_length (k : Nat) (o : Int) (l : List Int) (j : Nat) : (candsTo k o l j).length = j := by simp [candsTo]
theorem candsTo_ne {k : Nat} {o : Int} {l : List Int} {j : Nat} : ∀ x ∈ candsTo k o l j, 0 < x.length := by
  intro x hx
  obtain ⟨i, _, rfl⟩ := List.mem_map.1 hx
  simp
theorem below_newbox {w w2 : World} {o : Obj} (h : Below (w.alloc o).heap.size (w.alloc o) w2) : Below w.heap.size w w2 := ((Below.refl _ _).alloc (Nat.le_refl _) _).trans (h.mono (by simp))
theorem at_newbox {w w2 : World} {o : Obj} (h : Below (w.alloc o).heap.size (w.alloc o) w2) : w2.heap[w.heap.size]? = some o := blk_below (blk_new w o) h
theorem rows_cells {w : World} {base e : Nat} {v : Value} {xs : List (List Int)} (h : KR.R e w base (fun _ => True) v xs) :
    ∃ A c, v = .slice A xs.length c ∧ ∀ (j : Nat) (x : List Int), xs[j]? = some x → ∃ ad v, A = some ad ∧ w.cell? (ad.add j) = some v ∧ RI w base v x := by
  obtain ⟨_, inner, ho, hr⟩ := h
  obtain ⟨A, c, rfl⟩ := own_slice ho
  refine ⟨A, c, rfl, fun j x hx => ?_⟩
  have hj := (List.getElem?_eq_some_iff.1 hx).1
  obtain ⟨g, cap, hg, _, _⟩ := World.ownsRow.form ho (by omega)
  injection hg with hg _ _
  subst hg
  obtain ⟨v, hv, hR⟩ := hr.2 j x hx
  refine ⟨⟨g, 0, none⟩, v, rfl, ?_, Kd.R_mono hR (fun _ _ => trivial)⟩
  refine ho.cells (g := g) rfl j v ?_
  have := congrArg (fun l => l[0]?) hv
  simp only [List.getElem?_take, List.getElem?_drop] at this
  simpa [KR, Kd.slice] using this
theorem apart_len {o : Int} : ∀ (k : Nat) (l : List Int), l.length ≤ 1000 → (Col.apart k o l).length ≤ 1000 := by
  have key : ∀ (k : Nat) (l : List Int), (Col.apart k o l).length ≤ l.length := by
    intro k
    induction k with
    | zero => intro l; simp [Col.apart]
    | succ k ih =>
      intro l
      have h2 : ∀ (xs : List (List Int)) (out : List Int) (n : Nat), out.length ≤ n → (∀ x ∈ xs, x.length ≤ n) → (xs.foldl (fun out x => if out.length < x.length then x else out) out).length ≤ n := by
        intro xs
        induction xs with
        | nil => intro out n h _; exact h
        | cons a xs ihx =>
          intro out n h h'
          rw [List.foldl_cons]
          refine ihx _ n ?_ (fun x hx => h' x (List.mem_cons_of_mem _ hx))
          split
          · exact h' a (by simp)
          · exact h
      rw [apart_cands]
      refine h2 _ [] _ (Nat.zero_le _) ?_
      intro x hx
      obtain ⟨i, hi, rfl⟩ := List.mem_map.1 hx
      have hi := List.mem_range.1 hi
      have h3 := ih ((l.drop (i + 1)).filter fun n => !decide (n ≤ nth l i + o))
      have h4 := List.length_filter_le (fun n => !decide (n ≤ nth l i + o)) (l.drop (i + 1))
      rw [List.length_drop] at h4
      simp only [List.length_cons]
      omega
  intro k l h
  exact Nat.le_trans (key k l) h
set_option maxHeartbeats 8000000 in
set_option maxRecDepth 100000 in
theorem apart_calls (A0 : Option Addr) (n0 c0 : Nat) (o lo hi : Int) (AW : Option Addr) (m cw b : Nat) (ho : 0 ≤ o) (ho9 : o ≤ 9) : ∀ (k : Nat) (l : List Int) (A : Option Addr) (c : Nat) (w : World), l.length < k → l.length ≤ 1000 → (∀ x ∈ l, 0 ≤ x ∧ x ≤ 1000) → CI w A l → l.length ≤ c →
    Calls Tryz.prog 85 #[shV A0 n0 c0 o lo hi AW m cw b, .slice A l.length c] w fun e w' => ∃ v, e = .returned v ∧ RI w' w.heap.size v (Col.apart k o l) ∧ Below w.heap.size w w' := by
  intro k
  induction k with
  | zero => intro l A c w h; omega
  | succ k ih =>
    intro l A c w hlk hl hbd hci hc
    have IH := Lib.hid ih
    have HL := Aside0.mk hci
    have HBD := Lib.hid hbd
    have hmf : ∀ (fn : Fn) (first cap : Array Value) (w : World), (Instr.makeFunc fn first cap).run Tryz.prog w = .ok (.func fn first cap) w := fun _ _ _ _ => rfl
    rw [apart_cands]
    clear ih hci hbd
    go_enter Tryz.func85, Tryz.ntmps85
    go_wp2
    go_loopw [5, 13] (fun v i wr => ∃ j : Nat, j ≤ l.length ∧ i = .int .i64 (j : Int) ∧ Aside0 (KR.R 22 wr (w.heap.size + 1) (fun _ => True) v (candsTo k o l j)) ∧ Aside0 (Below (w.heap.size + 1) (w.alloc (.cells #[.slice A0 n0 c0, .int .i64 o, .int .i64 lo, .int .i64 hi, .slice AW m cw, .map (some b)] 90)) wr)) (fun _ i _ => l.length - (intOf i).toNat)
    case atStart => exact ⟨0, by omega, rfl, ⟨Kd.R_nil _ _ _ _ _⟩, ⟨Below.refl _ _⟩⟩
    case round =>
      obtain ⟨j, hj, rfl, HR, HB⟩ := hrel
      by_cases hlt : j < l.length
      · obtain ⟨ad, rfl, hcx⟩ := (HL.out.below (below_box HB.out)).at_ j hlt
        obtain ⟨i0, hi0, _, hz1, _⟩ := info_parts info_int
        obtain ⟨A', hsl, hrd, hcap⟩ := print_drop_of (P := Tryz.prog) (Value.int .i64) 0 22 3 .i64 Tryz.underlying22 hi0 hz1 (some ad) c l ((j : Int) + 1) (by omega) (by omega) hc
        have ej : ((j : Int) + 1).toNat = j + 1 := by omega
        rw [ej] at hsl hrd hcap
        have hxb := HBD.out (nth l j) (Col.nth_mem hlt)
        have hdl : (l.drop (j + 1)).length ≤ 1000 := by rw [List.length_drop]; omega
        have HC := Lib.hid (fun W (hW : Below w.heap.size w W) => P.slices_Clone_int_int.calls A' (c - (j + 1)) (l.drop (j + 1)) (l.drop (j + 1)) W (Kd.C_of_reads (d := 0) (hrd W (Kd.reads_of_C (d := 0) (HL.out.below hW)))) hcap (by unfold P.slices_Clone_int_int.f; rw [if_pos (by omega)]))
        have hrl : ((l.drop (j + 1)).filter fun n => !decide (n ≤ nth l j + o)).length ≤ l.length - (j + 1) := by have := List.length_filter_le (fun n => !decide (n ≤ nth l j + o)) (l.drop (j + 1)); rw [List.length_drop] at this; exact this
        have hrb : ∀ y ∈ (l.drop (j + 1)).filter fun n => !decide (n ≤ nth l j + o), 0 ≤ y ∧ y ≤ 1000 := fun y hy => HBD.out y (List.mem_of_mem_drop (List.mem_filter.1 hy).1)
        have HS := Lib.hid (candsTo_succ k o l j)
        have hrd2 := Lib.hid hrb
        have HD := Lib.hid (fun v2 w2 base (hr : RI w2 base v2 (l.drop (j + 1))) (hb : base ≤ w2.heap.size) (h1 : wr.heap.size < base) (h2 : w.heap.size < base) hw ho' => delete_calls base v2 (l.drop (j + 1)) wr.heap.size w.heap.size (nth l j) o w2 hr hb hdl h1 h2 hw ho' (by omega) (by omega) ho ho9)
        have hwr := HB.out.size
        have hdc : (l.drop (j + 1)).length = l.length - (j + 1) := List.length_drop
        generalize hx : nth l j = x at *
        generalize l.drop (j + 1) = ld at *
        generalize hrest : (ld.filter fun n => !decide (n ≤ x + o)) = rest at *
        have HDC := Lib.hid hdc
        clear hrd hrb hx hrest ej hdc
        go_wp2_with fail
        refine (HC.out _ (below_alloc (below_box HB.out) _)).mono ?_
        rintro e w2 ⟨v2, rfl, hv2, hb2⟩
        have g2 := Aside0.mk (at_newbox hb2)
        have HB2 := Aside0.mk (below_newbox hb2)
        have HV2 := Aside0.mk hv2
        have HSZ := Aside0.mk hb2.size
        have hwr' : w.heap.size + 1 ≤ wr.heap.size := by simpa using hwr
        have HX2 := Aside0.mk ((HB2.out.block w.heap.size (by omega)).trans ((HB.out.block w.heap.size (by simp)).trans (blk_new w _)))
        clear hv2 hb2 HC
        go_wp2_with fail
        refine (HD.out v2 w2 _ HV2.out HSZ.out (by simp) (by simp; omega) ((blk_cell g2.out 0).trans rfl) ((blk_cell HX2.out 1).trans rfl)).mono ?_
        rintro e w3 ⟨v3, rfl, hv3, hb3⟩
        have hB3 : Below wr.heap.size wr w3 := HB2.out.trans (hb3.mono (by simp))
        have g3 := (hb3.block wr.heap.size (by simp)).trans g2.out
        have hX3 := (hb3.block w.heap.size (by simp; omega)).trans HX2.out
        obtain ⟨A3, c3, rfl, hc3, hci3⟩ := RI.reads hv3
        have hKS := Lib.hid (fun W (hW : Below w3.heap.size w3 W) => (⟨(blk_cell (blk_below g3 hW) 0).trans rfl, (blk_cell (blk_below hX3 hW) 0).trans rfl, (blk_cell (blk_below hX3 hW) 1).trans rfl, (blk_cell (blk_below hX3 hW) 2).trans rfl, (blk_cell (blk_below hX3 hW) 3).trans rfl, (blk_cell (blk_below hX3 hW) 4).trans rfl, (blk_cell (blk_below hX3 hW) 5).trans rfl⟩ :
          W.cell? ⟨wr.heap.size, 0, none⟩ = some (.int .i64 x) ∧ W.cell? ⟨w.heap.size, 0, none⟩ = some (.slice A0 n0 c0) ∧ W.cell? ⟨w.heap.size, 1, none⟩ = some (.int .i64 o) ∧ W.cell? ⟨w.heap.size, 2, none⟩ = some (.int .i64 lo) ∧ W.cell? ⟨w.heap.size, 3, none⟩ = some (.int .i64 hi) ∧ W.cell? ⟨w.heap.size, 4, none⟩ = some (.slice AW m cw) ∧ W.cell? ⟨w.heap.size, 5, none⟩ = some (.map (some b))))
        have HIH := Lib.hid (fun W (hW : Below w3.heap.size w3 W) => IH.out rest A3 c3 W (by have := HDC.out; omega) (by omega) hrd2.out (hci3.below hW) hc3)
        have HR3 := Aside0.mk (Kd.R_below HR.out hB3)
        have HB3 := Aside0.mk hB3
        obtain ⟨Av, cv, rfl, _⟩ := rows_cells HR.out
        have hP0 : Below w3.heap.size w3 w3.drew := (Below.refl _ _).drew
        have hal : (Col.apart k o rest).length ≤ 1000 := apart_len k rest (by omega)
        obtain ⟨inner3, hown3⟩ := Kd.R_own HR3.out
        have hpM := Lib.hid (fun (w7 : World) (v7 : Value) (ys : List Int) (h : Kd.R (Kd.int .i64) 3 w7 w3.heap.size (fun _ => True) v7 ys) => (⟨v7, rfl, Kd.R_lower (Kd.R_new h hown3) (by have := HB3.out.size; omega)⟩ : KR.M w7 (w.heap.size + 1) (fun q => True ∧ some q ≠ (Value.slice Av (candsTo k o l j).length cv).ownBlock) ys [v7]))
        have hBB := Lib.hid (fun (w7 : World) (h : Below w3.heap.size w3 w7) => HB.out.trans ((HB3.out.trans (h.mono HB3.out.size)).mono hwr'))
        obtain ⟨innerR, hownR⟩ := Kd.R_own HR.out
        have hne1 : some wr.heap.size ≠ (Value.slice Av (candsTo k o l j).length cv).ownBlock := fun e => by have := own_lt hownR _ e.symm; omega
        have hne0 : some w.heap.size ≠ (Value.slice Av (candsTo k o l j).length cv).ownBlock := fun e => by have := own_base hownR _ e.symm; omega
        have hKS2 := Lib.hid (fun (W w8 : World) (hW : Below w3.heap.size w3 W) (hg : W.grownBy w8 (Value.slice Av (candsTo k o l j).length cv).ownBlock) => (⟨hg.cell (hKS.out W hW).1 hne1, hg.cell (hKS.out W hW).2.1 hne0, hg.cell (hKS.out W hW).2.2.1 hne0, hg.cell (hKS.out W hW).2.2.2.1 hne0, hg.cell (hKS.out W hW).2.2.2.2.1 hne0, hg.cell (hKS.out W hW).2.2.2.2.2.1 hne0, hg.cell (hKS.out W hW).2.2.2.2.2.2 hne0⟩ :
          w8.cell? ⟨wr.heap.size, 0, none⟩ = some (.int .i64 x) ∧ w8.cell? ⟨w.heap.size, 0, none⟩ = some (.slice A0 n0 c0) ∧ w8.cell? ⟨w.heap.size, 1, none⟩ = some (.int .i64 o) ∧ w8.cell? ⟨w.heap.size, 2, none⟩ = some (.int .i64 lo) ∧ w8.cell? ⟨w.heap.size, 3, none⟩ = some (.int .i64 hi) ∧ w8.cell? ⟨w.heap.size, 4, none⟩ = some (.slice AW m cw) ∧ w8.cell? ⟨w.heap.size, 5, none⟩ = some (.map (some b))))
        clear hne1 hne0 hownR
        clear IH HD HV2 HSZ HX2 g2 HB2 hv3 hb3 hB3 g3 hX3 HBD hrd2 HL
        go_wp2
        go_region_held3 (fun W => W.cell? ⟨wr.heap.size, 0, none⟩ = some (.int .i64 x) ∧ W.cell? ⟨w.heap.size, 0, none⟩ = some (.slice A0 n0 c0) ∧ W.cell? ⟨w.heap.size, 1, none⟩ = some (.int .i64 o) ∧ W.cell? ⟨w.heap.size, 2, none⟩ = some (.int .i64 lo) ∧ W.cell? ⟨w.heap.size, 3, none⟩ = some (.int .i64 hi) ∧ W.cell? ⟨w.heap.size, 4, none⟩ = some (.slice AW m cw) ∧ W.cell? ⟨w.heap.size, 5, none⟩ = some (.map (some b)))
          (first | exact hKS.out _ hP0 | exact hKS.out _ (hP0.alloc hP0.size _) | exact hKS.out _ hP1 | exact hKS.out _ (hP1.alloc hP1.size _) | exact hKS.out _ hP5 | exact hKS.out _ (hP5.alloc hP5.size _) | exact hKS2.out _ _ hP5 hg8)
          (first
            | (go_at_call 85; refine (HIH.out _ (by first | exact hP0 | exact hP0.alloc hP0.size _)).mono ?_; rintro e w5 ⟨v5, rfl, hv5, hb5⟩; have hP1 : Below w3.heap.size w3 w5 := (by first | exact below_step hP0 hb5 | exact below_step (hP0.alloc hP0.size _) hb5); obtain ⟨A5, c5, rfl, hc5, hci5⟩ := RI.reads hv5;
                (try have hO1 : Kd.R (Kd.int .i64) 3 w5 w3.heap.size (fun _ => True) (.slice (some ⟨w3.heap.size, 0, none⟩) 1 1) [x] := Kd.R_below (OI.toR (OI.lit w3 w3.heap.size [x] (Nat.le_refl _) (by simp))) (below_step ((Below.refl _ _).drew) hb5)))
            | (refine rows_step (Kd.int .i64) (Rr := (Kd.int .i64).K w5) (w0 := w3) w3.heap.size (by rfl) _ _ 22 3 (.int .i64 0) 8 (by rfl) Tryz.underlying22 info_int rfl (by decide) (by decide) _ [x] (Col.apart k o rest) _ _ c5 (fun _ => True) (fun _ => False) (by rfl) (by rfl) (by first | exact hO1 | exact OI.toR (OI.lit w5 w3.heap.size [x] hP1.size (by simp))) (by first | exact hci5 | exact hci5.below ((Below.refl _ _).alloc (Nat.le_refl _) _)) (fun _ _ h => h) (fun _ h => h.elim) (fun _ _ => trivial) (by first | exact hP1 | exact hP1.alloc hP1.size _) (by first | exact hP1.size | exact (hP1.alloc hP1.size _).size) (by simp; omega) ?_; intro v7 w7 hR7 hP5 hg7 hat7; obtain ⟨A7, c7, e7, _⟩ := RI.reads hR7; subst e7)
            | (refine row_step KR (w0 := w.alloc (.cells #[.slice A0 n0 c0, .int .i64 o, .int .i64 lo, .int .i64 hi, .slice AW m cw, .map (some b)] 90)) (w.heap.size + 1) (by rfl) _ _ 97 22 (.slice none 0 0) 24 (by rfl) Tryz.underlying97 info_rowP rfl (by decide) (by decide) _ (candsTo k o l j) (x :: Col.apart k o rest) [_] (fun _ => True) _ (by rfl) (by rfl) (hpM.out _ _ _ hR7) (fun q hq => ⟨trivial, hq.2⟩) (fun _ _ => trivial) (Kd.R_below HR3.out hP5) (hBB.out _ hP5) (by simpa using (hBB.out _ hP5).size) (by rw [candsTo_length]; omega) ?_; intro v8 w8 hR8 hP6 hg8 hat8))
        all_goals (
          have HR8 := Aside0.mk hR8
          have HB8 := Aside0.mk hP6
          (try clear hO1)
          clear hR8 hP6 hg8 hat8 hP5 hR7 hg7 hat7 hci5 hv5 hb5 hP1 hP0 hKS hKS2 hpM hBB hown3 HR3 HB3 HR HB HIH
          go_wp2
          exact ⟨⟨j + 1, by omega, by go_num, by rw [HS.out]; exact HR8, HB8⟩, by simp [intOf]; omega⟩)
      · have e : j = l.length := by omega
        subst e
        obtain ⟨Av, cv, rfl, hcells⟩ := rows_cells HR.out
        have HBE := Lib.hid (best_calls (w.heap.size + 1) Av cv (candsTo k o l l.length) wr (by rw [candsTo_length]; omega) candsTo_ne hcells)
        have hcl := candsTo_length k o l l.length
        clear hcells
        generalize hcs : candsTo k o l l.length = cs at *
        have HCS := Lib.hid hcs
        clear hcl hcs
        go_wp2_with fail
        refine HBE.out.mono ?_
        rintro e w' ⟨v, rfl, hv, rfl⟩
        have HV := Aside0.mk hv
        clear hv HBE
        go_wp2
        go_ret
        exact ⟨_, rfl, by rw [HCS.out]; exact HV.out.lower (Nat.le_succ _), below_box HB.out⟩
end Go.Proofs.YtohlmoppcmjknaaGreatDoor.X
namespace Go.Proofs.YtohlmoppcmjknaaGreatDoor.P
open Go.RowKit Go.Proofs.YtohlmoppcmjknaaGreatDoorW.PrintWords Go.Proofs.YtohlmoppcmjknaaGreatDoorW.PrintLast Go.Proofs.YtohlmoppcmjknaaGreatDoorW.PrintMore Go.Proofs.YtohlmoppcmjknaaGreatDoor.X
set_option linter.unusedVariables false
set_option linter.unusedSimpArgs false
theorem jumping_bd {ws : List Int} {lo hi : Int} (h : ws.length ≤ 1000) : ∀ x ∈ Col.jumping ws lo hi, 0 ≤ x ∧ x ≤ 1000 := by
  intro x hx
  unfold Col.jumping at hx
  obtain ⟨i, hi, rfl⟩ := List.mem_map.1 hx
  have := List.mem_range.1 (List.mem_filter.1 hi).1
  omega
set_option maxHeartbeats 4000000 in
set_option maxRecDepth 100000 in
theorem column_Proof.calls (A0_0 : Option Addr) (c0_0 : Nat) (l0_0 : List Int) (a0_1 : Int) (a0_2 : Int) (a0_3 : Int) (r1 : List Int) (r2 : Int) (w : World) (hr0_0 : Kd.C (Kd.int .i64) w A0_0 l0_0.length l0_0) (hc0_0 : l0_0.length ≤ c0_0) (h : column_Proof.f l0_0 a0_1 a0_2 a0_3 = some (r1, r2)) :
    Calls Tryz.prog 43 #[.agg #[.slice A0_0 l0_0.length c0_0, .int .i64 a0_1, .int .i64 a0_2, .int .i64 a0_3]] w fun e w' => ∃ v0_ : Value, e = .returned (.tuple #[v0_, .int .i64 r2]) ∧ Kd.R (Kd.int .i64) 3 w' w.heap.size (fun _ => True) v0_ r1 ∧ Below w.heap.size w w' := by
  have hr : Col.fProof l0_0 a0_1 a0_2 a0_3 = some (r1, r2) := h
  unfold Col.fProof at hr
  have HS := Lib.hid (fun W (hb : Below w.heap.size w W) => column_isSheet.calls A0_0 c0_0 l0_0 a0_1 a0_2 a0_3 (Col.isSheet l0_0 a0_1 a0_2 a0_3) W (CI.below hr0_0 hb) hc0_0 rfl)
  cases hs : Col.isSheet l0_0 a0_1 a0_2 a0_3 with
  | false =>
    rw [hs] at HS hr
    obtain ⟨rfl, rfl⟩ := Prod.mk.inj (Option.some.inj hr)
    clear hr h hs hr0_0 hc0_0
    go_enter Tryz.func43, Tryz.ntmps43
    go_wp2_with fail
    refine (HS.out _ ((Below.refl _ _).alloc (Nat.le_refl _) _)).mono ?_
    rintro e w' ⟨rfl, hb⟩
    have HB := Aside0.mk (box_of hb)
    clear hb HS
    go_wp2
    go_ret2
    exact ⟨_, rfl, Kd.R_nil _ _ _ _ _, below_box HB.out⟩
  | true =>
    have hsm := small_of_sheet hs
    obtain ⟨l1, l15, ho1, ho3, _, _, _, _, _⟩ := small_parts hsm
    rw [hs] at HS hr
    obtain ⟨rfl, rfl⟩ := Prod.mk.inj (Option.some.inj hr)
    have HO := Lib.hid (fun W (hb : Below w.heap.size w W) => sheetOf_calls A0_0 c0_0 l0_0 a0_1 a0_2 a0_3 W (CI.below hr0_0 hb) hc0_0 hsm)
    have hwl : (Col.wins l0_0 a0_1).length ≤ 1000 := Nat.le_trans (wins_length_le _ _) (by omega)
    have HJ := Lib.hid (fun W AW cw b hw => jumping_calls A0_0 l0_0.length c0_0 a0_1 a0_2 a0_3 AW cw b (Col.wins l0_0 a0_1) hwl W hw)
    have HJB := Lib.hid (jumping_bd (ws := Col.wins l0_0 a0_1) (lo := a0_2) (hi := a0_3) hwl)
    have HJL : Hid ((Col.jumping (Col.wins l0_0 a0_1) a0_2 a0_3).length ≤ 1000) := Lib.hid (Nat.le_trans (jumping_length_le' _ _ _) hwl)
    show Calls _ _ _ w fun e w' => ∃ v0_ : Value, e = .returned (.tuple #[v0_, .int .i64 0]) ∧ RI w' w.heap.size v0_ (Col.apart ((Col.jumping (Col.wins l0_0 a0_1) a0_2 a0_3).length + 1) a0_1 (Col.jumping (Col.wins l0_0 a0_1) a0_2 a0_3)) ∧ Below w.heap.size w w'
    generalize Col.wins l0_0 a0_1 = ws at *
    clear hr h hs hr0_0 hc0_0 hsm l1 l15
    generalize Col.jumping ws a0_2 a0_3 = J at *
    go_enter Tryz.func43, Tryz.ntmps43
    go_wp2_with fail
    refine (HS.out _ ((Below.refl _ _).alloc (Nat.le_refl _) _)).mono ?_
    rintro e w' ⟨rfl, hb⟩
    have HB := Aside0.mk (box_of hb)
    have hc0 := box_cell HB.out 0 rfl
    have hc1 := box_cell HB.out 1 rfl
    have hc2 := box_cell HB.out 2 rfl
    have hc3 := box_cell HB.out 3 rfl
    clear hb HS
    go_wp2_with fail
    refine (HO.out _ (below_box HB.out)).mono ?_
    rintro e w2 ⟨AW, cw, b, rfl, hci, hmet, hcw, hb⟩
    have HB2 := Aside0.mk (below_step (below_box HB.out) hb)
    have HJ2 := Lib.hid (fun W (hW : Below w2.heap.size w2 W) => HJ.out W AW cw b (hci.below hW))
    clear HO HB hb hci hmet hcw HJ hc0 hc1 hc2 hc3
    have hbx : Below w2.heap.size w2 (w2.alloc (.cells #[.slice A0_0 l0_0.length c0_0, .int .i64 a0_1, .int .i64 a0_2, .int .i64 a0_3, .slice AW ws.length cw, .map (some b)] 90)) := (Below.refl _ _).alloc (Nat.le_refl _) _
    have hg := blk_new w2 (.cells #[.slice A0_0 l0_0.length c0_0, .int .i64 a0_1, .int .i64 a0_2, .int .i64 a0_3, .slice AW ws.length cw, .map (some b)] 90 (0, 0))
    go_wp2
    have HB0 := Aside0.mk (below_step HB2.out hbx)
    generalize (w2.alloc (.cells #[.slice A0_0 l0_0.length c0_0, .int .i64 a0_1, .int .i64 a0_2, .int .i64 a0_3, .slice AW ws.length cw, .map (some b)] 90)) = W0 at *
    have hKS := Lib.hid (fun W (hW : Below W0.heap.size W0 W) => (⟨(blk_cell (blk_below hg hW) 0).trans rfl, (blk_cell (blk_below hg hW) 1).trans rfl, (blk_cell (blk_below hg hW) 2).trans rfl, (blk_cell (blk_below hg hW) 3).trans rfl, (blk_cell (blk_below hg hW) 4).trans rfl, (blk_cell (blk_below hg hW) 5).trans rfl⟩ :
      W.cell? ⟨w2.heap.size, 0, none⟩ = some (.slice A0_0 l0_0.length c0_0) ∧ W.cell? ⟨w2.heap.size, 1, none⟩ = some (.int .i64 a0_1) ∧ W.cell? ⟨w2.heap.size, 2, none⟩ = some (.int .i64 a0_2) ∧ W.cell? ⟨w2.heap.size, 3, none⟩ = some (.int .i64 a0_3) ∧ W.cell? ⟨w2.heap.size, 4, none⟩ = some (.slice AW ws.length cw) ∧ W.cell? ⟨w2.heap.size, 5, none⟩ = some (.map (some b))))
    have hP0 : Below W0.heap.size W0 W0.drew := (Below.refl _ _).drew
    have HJ3 := Lib.hid (fun W (hW : Below W0.heap.size W0 W) => HJ2.out W (below_step hbx hW))
    have HA := Lib.hid (fun W A c (hA : CI W A J) (hc : J.length ≤ c) => apart_calls A0_0 l0_0.length c0_0 a0_1 a0_2 a0_3 AW ws.length cw b (by omega) (by omega) (J.length + 1) J A c W (by omega) HJL.out HJB.out hA hc)
    clear hg hbx HJ2
    go_region_held3 (fun W => W.cell? ⟨w2.heap.size, 0, none⟩ = some (.slice A0_0 l0_0.length c0_0) ∧ W.cell? ⟨w2.heap.size, 1, none⟩ = some (.int .i64 a0_1) ∧ W.cell? ⟨w2.heap.size, 2, none⟩ = some (.int .i64 a0_2) ∧ W.cell? ⟨w2.heap.size, 3, none⟩ = some (.int .i64 a0_3) ∧ W.cell? ⟨w2.heap.size, 4, none⟩ = some (.slice AW ws.length cw) ∧ W.cell? ⟨w2.heap.size, 5, none⟩ = some (.map (some b)))
      (first | exact hKS.out _ hP0 | exact hKS.out _ hP1 | exact hKS.out _ hP2)
      (first
        | (go_at_call 69; refine (HJ3.out _ hP0).mono ?_; rintro e w5 ⟨v5, rfl, hv5, hb5⟩; have hP1 := below_step hP0 hb5; obtain ⟨AJ, cJ, rfl, hcJ, hciJ⟩ := RI.reads hv5)
        | (go_at_call 85; refine (HA.out _ AJ cJ hciJ hcJ).mono ?_; rintro e w6 ⟨v6, rfl, hv6, hb6⟩; have hP2 := below_step hP1 hb6))
    have HV := Aside0.mk (hv6.lower (Nat.le_trans HB0.out.size hP1.size))
    have HBF := Aside0.mk (below_step HB0.out hP2)
    clear hv6 hb6 hP2 hP1 hv5 hb5 hciJ hcJ hP0 hKS
    go_wp2
    go_ret2
    exact ⟨_, rfl, HV.out, HBF.out⟩
end Go.Proofs.YtohlmoppcmjknaaGreatDoor.P
end
