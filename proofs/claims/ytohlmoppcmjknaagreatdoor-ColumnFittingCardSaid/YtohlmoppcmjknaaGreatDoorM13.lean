/- Contracts of the program's functions, and the words that their proofs take (joined out of several texts). -/
import Derived.Deep.RegionHeld3
import Derived.Test.YtohlmoppcmjknaaGreatDoorM2
import Derived.Test.YtohlmoppcmjknaaGreatDoorM9
import Derived.Test.YtohlmoppcmjknaaGreatDoorM11
import Derived.Test.YtohlmoppcmjknaaGreatDoorM12
section
namespace Go.Proofs.YtohlmoppcmjknaaGreatDoor.X
open Go.RowKit Go.Proofs.YtohlmoppcmjknaaGreatDoorW.PrintWords Go.Proofs.YtohlmoppcmjknaaGreatDoorW.PrintLast Go.Proofs.YtohlmoppcmjknaaGreatDoorW.PrintMore
open Go.Proofs.YtohlmoppcmjknaaGreatDoor.Col (nth bys)
open Go.Proofs.YtohlmoppcmjknaaGreatDoor.P (below_step0)
set_option linter.unusedVariables false
set_option linter.unusedSimpArgs false
def Sheet (base : Nat) (o : Option (List Int × Int × Int × Int)) (e : Ending) (w : World) : Prop := match o with
 | some (l, o, lo, hi) => ∃ A c, e = .returned (.agg #[.slice A l.length c, .int .i64 o, .int .i64 lo, .int .i64 hi]) ∧ Kd.R (Kd.int .i64) 3 w base (fun _ => True) (.slice A l.length c) l
 | none => ∃ s : ByteArray, e = .panicked [{ v := .iface 131 (.agg #[.string s]), recovered := false }]
theorem getD_bys (rs : List (List UInt8)) (i : Nat) (h : i < rs.length) : rdOf ByteArray.empty (rs.map bys) (i : Int) = bys (rs.getD i []) := by
 unfold rdOf
 rw [Int.toNat_natCast, List.getD_eq_getElem?_getD, List.getElem?_map, List.getD_eq_getElem?_getD, List.getElem?_eq_getElem h]
 rfl
theorem strs_new (w : World) (rs : List (List UInt8)) (hl : rs.length ≤ 9223372036854775807) : Kd.C Kd.string (w.alloc (.cells ((rs.map bys).map Value.string).toArray 9)) (some ⟨w.heap.size, 0, none⟩) rs.length (rs.map bys) := by
 have h := Kd.R_of_own (h1 := fun _ => rfl) (own_lit_of (enc := Value.string) w w.heap.size 9 (rs.map bys) (Nat.le_refl _) (by simpa using hl)) (fun _ _ => (trivial : True)) (ok := fun _ => True)
 obtain ⟨A, c, e, h1, h2⟩ := Kd.R_reads h
 rw [List.length_map] at e h2
 cases e
 exact h2
theorem str_at {w : World} {g : Nat} {rs : List (List UInt8)} (h : Kd.C Kd.string w (some ⟨g, 0, none⟩) rs.length (rs.map bys)) (i : Nat) (hi : i < rs.length) : w.cell? ⟨g, i, none⟩ = some (.string (bys (rs.getD i []))) := by
 obtain ⟨ad, e, hc⟩ := Kd.at_string h (i : Int) (by omega) (by omega)
 cases e
 rw [getD_bys rs i hi, Int.toNat_natCast, Addr.add_lit, Nat.zero_add] at hc
 exact hc
theorem split_c (c : UInt8) (s : List UInt8) (hs : s.length < 100000) (w : World) (hG : Tryz.Glob w) :
  Calls Tryz.prog 105 #[.string (bys s), .string ⟨#[c]⟩] w fun e w' =>
   ∃ g, e = .returned (.slice (some ⟨g, 0, none⟩) (Col.split c s).length (Col.split c s).length) ∧ Kd.C Kd.string w' (some ⟨g, 0, none⟩) (Col.split c s).length ((Col.split c s).map bys) ∧ Below w.heap.size w w' :=
 (split_calls c s hs w hG).mono fun e w' ⟨he, hw⟩ => ⟨_, he, hw ▸ strs_new w (Col.split c s) (by have := (Col.split_len c s).1; omega), hw ▸ (Below.refl _ _).alloc (Nat.le_refl _) _⟩
theorem parse_short {s : List UInt8} (h : (Col.split 10 s).length < 3) : Col.parse s = none := by
 unfold Col.parse
 rw [if_pos h]
theorem parse_four {s : List UInt8} (h : (Col.split 32 ((Col.split 10 s).headD [])).length ≠ 4) : Col.parse s = none := by
 unfold Col.parse
 dsimp only
 split
 ·rfl
 ·split
  ·rename_i a b c d e
   rw [e] at h
   exact absurd rfl h
  ·rfl
def valueRows (rs : List (List UInt8)) : List (List UInt8) := (rs.drop 1).take (rs.length - 3)
theorem parse_words {s : List UInt8} (h3 : ¬ (Col.split 10 s).length < 3) {x a b c : List UInt8} (h : [x, a, b, c] = Col.split 32 ((Col.split 10 s).getD 0 [])) :
  Col.parse s = match Col.given a, Col.signed b, Col.signed c, (valueRows (Col.split 10 s)).mapM Col.rowValue with
   | some o, some lo, some hi, some l => if Col.text l o lo hi = s then some (l, o, lo, hi) else none
   | _, _, _, _ => none := by
 have hhd : (Col.split 10 s).headD [] = (Col.split 10 s).getD 0 [] := by cases Col.split 10 s <;> rfl
 unfold Col.parse
 dsimp only
 rw [if_neg h3, hhd, ← h]
 rfl
theorem valueRows_length {rs : List (List UInt8)} (h : ¬ rs.length < 3) : (valueRows rs).length = rs.length - 3 := by
 unfold valueRows
 rw [List.length_take, List.length_drop]
 omega
theorem valueRows_at {rs : List (List UInt8)} {j : Nat} (h : j < (valueRows rs).length) (h3 : ¬ rs.length < 3) : (valueRows rs)[j] = rs.getD (1 + j) [] := by
 have hl := valueRows_length h3
 have h1 : 1 + j < rs.length := by omega
 have e : (valueRows rs)[j]? = rs[1 + j]? := by
  unfold valueRows
  rw [List.getElem?_take, if_pos (by omega), List.getElem?_drop]
 rw [List.getElem?_eq_getElem h, List.getElem?_eq_getElem h1] at e
 rw [List.getD_eq_getElem?_getD, List.getElem?_eq_getElem h1]
 exact Option.some.inj e
theorem mapM_none {α β : Type} {f : α → Option β} : ∀ {l : List α} {x : α}, x ∈ l → f x = none → l.mapM f = none
 | y :: l, x, hx, hf => by
  rw [List.mapM_cons]
  rcases List.mem_cons.1 hx with rfl | hx
  ·rw [hf]; rfl
  ·rw [mapM_none hx hf]
   cases f y <;> rfl
theorem mapM_snoc {α β : Type} {f : α → Option β} {l : List α} {x : α} {L : List β} {y : β} (h : l.mapM f = some L) (hx : f x = some y) : (l ++ [x]).mapM f = some (L ++ [y]) := by
 rw [List.mapM_append, h]
 simp [hx]
theorem mapM_length {α β : Type} {f : α → Option β} : ∀ {l : List α} {L : List β}, l.mapM f = some L → L.length = l.length
 | [], L, h => by cases h; rfl
 | x :: l, L, h => by
  rw [List.mapM_cons] at h
  cases hf : f x with
  | none => rw [hf] at h; cases h
  | some y =>
   rw [hf] at h
   cases hl : l.mapM f with
   | none => rw [hl] at h; cases h
   | some M =>
    rw [hl] at h
    cases h
    simp [mapM_length hl]
theorem rowValue_two {r x w : List UInt8} (h : Col.split 32 r = [x, w]) : Col.rowValue r = Col.signed w := by
 unfold Col.rowValue
 rw [h]
theorem rowValue_not {r : List UInt8} (h : (Col.split 32 r).length ≠ 2) : Col.rowValue r = none := by
 unfold Col.rowValue
 split
 ·rename_i e
  rw [e] at h
  exact absurd rfl h
 ·rfl
theorem ne_sheet : ∀ q, q ∈ 3 :: (Kd.int .i64).E → q ≠ 26 := by
 intro q hq
 rcases List.mem_cons.1 hq with rfl | h
 ·decide
 ·cases h
theorem mapM_mem {α β : Type} {f : α → Option β} : ∀ {l : List α} {L : List β}, l.mapM f = some L → ∀ y ∈ L, ∃ x, f x = some y
 | [], L, h => by cases h; intro y hy; cases hy
 | x :: l, L, h => by
  rw [List.mapM_cons] at h
  cases hf : f x with
  | none => rw [hf] at h; cases h
  | some y =>
   rw [hf] at h
   cases hl : l.mapM f with
   | none => rw [hl] at h; cases h
   | some M =>
    rw [hl] at h
    cases h
    intro z hz
    rcases List.mem_cons.1 hz with rfl | hz
    ·exact ⟨x, hf⟩
    ·exact mapM_mem hl z hz
theorem rowValue_le {r : List UInt8} {n : Int} (h : Col.rowValue r = some n) : -100000 < n ∧ n < 100000 := by
 unfold Col.rowValue at h
 split at h
 ·exact signed_le h
 ·cases h
theorem short_of {L : List Int} {a b c : Int} (hl : L.length ≤ 200) (ha : 0 ≤ a ∧ a < 100000) (hb : -100000 < b ∧ b < 100000) (hc : -100000 < c ∧ c < 100000) (hL : ∀ x ∈ L, -100000 < x ∧ x < 100000) : Col.short L a b c = true := by
 unfold Col.short Col.inr
 simp only [Bool.and_eq_true, decide_eq_true_eq, List.all_eq_true]
 refine ⟨⟨⟨⟨hl, by omega⟩, by omega⟩, by omega⟩, fun x hx => ?_⟩
 have := hL x hx
 omega
theorem info_i64p : (Tryz.prog.info? 3).map (fun i => (i.zero, i.size, i.bytes)) = some (some (.int .i64 0), 1, 8) := by kernel_rfl
theorem or_gives {o : Option Int} {e : Ending} {w w' : World} (h : Gives (o.map (.int .i64)) e ∧ Below w.heap.size w w') :
  ((∃ n, o = some n ∧ e = .returned (.int .i64 n)) ∨ (o = none ∧ ∃ s : ByteArray, e = .panicked [{ v := .iface 131 (.agg #[.string s]), recovered := false }])) ∧ Below w.heap.size w w' := by
 refine ⟨?_, h.2⟩
 cases o with
 | none => exact Or.inr ⟨rfl, h.1⟩
 | some n => exact Or.inl ⟨n, rfl, h.1⟩
theorem given_or (s : List UInt8) (w : World) (hG : Tryz.Glob w) :
  Calls Tryz.prog 107 #[.string (bys s)] w fun e w' => ((∃ n, Col.given s = some n ∧ e = .returned (.int .i64 n)) ∨ (Col.given s = none ∧ ∃ s : ByteArray, e = .panicked [{ v := .iface 131 (.agg #[.string s]), recovered := false }])) ∧ Below w.heap.size w w' :=
 (given_calls s w hG).mono fun e w' h => or_gives h
theorem signed_or (s : List UInt8) (w : World) (hG : Tryz.Glob w) :
  Calls Tryz.prog 108 #[.string (bys s)] w fun e w' => ((∃ n, Col.signed s = some n ∧ e = .returned (.int .i64 n)) ∨ (Col.signed s = none ∧ ∃ s : ByteArray, e = .panicked [{ v := .iface 131 (.agg #[.string s]), recovered := false }])) ∧ Below w.heap.size w w' :=
 (signed_calls s w hG).mono fun e w' h => or_gives h
set_option maxHeartbeats 1000000 in
set_option maxRecDepth 100000 in
theorem parsed_calls (s : List UInt8) (hs : s.length ≤ 190) (w : World) (hG : Tryz.Glob w) :
  Calls Tryz.prog 76 #[.string (bys s)] w fun e w' => Sheet w.heap.size (Col.parse s) e w' ∧ Below w.heap.size w w' := by
 have HG := Lib.hid (fun W (hW : Below w.heap.size w W) => hG.below hW)
 clear hG
 have hslen := Col.split_len 10 s
 have HS1 := Lib.hid (fun W hW => split_c 10 s (by omega) W (HG.out W hW))
 have HSH := Lib.hid (@parse_short s)
 have HFO := Lib.hid (@parse_four s)
 have HPW := Lib.hid (@parse_words s)
 have HRL := Lib.hid (hslen.2)
 have hrl := hslen.1
 generalize hRe : Col.split 10 s = rs at *
 have HRe := Lib.hid hRe
 clear hRe hslen
 by_cases h3 : rs.length < 3
 ·have HN := Lib.hid (HSH.out h3)
  have hd : decide ((rs.length : Int) ≥ 3) = false := decide_eq_false (by omega)
  clear HSH HFO HPW
  go_enter Tryz.func76, Tryz.ntmps76
  go_wp2_with fail
  refine (HS1.out _ ((Below.refl w.heap.size w).alloc (Nat.le_refl _) _)).mono ?_
  rintro e w1 ⟨A1, rfl, hC1, hb1⟩
  have HB1 := Aside0.mk (box_of hb1)
  clear hC1 hb1
  go_wp2_with fail
  refine (need_no _ _).mono ?_
  rintro e W1 ⟨rfl, rfl⟩
  go_wp2
  exact ⟨rfl, by rw [HN.out]; exact ⟨_, rfl⟩, below_box HB1.out⟩
 have hd : decide ((rs.length : Int) ≥ 3) = true := decide_eq_true (by omega)
 have hr0 : (rs.getD 0 []).length ≤ 190 := by
  rw [List.getD_eq_getElem?_getD, List.getElem?_eq_getElem (by omega)]
  exact Nat.le_trans (HRL.out _ (List.getElem_mem (by omega))) hs
 have HS2 := Lib.hid (fun W hW => split_c 32 (rs.getD 0 []) (by omega) W (HG.out W hW))
 have hws := Col.split_len 32 (rs.getD 0 [])
 have hhd : rs.headD [] = rs.getD 0 [] := by cases rs <;> rfl
 rw [hhd] at HFO
 have HPW := Lib.hid (fun (x a b c : List UInt8) h => HPW.out h3 (x := x) (a := a) (b := b) (c := c) h)
 have HR0 : ∃ ws, Hid (ws = Col.split 32 (rs.getD 0 [])) := ⟨_, Lib.hid rfl⟩
 obtain ⟨ws, HW0⟩ := HR0
 rw [← HW0.out] at HS2 HFO hws
 have hwl := hws.1
 clear hws hhd HSH
 go_enter Tryz.func76, Tryz.ntmps76
 go_wp2_with fail
 refine (HS1.out _ ((Below.refl w.heap.size w).alloc (Nat.le_refl _) _)).mono ?_
 rintro e w1 ⟨A1, rfl, hC1, hb1⟩
 have HB1 := Aside0.mk (box_of hb1)
 have HC1 := Aside0.mk hC1
 clear hC1 hb1
 go_wp2_with fail
 refine (need_ok _ _).mono ?_
 rintro e W1 ⟨rfl, rfl⟩
 have hc0 := str_at HC1.out 0 (by omega)
 go_wp2_with fail
 refine (HS2.out _ (below_box HB1.out)).mono ?_
 rintro e w2 ⟨A2, rfl, hC2, hb2⟩
 have HB2 := Aside0.mk (below_step0 HB1.out hb2 (by simpa using HB1.out.size))
 have HC2 := Aside0.mk hC2
 have HC1' := Aside0.mk (Kd.C_below HC1.out hb2)
 clear hC2 hb2 hc0 HC1 HB1 HS1 HS2
 go_wp2_with fail
 refine (need_calls _ _ _).mono ?_
 rintro e W1 ⟨rfl, (⟨h4, rfl⟩ | ⟨h4, rfl⟩)⟩
 rotate_left
 ·have hne : ws.length ≠ 4 := by
   intro h
   rw [h] at h4
   exact absurd h4 (by decide)
  have HN := Lib.hid (HFO.out hne)
  clear h4
  go_wp2
  exact ⟨rfl, by rw [HN.out]; exact ⟨_, rfl⟩, below_box HB2.out⟩
 have h4 : ws.length = 4 := by
  have := h4
  simp at this
  omega
 obtain ⟨x0, a, b, c, rfl⟩ : ∃ x0 a b c, ws = [x0, a, b, c] := by
  match ws, h4 with
  | [x0, a, b, c], _ => exact ⟨x0, a, b, c, rfl⟩
 have HPE := Lib.hid (HPW.out _ _ _ _ HW0.out)
 clear HFO HPW HW0 h4 hwl
 have HGA := Lib.hid (fun W hW => given_or a W (HG.out W hW))
 have HGB := Lib.hid (fun W hW => signed_or b W (HG.out W hW))
 have HGC := Lib.hid (fun W hW => signed_or c W (HG.out W hW))
 have hc1 : w2.cell? ⟨A2, 1, none⟩ = some (.string (bys a)) := str_at HC2.out 1 (by simp)
 have hc2 : w2.cell? ⟨A2, 2, none⟩ = some (.string (bys b)) := str_at HC2.out 2 (by simp)
 have hc3 : w2.cell? ⟨A2, 3, none⟩ = some (.string (bys c)) := str_at HC2.out 3 (by simp)
 have hKS := Lib.hid (fun W (hW : Below w2.heap.size w2 W) => (⟨(hW.cell (World.block_lt_of_cell? _ _ hc1)).trans hc1, (hW.cell (World.block_lt_of_cell? _ _ hc2)).trans hc2, (hW.cell (World.block_lt_of_cell? _ _ hc3)).trans hc3⟩ : W.cell? ⟨A2, 1, none⟩ = some (.string (bys a)) ∧ W.cell? ⟨A2, 2, none⟩ = some (.string (bys b)) ∧ W.cell? ⟨A2, 3, none⟩ = some (.string (bys c))))
 have hP0 : Below w2.heap.size w2 w2.drew := (Below.refl _ _).drew
 have HBB := Lib.hid (fun W (hW : Below w2.heap.size w2 W) => below_step0 HB2.out hW (by simpa using HB2.out.size))
 go_wp2
 refine wp_region_held_drew (S := fun W => W.cell? ⟨A2, 1, none⟩ = some (.string (bys a)) ∧ W.cell? ⟨A2, 2, none⟩ = some (.string (bys b)) ∧ W.cell? ⟨A2, 3, none⟩ = some (.string (bys c))) (by kernel_rfl) (hKS.out _ hP0) (fun hHeld => ?_)
 (refine wpAnyH_take (i := 0) (v := ?tv1) rfl (by kernel_rfl) (by kernel_rfl) (by kernel_rfl) (fun _ _ _ h => h) (Or.inl ⟨by rfl, ?thy1⟩) (by assumption) ?trest1; (case thy1 => ((intro w hSw; (try dsimp only at hSw); go_simp); try (with_reducible rfl))); (try simp only [Act.put, List.setIfInBounds_toArray, List.set_cons_zero, List.set_cons_succ]))
 (refine wpAnyH_take (i := 1) (v := ?tv2) rfl (by kernel_rfl) (by kernel_rfl) (by kernel_rfl) (fun _ _ _ h => h) (Or.inl ⟨by rfl, ?thy2⟩) (by assumption) ?trest2; (case thy2 => ((intro w hSw; (try dsimp only at hSw); go_simp); try (with_reducible rfl))); (try simp only [Act.put, List.setIfInBounds_toArray, List.set_cons_zero, List.set_cons_succ]))
 (refine wpAnyH_take (i := 2) (v := ?tv3) rfl (by kernel_rfl) (by kernel_rfl) (by kernel_rfl) (fun _ _ _ h => h) (Or.inl ⟨by rfl, ?thy3⟩) (by assumption) ?trest3; (case thy3 => ((intro w hSw; (try dsimp only at hSw); go_simp); try (with_reducible rfl))); (try simp only [Act.put, List.setIfInBounds_toArray, List.set_cons_zero, List.set_cons_succ]))
 (refine wpAnyH_take (i := 4) (v := ?tv4) rfl (by kernel_rfl) (by kernel_rfl) (by kernel_rfl) (fun _ _ _ h => h) (Or.inl ⟨by rfl, ?thy4⟩) (by assumption) ?trest4; (case thy4 => ((intro w hSw; (try dsimp only at hSw); go_simp); try (with_reducible rfl))); (try simp only [Act.put, List.setIfInBounds_toArray, List.set_cons_zero, List.set_cons_succ]))
 (refine wpAnyH_take (i := 5) (v := ?tv5) rfl (by kernel_rfl) (by kernel_rfl) (by kernel_rfl) (fun _ _ _ h => h) (Or.inl ⟨by rfl, ?thy5⟩) (by assumption) ?trest5; (case thy5 => ((intro w hSw; (try dsimp only at hSw); go_simp); try (with_reducible rfl))); (try simp only [Act.put, List.setIfInBounds_toArray, List.set_cons_zero, List.set_cons_succ]))
 (refine wpAnyH_take (i := 6) (v := ?tv6) rfl (by kernel_rfl) (by kernel_rfl) (by kernel_rfl) (fun _ _ _ h => h) (Or.inl ⟨by rfl, ?thy6⟩) (by assumption) ?trest6; (case thy6 => ((intro w hSw; (try dsimp only at hSw); go_simp); try (with_reducible rfl))); (try simp only [Act.put, List.setIfInBounds_toArray, List.set_cons_zero, List.set_cons_succ]))
 (refine wpAnyH_take (i := 8) (v := ?tv7) rfl (by kernel_rfl) (by kernel_rfl) (by kernel_rfl) (fun _ _ _ h => h) (Or.inl ⟨by rfl, ?thy7⟩) (by assumption) ?trest7; (case thy7 => ((intro w hSw; (try dsimp only at hSw); go_simp); try (with_reducible rfl))); (try simp only [Act.put, List.setIfInBounds_toArray, List.set_cons_zero, List.set_cons_succ]))
 (refine wpAnyH_take (i := 9) (v := ?tv8) rfl (by kernel_rfl) (by kernel_rfl) (by kernel_rfl) (fun _ _ _ h => h) (Or.inl ⟨by rfl, ?thy8⟩) (by assumption) ?trest8; (case thy8 => ((intro w hSw; (try dsimp only at hSw); go_simp); try (with_reducible rfl))); (try simp only [Act.put, List.setIfInBounds_toArray, List.set_cons_zero, List.set_cons_succ]))
 (refine wpAnyH_take (i := 10) (v := ?tv9) rfl (by kernel_rfl) (by kernel_rfl) (by kernel_rfl) (fun _ _ _ h => h) (Or.inl ⟨by rfl, ?thy9⟩) (by assumption) ?trest9; (case thy9 => ((intro w hSw; (try dsimp only at hSw); go_simp); try (with_reducible rfl))); (try simp only [Act.put, List.setIfInBounds_toArray, List.set_cons_zero, List.set_cons_succ]))
 (refine wpAnyH_ready (rs := [3]) (by kernel_rfl) (by simp) ?_; refine AllReadyH.cons rfl (fun K hK => ?_) AllReadyH.nil; go_simp)
 refine (HGA.out _ (below_box (HBB.out _ hP0))).mono ?_
 rintro e w5 ⟨(⟨n1, ho1, rfl⟩ | ⟨ho1, x, rfl⟩), hbz⟩
 rotate_left
 ·exact ⟨rfl, by rw [HPE.out, ho1]; exact ⟨_, rfl⟩, below_box (HBB.out _ (below_step hP0 hbz))⟩
 have hP1 := below_step hP0 hbz
 refine hK.out _ _ (hKS.out _ hP1) (fun hHeld2 => ?_)
 clear hK K hHeld hP0 hbz
 ((try simp only [Act.put, List.setIfInBounds_toArray, List.set_cons_zero, List.set_cons_succ]))
 (refine wpAnyH_ready (rs := [7]) (by kernel_rfl) (by simp) ?_; refine AllReadyH.cons rfl (fun K hK => ?_) AllReadyH.nil; go_simp)
 refine (HGB.out _ (below_box (HBB.out _ hP1))).mono ?_
 rintro e w6 ⟨(⟨n2, ho2, rfl⟩ | ⟨ho2, x, rfl⟩), hbz⟩
 rotate_left
 ·exact ⟨rfl, by rw [HPE.out, ho1, ho2]; exact ⟨_, rfl⟩, below_box (HBB.out _ (below_step hP1 hbz))⟩
 have hP2 := below_step hP1 hbz
 refine hK.out _ _ (hKS.out _ hP2) (fun hHeld => ?_)
 clear hK K hHeld2 hP1 hbz
 ((try simp only [Act.put, List.setIfInBounds_toArray, List.set_cons_zero, List.set_cons_succ]))
 (refine wpAnyH_ready (rs := [11]) (by kernel_rfl) (by simp) ?_; refine AllReadyH.cons rfl (fun K hK => ?_) AllReadyH.nil; go_simp)
 refine (HGC.out _ (below_box (HBB.out _ hP2))).mono ?_
 rintro e w7 ⟨(⟨n3, ho3, rfl⟩ | ⟨ho3, x, rfl⟩), hbz⟩
 rotate_left
 ·exact ⟨rfl, by rw [HPE.out, ho1, ho2, ho3]; exact ⟨_, rfl⟩, below_box (HBB.out _ (below_step hP2 hbz))⟩
 have hP3 := below_step hP2 hbz
 refine hK.out _ _ (hKS.out _ hP3) (fun hHeld2 => ?_)
 clear hK K hHeld hP2 hbz
 ((try simp only [Act.put, List.setIfInBounds_toArray, List.set_cons_zero, List.set_cons_succ]))
 (refine wpAnyH_take (i := 12) (v := ?tv10) rfl (by kernel_rfl) (by kernel_rfl) (by kernel_rfl) (fun _ _ _ h => h) (Or.inl ⟨by rfl, ?thy10⟩) (by assumption) ?trest10; (case thy10 => ((intro w hSw; (try dsimp only at hSw); go_simp); try (with_reducible rfl))); (try simp only [Act.put, List.setIfInBounds_toArray, List.set_cons_zero, List.set_cons_succ]))
 (refine wpAnyH_take (i := 13) (v := ?tv11) rfl (by kernel_rfl) (by kernel_rfl) (by kernel_rfl) (fun _ _ _ h => h) (Or.inl ⟨by rfl, ?thy11⟩) (by assumption) ?trest11; (case thy11 => ((intro w hSw; (try dsimp only at hSw); go_simp); try (with_reducible rfl))); (try simp only [Act.put, List.setIfInBounds_toArray, List.set_cons_zero, List.set_cons_succ]))
 (refine wpAnyH_take (i := 14) (v := ?tv12) rfl (by kernel_rfl) (by kernel_rfl) (by kernel_rfl) (fun _ _ _ h => h) (Or.inl ⟨by rfl, ?thy12⟩) (by assumption) ?trest12; (case thy12 => ((intro w hSw; (try dsimp only at hSw); go_simp); try (with_reducible rfl))); (try simp only [Act.put, List.setIfInBounds_toArray, List.set_cons_zero, List.set_cons_succ]))
 refine wpAnyH_done (by kernel_rfl) ?_ _
 have HPF := Lib.hid (show Col.parse s = match (valueRows rs).mapM Col.rowValue with
  | some l => if Col.text l n1 n2 n3 = s then some (l, n1, n2, n3) else none
  | none => none by
   rw [HPE.out, ho1, ho2, ho3]
   cases (valueRows rs).mapM Col.rowValue <;> rfl)
 have hn1 := given_le ho1
 have hn2 := signed_le ho2
 have hn3 := signed_le ho3
 have HB7 := Aside0.mk (HBB.out _ hP3)
 have HC7 := Aside0.mk (Kd.C_below HC1'.out hP3)
 clear HPE ho1 ho2 ho3 hHeld2 hKS HGA HGB HGC HBB hP3 hc1 hc2 hc3 HC2 HC1'
 have HLN := Lib.hid (valueRows_length h3)
 have hrl0 : ((rs.length : Int) - 2) - 1 = ((rs.length - 3 : Nat) : Int) := by omega
 go_wp2
 have HX0 : Aside0 ((w7.alloc (.cells #[.slice none 0 0, .int .i64 n1, .int .i64 n2, .int .i64 n3] 26)).heap[w7.heap.size]? = some (.cells #[.slice none 0 0, .int .i64 n1, .int .i64 n2, .int .i64 n3] 26 (0, 0))) := ⟨blk_new _ _⟩
 have HV0 : Aside0 (Kd.R (Kd.int .i64) 3 (w7.alloc (.cells #[.slice none 0 0, .int .i64 n1, .int .i64 n2, .int .i64 n3] 26)) (w7.heap.size + 1) (fun _ => True) (.slice none 0 0) []) := ⟨Kd.R_nil _ _ _ _ _⟩
 have HY0 : Aside0 (Below w7.heap.size w7 (w7.alloc (.cells #[.slice none 0 0, .int .i64 n1, .int .i64 n2, .int .i64 n3] 26))) := ⟨(Below.refl _ _).alloc (Nat.le_refl _) _⟩
 generalize (w7.alloc (.cells #[.slice none 0 0, .int .i64 n1, .int .i64 n2, .int .i64 n3] 26)) = W8 at *
 go_loopw [51] (fun i wr => ∃ (j : Nat) (L : List Int) (v : Value), j ≤ rs.length - 3 ∧ i = .int .i64 (j : Int) ∧ Hid (((valueRows rs).take j).mapM Col.rowValue = some L) ∧ Aside0 (wr.heap[w7.heap.size]? = some (.cells #[v, .int .i64 n1, .int .i64 n2, .int .i64 n3] 26 (0, 0))) ∧ Aside0 (Kd.R (Kd.int .i64) 3 wr (w7.heap.size + 1) (fun _ => True) v L) ∧ Aside0 (Below w7.heap.size w7 wr)) (fun i _ => rs.length - 3 - (intOf i).toNat)
 case atStart => exact ⟨0, [], _, by omega, rfl, Lib.hid (by rfl), HX0, HV0, HY0⟩
 case round =>
  clear HX0 HV0 HY0
  obtain ⟨j, L, v, hj, rfl, HM, HX, HV, HY⟩ := hrel
  by_cases hlt : j < rs.length - 3
  ·have hrj : (rs.getD (1 + j) []).length ≤ 190 := by
    rw [List.getD_eq_getElem?_getD, List.getElem?_eq_getElem (by omega)]
    exact Nat.le_trans (HRL.out _ (List.getElem_mem (by omega))) hs
   have hcj := str_at (Kd.C_below HC7.out HY.out) (1 + j) (by omega)
   have HSJ := Lib.hid (fun W hW => split_c 32 (rs.getD (1 + j) []) (by omega) W (HG.out W hW))
   have hx := valueRows_at (rs := rs) (j := j) (by rw [HLN.out]; exact hlt) h3
   have HT1 : Hid ((valueRows rs).take (j + 1) = (valueRows rs).take j ++ [rs.getD (1 + j) []]) := Lib.hid (by
    rw [List.take_succ_eq_append_getElem (by rw [HLN.out]; exact hlt), hx])
   have HNone : Hid (Col.rowValue (rs.getD (1 + j) []) = none → Col.parse s = none) := Lib.hid (by
    intro h
    rw [HPF.out, mapM_none (x := rs.getD (1 + j) []) (by rw [← hx]; exact List.getElem_mem _) h])
   have HNot := Lib.hid (@rowValue_not (rs.getD (1 + j) []))
   have HTwo := Lib.hid (fun (x u : List UInt8) h => rowValue_two (r := rs.getD (1 + j) []) (x := x) (w := u) h)
   clear hx
   generalize rs.getD (1 + j) [] = r at *
   generalize Col.split 32 r = xs at *
   have HB8 := Aside0.mk ((HB7.out).trans (HY.out.mono (by simpa using HB7.out.size)))
   go_wp2_with fail
   refine (HSJ.out _ (below_box HB8.out)).mono ?_
   rintro e w9 ⟨A9, rfl, hC9, hb9⟩
   have hz := (Kd.R_own HV.out)
   have HX9 := Aside0.mk (blk_below HX.out hb9)
   have HV9 := Aside0.mk (Kd.R_below HV.out hb9)
   have HY9 := Aside0.mk (below_step HY.out hb9)
   have HB9 := Aside0.mk ((HB7.out).trans (HY9.out.mono (by simpa using HB7.out.size)))
   have HC9 := Aside0.mk hC9
   clear HX HV HY HB8 hC9 hb9 HSJ hcj hz
   go_wp2_with fail
   refine (need_calls _ _ _).mono ?_
   rintro e W1 ⟨rfl, (⟨h4, rfl⟩ | ⟨h4, rfl⟩)⟩
   rotate_left
   ·have hne : xs.length ≠ 2 := by
     intro h
     rw [h] at h4
     exact absurd h4 (by decide)
    have HN := Lib.hid (HNone.out (HNot.out hne))
    clear h4
    go_wp2
    exact ⟨rfl, by rw [HN.out]; exact ⟨_, rfl⟩, below_box HB9.out⟩
   have h4 : xs.length = 2 := by
    have := h4
    simp at this
    omega
   obtain ⟨x0, u, rfl⟩ : ∃ x0 u, xs = [x0, u] := by
    match xs, h4 with
    | [x0, u], _ => exact ⟨x0, u, rfl⟩
   have HRV := Lib.hid (HTwo.out x0 u rfl)
   clear HTwo HNot h4
   have hc1 : w9.cell? ⟨A9, 1, none⟩ = some (.string (bys u)) := str_at HC9.out 1 (by simp)
   have hKS := Lib.hid (fun W (hW : Below w9.heap.size w9 W) => (hW.cell (World.block_lt_of_cell? _ _ hc1)).trans hc1)
   have hP0 : Below w9.heap.size w9 w9.drew := (Below.refl _ _).drew
   have HBB := Lib.hid (fun W (hW : Below w9.heap.size w9 W) => below_box (below_step0 HB9.out hW (by simpa using HB9.out.size)))
   have HGU := Lib.hid (fun W hW => signed_or u W (HG.out W hW))
   clear hc1
   go_wp2
   have hP := hP0
   have hgs : w7.heap.size + 1 ≤ w9.heap.size := (Array.getElem?_eq_some_iff.1 HX9.out).1
   clear hP0
   have HT : ∀ (n : Int) (W : World), Col.signed u = some n → Below w9.heap.size w9 W → True := fun _ _ _ _ => trivial
   have hLl : L.length ≤ 200 := by
    have := mapM_length HM.out
    rw [List.length_take] at this
    omega
   refine wp_region_held_drew (S := fun _ => True) (by kernel_rfl) trivial (fun hHeld => ?_)
   (refine wpAnyH_take (i := 0) (v := ?tv13) rfl (by kernel_rfl) (by kernel_rfl) (by kernel_rfl) (fun _ _ _ h => h) (Or.inl ⟨by rfl, ?thy13⟩) (by assumption) ?trest13; (case thy13 => ((intro w hSw; (try dsimp only at hSw); go_simp); try (with_reducible rfl))); (try simp only [Act.put, List.setIfInBounds_toArray, List.set_cons_zero, List.set_cons_succ]))
   (refine wpAnyH_take (i := 2) (v := ?tv14) rfl (by kernel_rfl) (by kernel_rfl) (by kernel_rfl) (fun _ _ _ h => h) (Or.inl ⟨by rfl, ?thy14⟩) (by assumption) ?trest14; (case thy14 => ((intro w hSw; (try dsimp only at hSw); go_simp); try (with_reducible rfl))); (try simp only [Act.put, List.setIfInBounds_toArray, List.set_cons_zero, List.set_cons_succ]))
   (refine wpAnyH_take (i := 3) (v := ?tv15) rfl (by kernel_rfl) (by kernel_rfl) (by kernel_rfl) (fun _ _ _ h => h) (Or.inl ⟨by rfl, ?thy15⟩) (by assumption) ?trest15; (case thy15 => ((intro w hSw; (try dsimp only at hSw); go_simp); try (with_reducible rfl))); (try simp only [Act.put, List.setIfInBounds_toArray, List.set_cons_zero, List.set_cons_succ]))
   (refine wpAnyH_ready (rs := [1, 4]) (by kernel_rfl) (by simp) ?_; refine AllReadyH.cons rfl (fun K hK => ?_) (AllReadyH.cons rfl (fun K hK => ?_) AllReadyH.nil))
   ·(have hx0 := (blk_cell (blk_below HX9.out hP) 0).trans rfl; have hxa := hKS.out _ hP; go_simp; refine hK.out _ _ trivial (fun hHeld => ?_); clear hK K hx0 hxa; ((try simp only [Act.put, List.setIfInBounds_toArray, List.set_cons_zero, List.set_cons_succ])))
    (refine wpAnyH_ready (rs := [4]) (by kernel_rfl) (by simp) ?_; refine AllReadyH.cons rfl (fun K hK => ?_) AllReadyH.nil)
    (have hx0 := (blk_cell (blk_below HX9.out hP) 0).trans rfl; have hxa := hKS.out _ hP; go_simp; refine hK.out _ _ trivial (fun hHeld => ?_); clear hK K hx0 hxa; ((try simp only [Act.put, List.setIfInBounds_toArray, List.set_cons_zero, List.set_cons_succ])))
    (refine wpAnyH_ready (rs := [5]) (by kernel_rfl) (by simp) ?_; refine AllReadyH.cons rfl (fun K hK => ?_) AllReadyH.nil)
    (go_simp; refine (HGU.out _ (HBB.out _ hP)).mono ?_; rintro e w10 ⟨(⟨n, ho, rfl⟩ | ⟨ho, x, rfl⟩), hbz⟩; rotate_left; exact ⟨rfl, by rw [HNone.out (HRV.out.trans ho)]; exact ⟨_, rfl⟩, HBB.out _ (below_step hP hbz)⟩; have hP2 := below_step hP hbz; clear hP hbz; have hP := hP2; clear hP2; refine hK.out _ _ trivial (fun hHeld => ?_); clear hK K; ((try simp only [Act.put, List.setIfInBounds_toArray, List.set_cons_zero, List.set_cons_succ])))
    (refine wpAnyH_ready (rs := [6]) (by kernel_rfl) (by simp) ?_; refine AllReadyH.cons rfl (fun K hK => ?_) AllReadyH.nil)
    (go_simp; refine hK.out _ _ trivial (fun hHeld => ?_); clear hK K; ((try simp only [Act.put, List.setIfInBounds_toArray, List.set_cons_zero, List.set_cons_succ])))
    ((refine wpAnyH_ready (rs := [7]) (by kernel_rfl) (by simp) ?_; refine AllReadyH.cons rfl (fun K hK => ?_) AllReadyH.nil); refine row_step (Kd.int .i64) (w0 := w9) (w7.heap.size + 1) (by rfl) _ _ 22 3 (.int .i64 0) 8 (by rfl) Tryz.underlying22 info_i64p rfl (by decide) (by decide) v L n [.int .i64 n] (fun _ => True) (fun _ => False) (by rfl) (by rfl) (by rfl) (fun _ h => h.elim) (fun _ _ => trivial) (Kd.R_below HV9.out hP) (hP.mono hgs) (Nat.le_trans hgs hP.size) (by omega) ?_; intro v1 w11 hoR hb hg hat; obtain ⟨AV, cV, hv1⟩ := Kd.R_slice hoR; (have hln : (L ++ [n]).length = L.length + 1 := by simp); rw [hln] at hv1; subst hv1; clear hln; have hX11 := (hb.block w7.heap.size (by omega)).trans HX9.out; refine hK.out _ _ trivial (fun hHeld => ?_); clear hK K hg hat; ((try simp only [Act.put, List.setIfInBounds_toArray, List.set_cons_zero, List.set_cons_succ])); (refine wpAnyH_ready (rs := [8]) (by kernel_rfl) (by simp) ?_; refine AllReadyH.cons rfl (fun K hK => ?_) AllReadyH.nil); go_simp; refine hK.out _ _ trivial (fun hHeld => ?_); clear hK K; ((try simp only [Act.put, List.setIfInBounds_toArray, List.set_cons_zero, List.set_cons_succ])); have hcx := (blk_cell hX11 0).trans rfl; have hfx := blk_frozen hX11 0; (refine wpAnyH_ready (rs := [9]) (by kernel_rfl) (by simp) ?_; refine AllReadyH.cons rfl (fun K hK => ?_) AllReadyH.nil); go_simp; refine hK.out _ _ trivial (fun hHeld => ?_); clear hK K hcx hfx; ((try simp only [Act.put, List.setIfInBounds_toArray, List.set_cons_zero, List.set_cons_succ])); refine wpAnyH_done (by kernel_rfl) ?_ _; have HX12 : Aside0 (_ = some (Obj.cells #[.slice AV (L.length + 1) cV, .int .i64 n1, .int .i64 n2, .int .i64 n3] 26 (0, 0))) := ⟨blk_put hX11 0 (.slice AV (L.length + 1) cV) rfl⟩; have HV12 := Aside0.mk (Kd.R_set hoR hX11 ne_sheet 0 (.slice AV (L.length + 1) cV)); have HY12 := Aside0.mk ((HY9.out.trans ((hb.mono (Nat.le_succ _)))).setCell (p := ⟨w7.heap.size, 0, none⟩) (Nat.le_refl _) (.slice AV (L.length + 1) cV)); have HM12 := Lib.hid (show ((valueRows rs).take (j + 1)).mapM Col.rowValue = some (L ++ [n]) by rw [HT1.out]; exact mapM_snoc HM.out (HRV.out.trans ho)); clear hX11 hoR hb ho hP; go_wp2; go_roundw; (case rel => exact ⟨j + 1, L ++ [n], _, by omega, by go_num, HM12, HX12, HV12, HY12⟩); (case measure => simp [intOf]; omega))
   ·(have hx0 := (blk_cell (blk_below HX9.out hP) 0).trans rfl; have hxa := hKS.out _ hP; go_simp; refine hK.out _ _ trivial (fun hHeld => ?_); clear hK K hx0 hxa; ((try simp only [Act.put, List.setIfInBounds_toArray, List.set_cons_zero, List.set_cons_succ])))
    (refine wpAnyH_ready (rs := [1, 5]) (by kernel_rfl) (by simp) ?_; refine AllReadyH.cons rfl (fun K hK => ?_) (AllReadyH.cons rfl (fun K hK => ?_) AllReadyH.nil))
    ·(have hx0 := (blk_cell (blk_below HX9.out hP) 0).trans rfl; have hxa := hKS.out _ hP; go_simp; refine hK.out _ _ trivial (fun hHeld => ?_); clear hK K hx0 hxa; ((try simp only [Act.put, List.setIfInBounds_toArray, List.set_cons_zero, List.set_cons_succ])))
     (refine wpAnyH_ready (rs := [5]) (by kernel_rfl) (by simp) ?_; refine AllReadyH.cons rfl (fun K hK => ?_) AllReadyH.nil)
     (go_simp; refine (HGU.out _ (HBB.out _ hP)).mono ?_; rintro e w10 ⟨(⟨n, ho, rfl⟩ | ⟨ho, x, rfl⟩), hbz⟩; rotate_left; exact ⟨rfl, by rw [HNone.out (HRV.out.trans ho)]; exact ⟨_, rfl⟩, HBB.out _ (below_step hP hbz)⟩; have hP2 := below_step hP hbz; clear hP hbz; have hP := hP2; clear hP2; refine hK.out _ _ trivial (fun hHeld => ?_); clear hK K; ((try simp only [Act.put, List.setIfInBounds_toArray, List.set_cons_zero, List.set_cons_succ])))
     (refine wpAnyH_ready (rs := [6]) (by kernel_rfl) (by simp) ?_; refine AllReadyH.cons rfl (fun K hK => ?_) AllReadyH.nil)
     (go_simp; refine hK.out _ _ trivial (fun hHeld => ?_); clear hK K; ((try simp only [Act.put, List.setIfInBounds_toArray, List.set_cons_zero, List.set_cons_succ])))
     ((refine wpAnyH_ready (rs := [7]) (by kernel_rfl) (by simp) ?_; refine AllReadyH.cons rfl (fun K hK => ?_) AllReadyH.nil); refine row_step (Kd.int .i64) (w0 := w9) (w7.heap.size + 1) (by rfl) _ _ 22 3 (.int .i64 0) 8 (by rfl) Tryz.underlying22 info_i64p rfl (by decide) (by decide) v L n [.int .i64 n] (fun _ => True) (fun _ => False) (by rfl) (by rfl) (by rfl) (fun _ h => h.elim) (fun _ _ => trivial) (Kd.R_below HV9.out hP) (hP.mono hgs) (Nat.le_trans hgs hP.size) (by omega) ?_; intro v1 w11 hoR hb hg hat; obtain ⟨AV, cV, hv1⟩ := Kd.R_slice hoR; (have hln : (L ++ [n]).length = L.length + 1 := by simp); rw [hln] at hv1; subst hv1; clear hln; have hX11 := (hb.block w7.heap.size (by omega)).trans HX9.out; refine hK.out _ _ trivial (fun hHeld => ?_); clear hK K hg hat; ((try simp only [Act.put, List.setIfInBounds_toArray, List.set_cons_zero, List.set_cons_succ])); (refine wpAnyH_ready (rs := [8]) (by kernel_rfl) (by simp) ?_; refine AllReadyH.cons rfl (fun K hK => ?_) AllReadyH.nil); go_simp; refine hK.out _ _ trivial (fun hHeld => ?_); clear hK K; ((try simp only [Act.put, List.setIfInBounds_toArray, List.set_cons_zero, List.set_cons_succ])); have hcx := (blk_cell hX11 0).trans rfl; have hfx := blk_frozen hX11 0; (refine wpAnyH_ready (rs := [9]) (by kernel_rfl) (by simp) ?_; refine AllReadyH.cons rfl (fun K hK => ?_) AllReadyH.nil); go_simp; refine hK.out _ _ trivial (fun hHeld => ?_); clear hK K hcx hfx; ((try simp only [Act.put, List.setIfInBounds_toArray, List.set_cons_zero, List.set_cons_succ])); refine wpAnyH_done (by kernel_rfl) ?_ _; have HX12 : Aside0 (_ = some (Obj.cells #[.slice AV (L.length + 1) cV, .int .i64 n1, .int .i64 n2, .int .i64 n3] 26 (0, 0))) := ⟨blk_put hX11 0 (.slice AV (L.length + 1) cV) rfl⟩; have HV12 := Aside0.mk (Kd.R_set hoR hX11 ne_sheet 0 (.slice AV (L.length + 1) cV)); have HY12 := Aside0.mk ((HY9.out.trans ((hb.mono (Nat.le_succ _)))).setCell (p := ⟨w7.heap.size, 0, none⟩) (Nat.le_refl _) (.slice AV (L.length + 1) cV)); have HM12 := Lib.hid (show ((valueRows rs).take (j + 1)).mapM Col.rowValue = some (L ++ [n]) by rw [HT1.out]; exact mapM_snoc HM.out (HRV.out.trans ho)); clear hX11 hoR hb ho hP; go_wp2; go_roundw; (case rel => exact ⟨j + 1, L ++ [n], _, by omega, by go_num, HM12, HX12, HV12, HY12⟩); (case measure => simp [intOf]; omega))
    ·(go_simp; refine (HGU.out _ (HBB.out _ hP)).mono ?_; rintro e w10 ⟨(⟨n, ho, rfl⟩ | ⟨ho, x, rfl⟩), hbz⟩; rotate_left; exact ⟨rfl, by rw [HNone.out (HRV.out.trans ho)]; exact ⟨_, rfl⟩, HBB.out _ (below_step hP hbz)⟩; have hP2 := below_step hP hbz; clear hP hbz; have hP := hP2; clear hP2; refine hK.out _ _ trivial (fun hHeld => ?_); clear hK K; ((try simp only [Act.put, List.setIfInBounds_toArray, List.set_cons_zero, List.set_cons_succ])))
     (refine wpAnyH_ready (rs := [1, 6]) (by kernel_rfl) (by simp) ?_; refine AllReadyH.cons rfl (fun K hK => ?_) (AllReadyH.cons rfl (fun K hK => ?_) AllReadyH.nil))
     ·(have hx0 := (blk_cell (blk_below HX9.out hP) 0).trans rfl; have hxa := hKS.out _ hP; go_simp; refine hK.out _ _ trivial (fun hHeld => ?_); clear hK K hx0 hxa; ((try simp only [Act.put, List.setIfInBounds_toArray, List.set_cons_zero, List.set_cons_succ])))
      (refine wpAnyH_ready (rs := [6]) (by kernel_rfl) (by simp) ?_; refine AllReadyH.cons rfl (fun K hK => ?_) AllReadyH.nil)
      (go_simp; refine hK.out _ _ trivial (fun hHeld => ?_); clear hK K; ((try simp only [Act.put, List.setIfInBounds_toArray, List.set_cons_zero, List.set_cons_succ])))
      ((refine wpAnyH_ready (rs := [7]) (by kernel_rfl) (by simp) ?_; refine AllReadyH.cons rfl (fun K hK => ?_) AllReadyH.nil); refine row_step (Kd.int .i64) (w0 := w9) (w7.heap.size + 1) (by rfl) _ _ 22 3 (.int .i64 0) 8 (by rfl) Tryz.underlying22 info_i64p rfl (by decide) (by decide) v L n [.int .i64 n] (fun _ => True) (fun _ => False) (by rfl) (by rfl) (by rfl) (fun _ h => h.elim) (fun _ _ => trivial) (Kd.R_below HV9.out hP) (hP.mono hgs) (Nat.le_trans hgs hP.size) (by omega) ?_; intro v1 w11 hoR hb hg hat; obtain ⟨AV, cV, hv1⟩ := Kd.R_slice hoR; (have hln : (L ++ [n]).length = L.length + 1 := by simp); rw [hln] at hv1; subst hv1; clear hln; have hX11 := (hb.block w7.heap.size (by omega)).trans HX9.out; refine hK.out _ _ trivial (fun hHeld => ?_); clear hK K hg hat; ((try simp only [Act.put, List.setIfInBounds_toArray, List.set_cons_zero, List.set_cons_succ])); (refine wpAnyH_ready (rs := [8]) (by kernel_rfl) (by simp) ?_; refine AllReadyH.cons rfl (fun K hK => ?_) AllReadyH.nil); go_simp; refine hK.out _ _ trivial (fun hHeld => ?_); clear hK K; ((try simp only [Act.put, List.setIfInBounds_toArray, List.set_cons_zero, List.set_cons_succ])); have hcx := (blk_cell hX11 0).trans rfl; have hfx := blk_frozen hX11 0; (refine wpAnyH_ready (rs := [9]) (by kernel_rfl) (by simp) ?_; refine AllReadyH.cons rfl (fun K hK => ?_) AllReadyH.nil); go_simp; refine hK.out _ _ trivial (fun hHeld => ?_); clear hK K hcx hfx; ((try simp only [Act.put, List.setIfInBounds_toArray, List.set_cons_zero, List.set_cons_succ])); refine wpAnyH_done (by kernel_rfl) ?_ _; have HX12 : Aside0 (_ = some (Obj.cells #[.slice AV (L.length + 1) cV, .int .i64 n1, .int .i64 n2, .int .i64 n3] 26 (0, 0))) := ⟨blk_put hX11 0 (.slice AV (L.length + 1) cV) rfl⟩; have HV12 := Aside0.mk (Kd.R_set hoR hX11 ne_sheet 0 (.slice AV (L.length + 1) cV)); have HY12 := Aside0.mk ((HY9.out.trans ((hb.mono (Nat.le_succ _)))).setCell (p := ⟨w7.heap.size, 0, none⟩) (Nat.le_refl _) (.slice AV (L.length + 1) cV)); have HM12 := Lib.hid (show ((valueRows rs).take (j + 1)).mapM Col.rowValue = some (L ++ [n]) by rw [HT1.out]; exact mapM_snoc HM.out (HRV.out.trans ho)); clear hX11 hoR hb ho hP; go_wp2; go_roundw; (case rel => exact ⟨j + 1, L ++ [n], _, by omega, by go_num, HM12, HX12, HV12, HY12⟩); (case measure => simp [intOf]; omega))
     ·(go_simp; refine hK.out _ _ trivial (fun hHeld => ?_); clear hK K; ((try simp only [Act.put, List.setIfInBounds_toArray, List.set_cons_zero, List.set_cons_succ])))
      (refine wpAnyH_ready (rs := [1]) (by kernel_rfl) (by simp) ?_; refine AllReadyH.cons rfl (fun K hK => ?_) AllReadyH.nil)
      (have hx0 := (blk_cell (blk_alloc (blk_below HX9.out hP) (.cells #[.int .i64 n] 3)) 0).trans rfl; go_simp; refine hK.out _ _ trivial (fun hHeld => ?_); clear hK K hx0; ((try simp only [Act.put, List.setIfInBounds_toArray, List.set_cons_zero, List.set_cons_succ])))
      ((refine wpAnyH_ready (rs := [7]) (by kernel_rfl) (by simp) ?_; refine AllReadyH.cons rfl (fun K hK => ?_) AllReadyH.nil); refine row_step (Kd.int .i64) (w0 := w9) (w7.heap.size + 1) (by rfl) _ _ 22 3 (.int .i64 0) 8 (by rfl) Tryz.underlying22 info_i64p rfl (by decide) (by decide) v L n [.int .i64 n] (fun _ => True) (fun _ => False) (by rfl) (by rfl) (by rfl) (fun _ h => h.elim) (fun _ _ => trivial) (Kd.R_below HV9.out hP) (hP.mono hgs) (Nat.le_trans hgs hP.size) (by omega) ?_; intro v1 w11 hoR hb hg hat; obtain ⟨AV, cV, hv1⟩ := Kd.R_slice hoR; (have hln : (L ++ [n]).length = L.length + 1 := by simp); rw [hln] at hv1; subst hv1; clear hln; have hX11 := (hb.block w7.heap.size (by omega)).trans HX9.out; refine hK.out _ _ trivial (fun hHeld => ?_); clear hK K hg hat; ((try simp only [Act.put, List.setIfInBounds_toArray, List.set_cons_zero, List.set_cons_succ])); (refine wpAnyH_ready (rs := [8]) (by kernel_rfl) (by simp) ?_; refine AllReadyH.cons rfl (fun K hK => ?_) AllReadyH.nil); go_simp; refine hK.out _ _ trivial (fun hHeld => ?_); clear hK K; ((try simp only [Act.put, List.setIfInBounds_toArray, List.set_cons_zero, List.set_cons_succ])); have hcx := (blk_cell hX11 0).trans rfl; have hfx := blk_frozen hX11 0; (refine wpAnyH_ready (rs := [9]) (by kernel_rfl) (by simp) ?_; refine AllReadyH.cons rfl (fun K hK => ?_) AllReadyH.nil); go_simp; refine hK.out _ _ trivial (fun hHeld => ?_); clear hK K hcx hfx; ((try simp only [Act.put, List.setIfInBounds_toArray, List.set_cons_zero, List.set_cons_succ])); refine wpAnyH_done (by kernel_rfl) ?_ _; have HX12 : Aside0 (_ = some (Obj.cells #[.slice AV (L.length + 1) cV, .int .i64 n1, .int .i64 n2, .int .i64 n3] 26 (0, 0))) := ⟨blk_put hX11 0 (.slice AV (L.length + 1) cV) rfl⟩; have HV12 := Aside0.mk (Kd.R_set hoR hX11 ne_sheet 0 (.slice AV (L.length + 1) cV)); have HY12 := Aside0.mk ((HY9.out.trans ((hb.mono (Nat.le_succ _)))).setCell (p := ⟨w7.heap.size, 0, none⟩) (Nat.le_refl _) (.slice AV (L.length + 1) cV)); have HM12 := Lib.hid (show ((valueRows rs).take (j + 1)).mapM Col.rowValue = some (L ++ [n]) by rw [HT1.out]; exact mapM_snoc HM.out (HRV.out.trans ho)); clear hX11 hoR hb ho hP; go_wp2; go_roundw; (case rel => exact ⟨j + 1, L ++ [n], _, by omega, by go_num, HM12, HX12, HV12, HY12⟩); (case measure => simp [intOf]; omega))
  ·have e : j = rs.length - 3 := by omega
   subst e
   have hM : (valueRows rs).mapM Col.rowValue = some L := by
    have := HM.out
    rw [← HLN.out, List.take_length] at this
    exact this
   have hLl : L.length ≤ 200 := by
    have := mapM_length hM
    rw [HLN.out] at this
    omega
   have hSh := short_of hLl hn1 hn2 hn3 (fun x hx => by
    obtain ⟨r, hr⟩ := mapM_mem hM x hx
    exact rowValue_le hr)
   rw [hM] at HPF
   have HPF2 : Hid (Col.parse s = if Col.text L n1 n2 n3 = s then some (L, n1, n2, n3) else none) := HPF
   clear HPF
   obtain ⟨AV, cV, rfl, hcV, hCV⟩ := Kd.R_reads HV.out
   have HTX := Lib.hid (P.column_text.calls AV cV L n1 n2 n3 (bys (Col.text L n1 n2 n3)) wr hCV hcV (by
    show Col.ftext L n1 n2 n3 = _
    unfold Col.ftext
    rw [if_pos hSh]
    rfl) (HG.out _ (below_box (HB7.out.trans (HY.out.mono (by simpa using HB7.out.size))))))
   have hs0 := (blk_cell HX.out 0).trans rfl
   have hs1 := (blk_cell HX.out 1).trans rfl
   have hs2 := (blk_cell HX.out 2).trans rfl
   have hs3 := (blk_cell HX.out 3).trans rfl
   have HB8 := Aside0.mk (HB7.out.trans (HY.out.mono (by simpa using HB7.out.size)))
   clear hSh hM HM hCV hn1 hn2 hn3
   go_wp2_with fail
   refine HTX.out.mono ?_
   rintro e w10 ⟨rfl, hb10⟩
   have HX10 := Aside0.mk (blk_below HX.out hb10)
   have HV10 := Aside0.mk (Kd.R_below HV.out hb10)
   have HB10 := Aside0.mk (below_step0 HB8.out hb10 (by simpa using HB8.out.size))
   clear hs0 hs1 hs2 hs3 hb10 HTX HX HV HB8 HY
   have ht1 : (bys s).toList = s := ByteArray.toList_mk s
   have ht2 : (bys (Col.text L n1 n2 n3)).toList = Col.text L n1 n2 n3 := ByteArray.toList_mk _
   by_cases hq : Col.text L n1 n2 n3 = s
   ·have HN : Hid (Col.parse s = some (L, n1, n2, n3)) := Lib.hid (by rw [HPF2.out, if_pos hq])
    have hq2 : (Col.text L n1 n2 n3 == s) = true := beq_iff_eq.2 hq
    clear hq
    go_wp2_with fail
    refine (need_ok _ _).mono ?_
    rintro e W3 ⟨rfl, rfl⟩
    have hs0 := (blk_cell HX10.out 0).trans rfl
    have hs1 := (blk_cell HX10.out 1).trans rfl
    have hs2 := (blk_cell HX10.out 2).trans rfl
    have hs3 := (blk_cell HX10.out 3).trans rfl
    have hg0 := (HB10.out.block w.heap.size (by omega)).trans (blk_new w _)
    have hr0 := (blk_cell hg0 0).trans rfl
    have hr1 := (blk_cell hg0 1).trans rfl
    have hr2 := (blk_cell hg0 2).trans rfl
    have hr3 := (blk_cell hg0 3).trans rfl
    have hf0 := blk_frozen hg0 0
    have hf1 := blk_frozen hg0 1
    have hf2 := blk_frozen hg0 2
    have hf3 := blk_frozen hg0 3
    go_wp2
    have p1 := blk_put hg0 0 (.slice AV L.length cV) rfl
    have p2 := blk_put p1 1 (.int .i64 n1) rfl
    have p3 := blk_put p2 2 (.int .i64 n2) rfl
    have p4 := blk_put p3 3 (.int .i64 n3) rfl
    have q1 := Kd.R_set HV10.out hg0 ne_sheet 0 (.slice AV L.length cV)
    have q2 := Kd.R_set q1 p1 ne_sheet 1 (.int .i64 n1)
    have q3 := Kd.R_set q2 p2 ne_sheet 2 (.int .i64 n2)
    have q4 := Kd.R_set q3 p3 ne_sheet 3 (.int .i64 n3)
    refine bodyPost_ret (results_cell_row rfl _ _ w.heap.size 26 #[.slice AV L.length cV, .int .i64 n1, .int .i64 n2, .int .i64 n3] (0, 0) _ rfl p4 Tryz.underlying26 rfl (by kernel_rfl)) rfl ?_
    refine ⟨?_, ?_⟩
    ·rw [HN.out]
     exact ⟨_, _, rfl, Kd.R_lower q4 (by have := HB7.out.size; simp at this; omega)⟩
    ·exact ((((below_box HB10.out).setCell (p := ⟨w.heap.size, 0, none⟩) (Nat.le_refl _) _).setCell (p := ⟨w.heap.size, 1, none⟩) (Nat.le_refl _) _).setCell (p := ⟨w.heap.size, 2, none⟩) (Nat.le_refl _) _).setCell (p := ⟨w.heap.size, 3, none⟩) (Nat.le_refl _) _
   ·have HN : Hid (Col.parse s = none) := Lib.hid (by rw [HPF2.out, if_neg hq])
    have hq2 : (Col.text L n1 n2 n3 == s) = false := beq_eq_false_iff_ne.2 hq
    clear hq
    go_wp2_with fail
    refine (need_no _ _).mono ?_
    rintro e W3 ⟨rfl, rfl⟩
    go_wp2
    exact ⟨rfl, by rw [HN.out]; exact ⟨_, rfl⟩, below_box HB10.out⟩
end Go.Proofs.YtohlmoppcmjknaaGreatDoor.X
end
