/- Contracts of the program's functions, and the words that their proofs take (joined out of several texts). -/
import Derived.Lib.Join
import Derived.Test.YtohlmoppcmjknaaGreatDoorM2
section
namespace Go.Proofs.YtohlmoppcmjknaaGreatDoor.Col
theorem decDigits_len : ∀ (k u : Nat), u < 10 ^ (k + 1) → (Lib.decDigits u).length ≤ k + 1
 | 0, u, h => by
  rw [Lib.decDigits, dif_pos (by simpa using h)]
  simp
 | k + 1, u, h => by
  by_cases h2 : u < 10
  ·rw [Lib.decDigits, dif_pos h2]; simp
  ·rw [Lib.decDigits, dif_neg h2, List.length_append]
   have := decDigits_len k (u / 10) (by rw [Nat.pow_succ] at h; omega)
   simp only [List.length_singleton]
   omega
theorem itoa_len {n : Int} (h : n.natAbs < 100000) : (Lib.itoa n).length ≤ 6 := by
 unfold Lib.itoa
 split
 ·have := decDigits_len 4 n.natAbs h
  simp only [List.length_cons]
  omega
 ·have := decDigits_len 4 n.toNat (by omega)
  omega
theorem line_snoc (wd : List UInt8) (ns : List Int) (n : Int) : line wd (ns ++ [n]) = line wd ns ++ 32 :: Lib.itoa n := by simp [line, List.foldl_append]
theorem line_len (wd : List UInt8) : ∀ (ns : List Int), (∀ x ∈ ns, x.natAbs < 100000) → (line wd ns).length ≤ wd.length + 7 * ns.length := by
 suffices h : ∀ (ns : List Int) (wd : List UInt8), (∀ x ∈ ns, x.natAbs < 100000) → (line wd ns).length ≤ wd.length + 7 * ns.length from fun ns => h ns wd
 intro ns
 induction ns with
 | nil => intro wd _; simp [line]
 | cons a ns ih =>
  intro wd h
  have h1 := ih (wd ++ 32 :: Lib.itoa a) (fun x hx => h x (List.mem_cons_of_mem _ hx))
  have h2 := itoa_len (h a (by simp))
  have e : line wd (a :: ns) = line (wd ++ 32 :: Lib.itoa a) ns := rfl
  rw [e]
  simp only [List.length_append, List.length_cons] at h1 ⊢
  omega
def lineTo (wd : List UInt8) (ns : List Int) (j : Nat) : ByteArray := ⟨(line wd (ns.take j)).toArray⟩
theorem bytes_append (a b : List UInt8) : (⟨a.toArray⟩ : ByteArray) ++ ⟨b.toArray⟩ = ⟨(a ++ b).toArray⟩ := by
 apply ByteArray.ext
 simp [ByteArray.data_append]
theorem lineTo_succ {wd : List UInt8} {ns : List Int} {j : Nat} (h : j < ns.length) : lineTo wd ns (j + 1) = lineTo wd ns j ++ (⟨#[32]⟩ ++ ⟨(Lib.itoa (nth ns j)).toArray⟩) := by
 unfold lineTo
 have e : ns.take (j + 1) = ns.take j ++ [nth ns j] := by
  rw [List.take_succ_eq_append_getElem h]
  simp [nth, List.getD_eq_getElem?_getD, h]
 rw [e, line_snoc]
 have h32 : (⟨#[32]⟩ : ByteArray) = ⟨([32] : List UInt8).toArray⟩ := rfl
 rw [h32, bytes_append, bytes_append]
 rfl
theorem lineTo_zero (wd : List UInt8) (ns : List Int) : lineTo wd ns 0 = ⟨wd.toArray⟩ := rfl
theorem lineTo_all (wd : List UInt8) (ns : List Int) : lineTo wd ns ns.length = ⟨(line wd ns).toArray⟩ := by unfold lineTo; rw [List.take_length]
theorem size_bytes (l : List UInt8) : (⟨l.toArray⟩ : ByteArray).size = l.length := by simp [ByteArray.size]
theorem lineTo_size {wd : List UInt8} {ns : List Int} (h : ∀ x ∈ ns, x.natAbs < 100000) (j : Nat) : (lineTo wd ns j).size ≤ wd.length + 7 * ns.length := by
 unfold lineTo
 rw [size_bytes]
 have h1 := line_len wd (ns.take j) (fun x hx => h x (List.mem_of_mem_take hx))
 have h2 : (ns.take j).length ≤ ns.length := by rw [List.length_take]; omega
 omega
def bys (l : List UInt8) : ByteArray := ⟨l.toArray⟩
theorem bytes_list (l : List UInt8) : (bys l).data.toList = l := by simp [bys]
theorem bytes_size (l : List UInt8) : (bys l).size = l.length := size_bytes l
def rowsTo (l : List Int) (o lo hi : Int) (j : Nat) : List ByteArray := bys (headLine o lo hi) :: (l.take j).map fun n => bys (rowLine n)
theorem rowsTo_zero (l : List Int) (o lo hi : Int) : rowsTo l o lo hi 0 = [bys (headLine o lo hi)] := by simp [rowsTo]
theorem rowsTo_succ {l : List Int} (o lo hi : Int) {j : Nat} (h : j < l.length) : rowsTo l o lo hi (j + 1) = rowsTo l o lo hi j ++ [bys (rowLine (nth l j))] := by
 unfold rowsTo
 have e : l.take (j + 1) = l.take j ++ [nth l j] := by
  rw [List.take_succ_eq_append_getElem h]
  simp [nth, List.getD_eq_getElem?_getD, h]
 rw [e, List.map_append]
 rfl
theorem rowsTo_length (l : List Int) (o lo hi : Int) (j : Nat) : (rowsTo l o lo hi j).length ≤ l.length + 1 := by
 simp [rowsTo]; omega
theorem rowsTo_all (l : List Int) (o lo hi : Int) : rowsTo l o lo hi l.length = (lines l o lo hi).map bys := by
 unfold rowsTo lines
 rw [List.take_length]
 simp [Function.comp_def]
theorem lines_length (l : List Int) (o lo hi : Int) : (lines l o lo hi).length = l.length + 1 := by simp [lines]
theorem short_parts {l : List Int} {o lo hi : Int} (h : short l o lo hi = true) : l.length ≤ 200 ∧ o.natAbs < 100000 ∧ lo.natAbs < 100000 ∧ hi.natAbs < 100000 ∧ ∀ x ∈ l, x.natAbs < 100000 := by
 unfold short at h
 simp only [Bool.and_eq_true, inr, decide_eq_true_eq, List.all_eq_true] at h
 obtain ⟨⟨⟨⟨h1, h2⟩, h3⟩, h4⟩, h5⟩ := h
 exact ⟨h1, by omega, by omega, by omega, fun x hx => by have := h5 x hx; omega⟩
theorem headLine_len {o lo hi : Int} (h1 : o.natAbs < 100000) (h2 : lo.natAbs < 100000) (h3 : hi.natAbs < 100000) : (headLine o lo hi).length ≤ 27 := by
 have := line_len [99, 111, 108, 117, 109, 110] [o, lo, hi] (by intro x hx; simp only [List.mem_cons, List.not_mem_nil, or_false] at hx; rcases hx with rfl | rfl | rfl <;> assumption)
 simpa [headLine] using this
theorem rowLine_len {n : Int} (h : n.natAbs < 100000) : (rowLine n).length ≤ 10 := by
 have := line_len [114, 111, 119] [n] (by intro x hx; rw [List.mem_singleton] at hx; rw [hx]; exact h)
 simpa [rowLine] using this
theorem lines_len {l : List Int} {o lo hi : Int} (h : short l o lo hi = true) : ∀ r ∈ lines l o lo hi, r.length ≤ 27 := by
 obtain ⟨_, h2, h3, h4, h5⟩ := short_parts h
 intro r hr
 rcases List.mem_cons.1 hr with rfl | hr
 ·exact headLine_len h2 h3 h4
 ·obtain ⟨n, hn, rfl⟩ := List.mem_map.1 hr
  exact Nat.le_trans (rowLine_len (h5 n hn)) (by decide)
def lineTo' (i : Nat) (r : List UInt8) (k : Nat) : Int := ((List.range k).map fun k => ((r.getD k 0).toNat : Int) * ((k : Int) + 1) * ((i : Int) + 1)).sum
theorem lineTo'_succ (i : Nat) (r : List UInt8) (k : Nat) : lineTo' i r (k + 1) = lineTo' i r k + ((r.getD k 0).toNat : Int) * ((k : Int) + 1) * ((i : Int) + 1) := by simp [lineTo', List.range_succ]
theorem lineTo'_all (i : Nat) (r : List UInt8) : lineTo' i r r.length = lineSum i r := rfl
def sumTo (rs : List (List UInt8)) (i : Nat) : Int := ((List.range i).map fun i => lineSum i (rs.getD i [])).sum
theorem sumTo_succ (rs : List (List UInt8)) (i : Nat) : sumTo rs (i + 1) = sumTo rs i + lineSum i (rs.getD i []) := by simp [sumTo, List.range_succ]
theorem sumTo_all (rs : List (List UInt8)) : sumTo rs rs.length % 233 = checkOf rs := rfl
theorem term_bd (b : UInt8) {k i : Nat} (hk : k < 100) (hi : i < 300) : 0 ≤ (b.toNat : Int) * ((k : Int) + 1) * ((i : Int) + 1) ∧ (b.toNat : Int) * ((k : Int) + 1) * ((i : Int) + 1) ≤ 7650000 ∧ 0 ≤ (b.toNat : Int) * ((k : Int) + 1) ∧ (b.toNat : Int) * ((k : Int) + 1) ≤ 25500 := by
 have hb := UInt8.toNat_lt b
 have h1 : b.toNat * (k + 1) ≤ 255 * 100 := Nat.mul_le_mul (by omega) (by omega)
 have h2 : b.toNat * (k + 1) * (i + 1) ≤ 25500 * 300 := Nat.mul_le_mul h1 (by omega)
 have e1 : (b.toNat : Int) * ((k : Int) + 1) = ((b.toNat * (k + 1) : Nat) : Int) := by simp
 have e2 : (b.toNat : Int) * ((k : Int) + 1) * ((i : Int) + 1) = ((b.toNat * (k + 1) * (i + 1) : Nat) : Int) := by simp
 rw [e1, show ((b.toNat * (k + 1) : Nat) : Int) * ((i : Int) + 1) = ((b.toNat * (k + 1) * (i + 1) : Nat) : Int) by simp]
 omega
theorem lineTo'_bd (i : Nat) (hi : i < 300) (r : List UInt8) : ∀ k, k ≤ 100 → 0 ≤ lineTo' i r k ∧ lineTo' i r k ≤ 7650000 * k
 | 0, _ => by simp [lineTo']
 | k + 1, h => by
  have := lineTo'_bd i hi r k (by omega)
  have := term_bd (r.getD k 0) (k := k) (i := i) (by omega) hi
  rw [lineTo'_succ]
  omega
theorem sumTo_bd {rs : List (List UInt8)} (hr : ∀ r ∈ rs, r.length ≤ 100) : ∀ i, i ≤ 300 → 0 ≤ sumTo rs i ∧ sumTo rs i ≤ 765000000 * i
 | 0, _ => by simp [sumTo]
 | i + 1, h => by
  have h1 := sumTo_bd hr i (by omega)
  have hl : (rs.getD i []).length ≤ 100 := by
   rw [List.getD_eq_getElem?_getD]
   cases e : rs[i]? with
   | none => simp
   | some r => exact hr r (List.mem_of_getElem? e)
  have h2 := lineTo'_bd i (by omega) (rs.getD i []) (rs.getD i []).length hl
  rw [sumTo_succ, ← lineTo'_all]
  omega
theorem byte_at (r : List UInt8) (k : Nat) (h : k < (bys r).size) : (bys r)[k]'h = r.getD k 0 := by
 have hl : k < r.length := by rw [← bytes_size r]; exact h
 show (bys r).data[k]'_ = _
 simp [bys, List.getD_eq_getElem?_getD, hl]
theorem join_joined : ∀ (rs : List (List UInt8)), rs ≠ [] → Lib.join rs [10] ++ [10] = joined rs
 | [], h => absurd rfl h
 | x :: r, _ => by
  rw [Lib.join_cons]
  unfold Lib.joinTail joined
  have key : ∀ (r : List (List UInt8)) (x : List UInt8), x ++ (r.map ([10] ++ ·)).flatten ++ [10] = (x :: r).flatMap fun r => r ++ [10] := by
   intro r
   induction r with
   | nil => intro x; simp
   | cons y r ih =>
    intro x
    have := ih y
    simp only [List.map_cons, List.flatten_cons, List.flatMap_cons, List.append_assoc] at this ⊢
    rw [this]
  exact key r x
theorem text_eq (l : List Int) (o lo hi : Int) : Lib.join (lines l o lo hi ++ [endLine (checkOf (lines l o lo hi))]) [10] ++ [10] = text l o lo hi := join_joined _ (by simp [lines])
theorem join_len : ∀ (rs : List (List UInt8)) (n : Nat), (∀ r ∈ rs, r.length ≤ n) → (Lib.join rs [10]).length ≤ (n + 1) * rs.length
 | [], n, _ => by simp [Lib.join_nil]
 | x :: r, n, h => by
  have e := congrArg List.length (join_joined (x :: r) (by simp))
  rw [List.length_append] at e
  have h2 : ∀ (rs : List (List UInt8)), (∀ r ∈ rs, r.length ≤ n) → (joined rs).length ≤ (n + 1) * rs.length := by
   intro rs
   induction rs with
   | nil => intro _; simp [joined]
   | cons a rs ih =>
    intro h
    have h1 := ih (fun x hx => h x (List.mem_cons_of_mem _ hx))
    have h3 := h a (by simp)
    simp only [joined, List.flatMap_cons, List.length_append, List.length_cons, List.length_nil] at h1 ⊢
    rw [Nat.mul_add]
    omega
  have := h2 (x :: r) h
  omega
end Go.Proofs.YtohlmoppcmjknaaGreatDoor.Col
end
