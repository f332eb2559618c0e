import Derived.Test.YtinngnckojbpnaaNepGo
/-! Rows of structs. -/
namespace Go.Nep
set_option linter.unusedVariables false
set_option linter.unusedSimpArgs false

section
variable {α : Type}

theorem flat_len (enc : α → List Value) {k : Nat} (hk : ∀ a, (enc a).length = k) (xs : List α) : (xs.flatMap enc).length = xs.length * k := by
  induction xs with
  | nil => simp
  | cons x r ih => simp [List.flatMap_cons, ih, hk, Nat.add_mul, Nat.add_comm]

theorem flat_drop (enc : α → List Value) {k : Nat} (hk : ∀ a, (enc a).length = k) : ∀ (xs : List α) (i : Nat), (xs.flatMap enc).drop (i * k) = (xs.drop i).flatMap enc := by
  intro xs
  induction xs with
  | nil => intro i; simp
  | cons x r ih =>
    intro i
    cases i with
    | zero => simp
    | succ i =>
      rw [List.flatMap_cons, Nat.add_mul, Nat.one_mul, Nat.add_comm, ← List.drop_drop, List.drop_left' (hk x), ih]
      simp

theorem flat_take (enc : α → List Value) {k : Nat} (hk : ∀ a, (enc a).length = k) : ∀ (xs : List α) (i : Nat), (xs.flatMap enc).take (i * k) = (xs.take i).flatMap enc := by
  intro xs
  induction xs with
  | nil => intro i; simp
  | cons x r ih =>
    intro i
    cases i with
    | zero => simp
    | succ i =>
      rw [List.flatMap_cons, Nat.add_mul, Nat.one_mul, Nat.add_comm, List.take_append, List.take_of_length_le (by rw [hk]; omega), hk]
      rw [show k + i * k - k = i * k by omega, ih]
      simp

theorem flat_seg (enc : α → List Value) {k : Nat} (hk : ∀ a, (enc a).length = k) (xs : List α) (i : Nat) {a : α} (h : xs[i]? = some a) : ((xs.flatMap enc).drop (i * k)).take k = enc a := by
  obtain ⟨hi, ha⟩ := List.getElem?_eq_some_iff.1 h
  rw [flat_drop enc hk, List.drop_eq_getElem_cons hi, List.flatMap_cons, ha, List.take_left' (hk a)]

theorem flat_sub (enc : α → List Value) {k : Nat} (hk : ∀ a, (enc a).length = k) (xs : List α) (i off m : Nat) {a : α} (h : xs[i]? = some a) (hm : off + m ≤ k) : ((xs.flatMap enc).drop (i * k + off)).take m = ((enc a).drop off).take m := by
  obtain ⟨hi, ha⟩ := List.getElem?_eq_some_iff.1 h
  rw [← List.drop_drop, flat_drop enc hk, List.drop_eq_getElem_cons hi, List.flatMap_cons, ha, List.drop_append, List.take_append]
  rw [show m - ((enc a).drop off).length = 0 by rw [List.length_drop, hk]; omega]
  simp

theorem flat_get (enc : α → List Value) {k : Nat} (hk : ∀ a, (enc a).length = k) (xs : List α) (i off : Nat) {a : α} (h : xs[i]? = some a) (hm : off < k) : (xs.flatMap enc)[i * k + off]? = (enc a)[off]? := by
  obtain ⟨hi, ha⟩ := List.getElem?_eq_some_iff.1 h
  rw [← List.getElem?_drop, flat_drop enc hk, List.drop_eq_getElem_cons hi, List.flatMap_cons, ha, List.getElem?_append_left (by rw [hk]; exact hm)]

theorem flat_set (enc : α → List Value) {k : Nat} (hk : ∀ a, (enc a).length = k) (xs : List α) (i : Nat) (a : α) (hi : i < xs.length) : (xs.flatMap enc).take (i * k) ++ enc a ++ (xs.flatMap enc).drop (i * k + k) = (xs.set i a).flatMap enc := by
  rw [flat_take enc hk, show i * k + k = (i + 1) * k by rw [Nat.add_mul, Nat.one_mul], flat_drop enc hk]
  rw [← List.flatMap_singleton enc a, ← List.flatMap_append, ← List.flatMap_append]
  congr 1
  rw [List.set_eq_take_append_cons_drop, if_pos hi]
  simp

theorem flat_splice (enc : α → List Value) {k : Nat} (hk : ∀ a, (enc a).length = k) (xs : List α) (i : Nat) (a : α) (hi : i < xs.length) : splice (xs.flatMap enc).toArray (i * k) (enc a) = ((xs.set i a).flatMap enc).toArray := by
  unfold splice
  rw [hk, flat_set enc hk xs i a hi]

/-- a part of an element -/
theorem flat_part (enc : α → List Value) {k : Nat} (hk : ∀ a, (enc a).length = k) (xs : List α) (i off : Nat) (l : List Value) {a a' : α} (h : xs[i]? = some a) (hm : off + l.length ≤ k) (he : (enc a).take off ++ l ++ (enc a).drop (off + l.length) = enc a') :
    splice (xs.flatMap enc).toArray (i * k + off) l = ((xs.set i a').flatMap enc).toArray := by
  obtain ⟨hi, ha⟩ := List.getElem?_eq_some_iff.1 h
  rw [← flat_splice enc hk xs i a' hi]
  unfold splice
  congr 1
  rw [hk, ← he]
  have e1 : (xs.flatMap enc).take (i * k + off) = (xs.flatMap enc).take (i * k) ++ (enc a).take off := by
    rw [List.take_add, flat_drop enc hk, List.drop_eq_getElem_cons hi, List.flatMap_cons, ha, List.take_append_of_le_length (by rw [hk]; omega)]
  have e2 : (xs.flatMap enc).drop (i * k + off + l.length) = (enc a).drop (off + l.length) ++ (xs.flatMap enc).drop (i * k + k) := by
    rw [Nat.add_assoc, ← List.drop_drop, flat_drop enc hk, List.drop_eq_getElem_cons hi, List.flatMap_cons, ha, List.drop_append_of_le_length (by rw [hk]; omega)]
    congr 1
    rw [show i * k + k = (i + 1) * k by rw [Nat.add_mul, Nat.one_mul], flat_drop enc hk]
  rw [e1]
  simp only [List.length_append, List.append_assoc]
  rw [← List.append_assoc l, ← List.append_assoc]
  simp only [List.toList_toArray, List.append_assoc]
  rw [e2]
end
end Go.Nep
