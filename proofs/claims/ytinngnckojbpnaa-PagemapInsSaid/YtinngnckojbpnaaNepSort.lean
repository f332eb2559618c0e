import Derived.Test.YtinngnckojbpnaaNepRow
import Derived.Shelf.SlSortCmp.NoneTotal
import Derived.Shelf.SlSortCmp.SmallK
/-! Rows of structs, sorted by the library. -/
namespace Go.Nep
set_option linter.unusedVariables false
set_option linter.unusedSimpArgs false
open Go.Sort Go.Shelf Go.Proofs

section
variable {α : Type} [Inhabited α] {enc : α → List Value} {k : Nat}

theorem flatK_eq (hk : ∀ x, (enc x).length = k) (d : Array α) : flatK enc k d = (d.toList.flatMap enc).toArray := by
  apply Array.ext
  · have := flat_len enc hk d.toList
    rw [size_flatK, ← Array.length_toList]; exact this.symm
  · intro t h1 h2
    rw [size_flatK] at h1
    have hk0 : 0 < k := by
      rcases Nat.eq_zero_or_pos k with h | h
      · subst h; simp at h1
      · exact h
    have hlt : t / k < d.size := Nat.div_lt_of_lt_mul (by rw [Nat.mul_comm]; exact h1)
    have e1 : d.toList[t / k]? = some d[t / k] := by simp [hlt]
    have e2 := flat_get enc hk d.toList (t / k) (t % k) e1 (Nat.mod_lt _ hk0)
    have e3 : t / k * k + t % k = t := by rw [Nat.mul_comm]; exact Nat.div_add_mod t k
    rw [e3] at e2
    have e4 : (flatK enc k d)[t] = (enc d[t / k]!)[t % k]! := by
      simp [flatK]
    have hm : t % k < (enc d[t / k]).length := by rw [hk]; exact Nat.mod_lt _ hk0
    rw [e4, getElem!_pos d (t / k) hlt, getElem!_pos (enc d[t / k]) (t % k) hm]
    rw [List.getElem?_eq_getElem hm] at e2
    have h2' : t < (d.toList.flatMap enc).length := by simpa using h2
    rw [List.getElem?_eq_getElem h2'] at e2
    simpa using (Option.some.inj e2).symm

theorem put_take {F c : Array Value} (h : F.size ≤ c.size) : (putCells id 0 F c).toList.take F.size = F.toList := by
  apply List.ext_getElem
  · simp [putCells]; omega
  · intro i h1 h2
    have hi : i < F.size := by simpa using h2
    simp [putCells, hi]

theorem holdsK_of {w0 w : World} {L : List Asn} {g : Nat} {cur : Array Value} {e : TypeId} (hk : ∀ x, (enc x).length = k) (d : Array α) (H : St w0 w (Cs g cur e :: L)) (ht : cur.toList.take (d.size * k) = d.toList.flatMap enc) : HoldsK enc k w g 0 d := by
  intro j hj
  rw [size_flatK] at hj
  have hh : w.heap[g]? = some (.cells cur e (0, 0)) := H.hd
  have hl : (cur.toList.take (d.size * k)).length = d.size * k := by rw [ht, flat_len enc hk]; simp
  refine ⟨?_, by simp [World.frozen?, hh]⟩
  rw [cell_of hh, Nat.zero_add]
  rw [flatK_eq hk]
  have hj2 : j < (d.toList.flatMap enc).length := by rw [flat_len enc hk]; simpa using hj
  have e1 : (d.toList.flatMap enc)[j]? = cur[j]? := by
    rw [← ht, List.getElem?_take, if_pos hj]; simp
  rw [getElem!_pos _ j (by simpa using hj2)]
  rw [← e1, List.getElem?_eq_getElem hj2]
  simp

theorem St_sorted {w0 w : World} {L : List Asn} {g : Nat} {cur : Array Value} {e : TypeId} (H : St w0 w (Cs g cur e :: L)) (n : Nat) (d' : Array α) (os : Array Obj) :
    St w0 (sortWorldK enc k w g 0 n d' os) (Cs g (putCells id 0 (flatK enc k d') cur) e :: L) := by
  have hh : w.heap[g]? = some (.cells cur e (0, 0)) := H.hd
  have hlt : g < w.heap.size := (Array.getElem?_eq_some_iff.1 hh).1
  have H1 := H.updHd (o' := .cells (putCells id 0 (flatK enc k d') cur) e (0, 0))
  refine (H1.grow (w' := grow (upd w g (.cells (putCells id 0 (flatK enc k d') cur) e (0, 0))) os) ⟨rfl, rfl, rfl, by simp [grow], fun j hj => by simp [grow, Array.getElem?_append, hj]⟩).same ?_ rfl rfl rfl
  show (w.heap.modify g (onCells _)) ++ os = (upd w g _).heap ++ os
  congr 1
  apply Array.ext_getElem?
  intro j
  unfold upd
  simp only [Array.getElem?_modify]
  by_cases hj : g = j
  · subst hj
    have h3 : w.heap[g] = .cells cur e (0, 0) := by simpa [hlt] using hh
    simp [hlt, onCells, h3]
  · simp [hj, Ne.symm hj]
end

section
variable {α : Type} [Inhabited α] (lt : α → α → Bool)
theorem insInner_size (a : Nat) : ∀ (j : Nat) (d : Array α), (Go.Sort.insInner lt a j d).size = d.size := by
  intro j
  induction j with
  | zero => intro d; rfl
  | succ j ih =>
    intro d
    unfold Go.Sort.insInner
    split
    · rw [ih]; simp [swp]
    · rfl
theorem insOuter_size (a b : Nat) : ∀ (n i : Nat) (d : Array α), b - i = n → (Go.Sort.insOuter lt a b i d).size = d.size := by
  intro n
  induction n with
  | zero => intro i d h; rw [Go.Sort.insOuter, if_neg (by omega)]
  | succ n ih =>
    intro i d h
    rw [Go.Sort.insOuter, if_pos (by omega), ih _ _ (by omega), insInner_size]
theorem insertionSort_size (d : Array α) (a b : Nat) : (Go.Sort.insertionSort lt d a b).size = d.size := insOuter_size lt a b _ _ _ rfl
end
end Go.Nep
