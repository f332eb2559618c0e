import Derived.Test.YtinngnckojbpnaaNepEng
import Derived.WalkKit
import Derived.OwnWalk
/-! Operations over frames that are known in part: what each comes to. -/
namespace Go.Nep
set_option linter.unusedVariables false
set_option linter.unusedSimpArgs false


abbrev pt (b off : Nat) : Value := .pointer (some ⟨b, off, none⟩)
abbrev sl (b off n c : Nat) : Value := .slice (some ⟨b, off, none⟩) n c
abbrev i64 (n : Int) : Value := .int .i64 n

/-! types -/
/-- is a type's value of several cells, and of how many -/
def tyB (P : Program) (t : TypeId) : Option (Bool × Nat) :=
  match P.underlying t, P.info? t with
  | some d, some i => some (match d with | .struct _ | .array _ _ => true | _ => false, i.size)
  | _, _ => none
/-- a type's zero value -/
def zeB (P : Program) (t : TypeId) : Option Value := (P.info? t).bind (·.zero)
/-- where a struct's field lies -/
def fdB (P : Program) (s f : Nat) : Option (Nat × TypeId) :=
  match P.underlying s with
  | some (.struct fs) => match fs[f]? with
    | some fd => match P.info? fd.type with
      | some i => if i.size = 0 then none else some (fd.offset, fd.type)
      | none => none
    | none => none
  | _ => none
/-- a slice's element: its type, its cells, its bytes -/
def slB (P : Program) (t : TypeId) : Option (TypeId × Nat × Nat) :=
  match P.underlying t with
  | some (.slice e) => match P.info? e with
    | some i => some (e, i.size, i.bytes)
    | none => none
  | _ => none
/-- an array's length, and its elements' cells -/
def arB (P : Program) (t : TypeId) : Option (Nat × TypeId × Nat) :=
  match P.underlying t with
  | some (.array n e) => match P.info? e with
    | some i => some (n, e, i.size)
    | none => none
  | _ => none

section
variable {P : Program}
theorem tyB_size {t : TypeId} {b : Bool} {n : Nat} (h : tyB P t = some (b, n)) (w : World) : (sizeOf t).run P w = .ok n w := by
  unfold tyB at h
  split at h
  · rename_i d i hu hi
    simp at h
    simp [sizeOf, typeInfo, hi, program, Sem.run, h.2]
  · simp at h
theorem tyB_agg {t : TypeId} {b : Bool} {n : Nat} (h : tyB P t = some (b, n)) (w : World) : (isAgg t).run P w = .ok b w := by
  unfold tyB at h
  split at h
  · rename_i d i hu hi
    simp at h
    obtain ⟨hb, _⟩ := h
    cases d <;> simp at hb <;> simp [isAgg, underlying, hu, program, Sem.run, hb]
  · simp at h
theorem zeB_run {t : TypeId} {v : Value} (h : zeB P t = some v) (w : World) : (zeroValue t).run P w = .ok v w := by
  unfold zeB at h
  cases hi : P.info? t with
  | none => simp [hi] at h
  | some i => simp [hi] at h; simp [zeroValue, typeInfo, hi, program, Sem.run, h]
theorem slB_under {t e : TypeId} {n b : Nat} (h : slB P t = some (e, n, b)) : P.underlying t = some (.slice e) ∧ ∃ i, P.info? e = some i ∧ i.size = n ∧ i.bytes = b := by
  unfold slB at h
  split at h
  · rename_i e' hu
    split at h
    · rename_i i hi
      simp at h
      obtain ⟨rfl, h1, h2⟩ := h
      exact ⟨hu, i, hi, h1, h2⟩
    · simp at h
  · simp at h
theorem arB_under {t e : TypeId} {m n : Nat} (h : arB P t = some (m, e, n)) : P.underlying t = some (.array m e) ∧ ∃ i, P.info? e = some i ∧ i.size = n := by
  unfold arB at h
  split at h
  · rename_i m' e' hu
    split at h
    · rename_i i hi
      simp at h
      obtain ⟨rfl, rfl, h1⟩ := h
      exact ⟨hu, i, hi, h1⟩
    · simp at h
  · simp at h
theorem run_und {t : TypeId} {d : TypeDesc} (h : P.underlying t = some d) (w : World) : (underlying t).run P w = .ok d w := by
  simp [underlying, h, program, Sem.run]
theorem run_info {t : TypeId} {i : TypeInfo} (h : P.info? t = some i) (w : World) : (typeInfo t).run P w = .ok i w := by
  simp [typeInfo, h, program, Sem.run]
theorem run_size {t : TypeId} {i : TypeInfo} (h : P.info? t = some i) (w : World) : (sizeOf t).run P w = .ok i.size w := by
  simp [sizeOf, typeInfo, h, program, Sem.run]

/-! memory, block by block -/
/-- so many cells in a row -/
def rdN (w : World) (a : Addr) (n : Nat) : Option (List Value) :=
  match w.heap[a.block]? with
  | some (.cells c _ _) => if a.spot = none ∧ a.off + n ≤ c.size then some ((c.toList.drop a.off).take n) else none
  | _ => none

theorem cell_of {w : World} {b off : Nat} {c : Array Value} {e : TypeId} {f : Nat × Nat} (h : w.heap[b]? = some (.cells c e f)) : w.cell? ⟨b, off, none⟩ = c[off]? := by
  simp [World.cell?, h]

theorem add_none (a : Addr) (n : Nat) (h : a.spot = none) : a.add n = ⟨a.block, a.off + n, none⟩ := by
  unfold Addr.add
  split
  · rename_i e; subst e; cases a; simp at h; simp [h]
  · simp

theorem add_at (b off n : Nat) : (⟨b, off, none⟩ : Addr).add n = ⟨b, off + n, none⟩ := add_none _ n rfl

theorem run_loadFrom {w : World} {b off : Nat} {c : Array Value} {e : TypeId} {f : Nat × Nat} (hb : w.heap[b]? = some (.cells c e f)) :
    ∀ (n i : Nat) (acc : Array Value), off + i + n ≤ c.size → (loadCellsFrom ⟨b, off, none⟩ i n acc).run P w = .ok (acc ++ ((c.toList.drop (off + i)).take n).toArray) w := by
  intro n
  induction n with
  | zero => intro i acc _; simp [loadCellsFrom]
  | succ n ih =>
    intro i acc h
    have hc : w.cell? ⟨b, off + i, none⟩ = some (c[off + i]'(by omega)) := by rw [cell_of hb]; simp
    unfold loadCellsFrom
    simp only [Sem.run_bind, run_load, add_at, hc, Result.andThen_ok]
    rw [ih (i + 1) _ (by omega)]
    congr 1
    have : c.toList.drop (off + i) = c[off + i]'(by omega) :: c.toList.drop (off + i + 1) := by
      rw [List.drop_eq_getElem_cons (by simp; omega)]; simp
    rw [this, List.take_succ_cons]
    apply Array.ext'
    simp [Nat.add_assoc]

theorem run_loadCells {w : World} {a : Addr} {n : Nat} {l : List Value} (h : rdN w a n = some l) : (loadCells a n).run P w = .ok l.toArray w := by
  unfold rdN at h
  split at h
  · rename_i c e f hb
    split at h
    · rename_i hh
      simp at h
      obtain ⟨b, off, spot⟩ := a
      simp at hh
      obtain ⟨rfl, hle⟩ := hh
      unfold loadCells
      rw [run_loadFrom hb n 0 #[] (by simpa using hle)]
      simp at h
      simp [h]
    · simp at h
  · simp at h

theorem run_loadVar_agg {w : World} {a : Addr} {t : TypeId} {n : Nat} {l : List Value} (ht : tyB P t = some (true, n)) (h : rdN w a n = some l) : (loadVar t a).run P w = .ok (.agg l.toArray) w := by
  unfold loadVar
  simp [tyB_agg ht, tyB_size ht, run_loadCells h]
theorem run_loadVar_one {w : World} {a : Addr} {t : TypeId} {n : Nat} {v : Value} (ht : tyB P t = some (false, n)) (h : w.cell? a = some v) : (loadVar t a).run P w = .ok v w := by
  unfold loadVar
  simp [tyB_agg ht, h]

/-- a block, turned -/
def upd (w : World) (b : Nat) (o : Obj) : World := { w with heap := w.heap.setIfInBounds b o }

theorem upd_heap (w : World) (b : Nat) (o : Obj) (k : Nat) : (upd w b o).heap[k]? = if k = b ∧ b < w.heap.size then some o else w.heap[k]? := by
  simp only [upd, Array.getElem?_setIfInBounds]
  by_cases e : b = k
  · subst e
    by_cases hl : b < w.heap.size
    · simp [hl]
    · simp [hl]
  · have e' : ¬ k = b := fun h => e h.symm
    simp [e, e']

theorem upd_same {w : World} {b : Nat} {o : Obj} (hb : w.heap[b]? = some o) : upd w b o = w := by
  have hv := (Array.getElem?_eq_some_iff.1 hb).2
  unfold upd
  have : w.heap.setIfInBounds b o = w.heap := by
    apply Array.ext
    · simp
    · intro j h1 h2
      rw [Array.getElem_setIfInBounds]
      split
      · rename_i e; subst e; exact hv.symm
      · rfl
  rw [this]

theorem upd_upd (w : World) (b : Nat) (o o' : Obj) : upd (upd w b o) b o' = upd w b o' := by
  unfold upd; simp

def one : Value → Bool
  | .agg _ | .tuple _ => false
  | _ => true

def splice (c : Array Value) (off : Nat) (l : List Value) : Array Value := (c.toList.take off ++ l ++ c.toList.drop (off + l.length)).toArray

theorem splice_size {c : Array Value} {off : Nat} {l : List Value} (h : off + l.length ≤ c.size) : (splice c off l).size = c.size := by
  simp [splice]; omega

theorem setCell_upd {w : World} {b off : Nat} {c : Array Value} {e : TypeId} {f : Nat × Nat} (hb : w.heap[b]? = some (.cells c e f)) (v : Value) :
    w.setCell ⟨b, off, none⟩ v = upd w b (.cells (c.setIfInBounds off v) e f) := by
  have hlt : b < w.heap.size := (Array.getElem?_eq_some_iff.1 hb).1
  have hv : w.heap[b] = .cells c e f := (Array.getElem?_eq_some_iff.1 hb).2
  unfold World.setCell upd
  congr 1
  apply Array.ext
  · simp
  · intro i h1 h2
    by_cases hi : b = i
    · subst hi
      simp [Array.getElem_modify, hv]
    · rw [Array.getElem_modify, if_neg hi, Array.getElem_setIfInBounds, if_neg hi]

theorem run_storeFrom {b off : Nat} {e : TypeId} : ∀ (l : List Value) (w : World) (c : Array Value) (i : Nat), w.heap[b]? = some (.cells c e (0, 0)) → off + i + l.length ≤ c.size → l.all one = true →
    (storeCells ⟨b, off, none⟩ l i).run P w = .ok () (upd w b (.cells (splice c (off + i) l) e (0, 0))) := by
  intro l
  induction l with
  | nil =>
    intro w c i hb _ _
    have hlt : b < w.heap.size := (Array.getElem?_eq_some_iff.1 hb).1
    have hv : w.heap[b] = .cells c e (0, 0) := (Array.getElem?_eq_some_iff.1 hb).2
    have : splice c (off + i) [] = c := by apply Array.ext'; simp [splice]
    rw [this, upd_same hb]
    simp [storeCells]
  | cons v r ih =>
    intro w c i hb hle hone
    simp only [List.all_cons, Bool.and_eq_true] at hone
    simp only [List.length_cons] at hle
    unfold storeCells
    have hc : w.cell? ⟨b, off + i, none⟩ = some (c[off + i]'(by omega)) := by rw [cell_of hb]; simp
    have hfz : w.frozen? ⟨b, off + i, none⟩ = false := by simp [World.frozen?, hb]
    have hst : (store ⟨b, off + i, none⟩ v .plain).run P w = .ok () (w.setCell ⟨b, off + i, none⟩ v) := by
      cases v <;> simp [one] at hone <;> simp [store, Sem.run, hc, hfz]
    simp only [Sem.run_bind, add_at, hst, Result.andThen_ok]
    rw [setCell_upd hb]
    have hlt : b < w.heap.size := (Array.getElem?_eq_some_iff.1 hb).1
    have hb' : (upd w b (.cells (c.setIfInBounds (off + i) v) e (0, 0))).heap[b]? = some (.cells (c.setIfInBounds (off + i) v) e (0, 0)) := by
      rw [upd_heap]; simp [hlt]
    rw [ih _ _ (i + 1) hb' (by simp; omega) hone.2]
    rw [upd_upd]
    congr 3
    apply Array.ext'
    simp only [splice, List.length_cons, Array.toList_setIfInBounds]
    rw [show off + (i + 1) = (off + i) + 1 by omega]
    have hl : off + i < c.toList.length := by simp; omega
    rw [List.take_set, List.drop_set, if_pos (by omega)]
    have ht : (c.toList.take (off + i + 1)).set (off + i) v = c.toList.take (off + i) ++ [v] := by
      rw [List.take_succ_eq_append_getElem hl, List.set_append_right _ _ (by simp; omega)]
      have hm : off + i - (c.toList.take (off + i)).length = 0 := by simp; omega
      rw [hm]; rfl
    rw [ht]
    simp [show off + i + (r.length + 1) = off + i + 1 + r.length by omega]

theorem run_storeCells {w : World} {b off : Nat} {c : Array Value} {e : TypeId} {l : List Value} (hb : w.heap[b]? = some (.cells c e (0, 0))) (hle : off + l.length ≤ c.size) (h1 : l.all one = true) :
    (storeCells ⟨b, off, none⟩ l).run P w = .ok () (upd w b (.cells (splice c off l) e (0, 0))) := run_storeFrom l w c 0 hb (by simpa using hle) h1

theorem run_storeVar {w : World} {b off : Nat} {c : Array Value} {e t : TypeId} {ag : Bool} {n : Nat} {v : Value} (ht : tyB P t = some (ag, n)) (hb : w.heap[b]? = some (.cells c e (0, 0)))
    (hn : v.cells.size = n) (hle : off + n ≤ c.size) (h1 : v.cells.toList.all one = true) :
    (storeVar t ⟨b, off, none⟩ v).run P w = .ok () (upd w b (.cells (splice c off v.cells.toList) e (0, 0))) := by
  unfold storeVar
  simp [tyB_size ht, hn, run_storeCells (P := P) hb (by simpa [hn] using hle) h1]
end
end Go.Nep
