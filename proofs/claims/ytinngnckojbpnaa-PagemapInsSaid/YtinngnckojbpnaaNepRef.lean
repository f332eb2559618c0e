import Derived.Test.YtinngnckojbpnaaNepRes
/-! A map's entries as a function. -/
namespace Go.Nep
set_option linter.unusedVariables false
set_option linter.unusedSimpArgs false

section
variable {α : Type}

/-- the entries are a function's: its values that are not 0 -/
structure REF (E : Ents α) (clock : Nat) (f : α → Int) : Prop where
  keys : (E.map (·.1)).Nodup
  borns : (E.map (·.2.2)).Nodup
  young : ∀ x ∈ E, x.2.2 < clock
  mem : ∀ x ∈ E, x.2.1 = f x.1 ∧ f x.1 ≠ 0
  all : ∀ a, f a ≠ 0 → ∃ x ∈ E, x.1 = a

theorem REF.nil : REF ([] : Ents α) 0 (fun _ => 0) := ⟨by simp, by simp, by simp, by simp, fun a h => absurd rfl h⟩

theorem REF.idx_none [DecidableEq α] {E : Ents α} {clock : Nat} {f : α → Int} (h : REF E clock f) {a : α} : idxE E a = none ↔ f a = 0 := by
  unfold idxE
  rw [List.findIdx?_eq_none_iff]
  constructor
  · intro hn
    rcases Classical.em (f a = 0) with h0 | h0
    · exact h0
    · obtain ⟨x, hx, rfl⟩ := h.all a h0
      have := hn x hx
      simp at this
  · intro h0 x hx
    have := h.mem x hx
    simp only [decide_eq_false_iff_not]
    rintro rfl
    exact this.2 h0

theorem REF.val [DecidableEq α] {E : Ents α} {clock : Nat} {f : α → Int} (h : REF E clock f) (a : α) : valE E a = f a := by
  rcases Classical.em (f a = 0) with h0 | h0
  · rw [h0]; exact Nep.idx_none (h.idx_none.2 h0)
  · unfold valE
    cases hf : E.find? (fun x => decide (x.1 = a)) with
    | none =>
      obtain ⟨x, hx, rfl⟩ := h.all a h0
      rw [List.find?_eq_none] at hf
      have := hf x hx
      simp at this
    | some x =>
      have hm := List.mem_of_find?_eq_some hf
      have he := List.find?_some hf
      simp at he
      subst he
      simp [(h.mem x hm).1]

theorem REF.idx_some [DecidableEq α] {E : Ents α} {clock : Nat} {f : α → Int} (h : REF E clock f) {a : α} (h0 : f a ≠ 0) : ∃ j, idxE E a = some j := by
  cases hj : idxE E a with
  | none => exact absurd (h.idx_none.1 hj) h0
  | some j => exact ⟨j, rfl⟩

theorem nodup_inj {β γ : Type} {g : β → γ} {l : List β} (h : (l.map g).Nodup) {i j : Nat} (hi : i < l.length) (hj : j < l.length) (e : g l[i] = g l[j]) : i = j := by
  have hp := List.pairwise_iff_getElem.1 h
  rcases Nat.lt_trichotomy i j with hlt | he | hlt
  · exact absurd (by rw [List.getElem_map, List.getElem_map]; exact e) (hp i j (by simpa using hi) (by simpa using hj) hlt)
  · exact he
  · exact absurd (by rw [List.getElem_map, List.getElem_map]; exact e.symm) (hp j i (by simpa using hj) (by simpa using hi) hlt)

theorem stamp_idx {E : Ents α} (h : (E.map (·.2.2)).Nodup) {j : Nat} (hj : j < E.length) : E.findIdx? (fun x => decide (x.2.2 = E[j].2.2)) = some j := by
  rw [List.findIdx?_eq_some_iff_getElem]
  refine ⟨hj, by simp, fun i hi => ?_⟩
  simp only [decide_eq_true_eq]
  intro e
  have := nodup_inj h (Nat.lt_trans hi hj) hj e
  omega

theorem map_modify_same {β γ : Type} {g : β → γ} {u : β → β} (hu : ∀ x, g (u x) = g x) (l : List β) (j : Nat) : (l.modify j u).map g = l.map g := by
  apply List.ext_getElem
  · simp
  · intro i h1 h2
    simp only [List.getElem_map, List.getElem_modify]
    split
    · exact hu _
    · rfl

/-- a value of a key that is there -/
theorem REF.modify [DecidableEq α] {E : Ents α} {clock : Nat} {f : α → Int} (h : REF E clock f) {a : α} {j : Nat} (hj : idxE E a = some j) {v : Int} (hv : v ≠ 0) :
    REF (E.modify j fun x => (x.1, v, x.2.2)) clock (fun q => if q = a then v else f q) := by
  obtain ⟨hjl, hja⟩ := Nep.idx_some hj
  have hk : (E.modify j fun x => (x.1, v, x.2.2)).map (·.1) = E.map (·.1) := map_modify_same (g := (·.1)) (u := fun x : α × Int × Nat => (x.1, v, x.2.2)) (fun _ => rfl) E j
  have hb : (E.modify j fun x => (x.1, v, x.2.2)).map (·.2.2) = E.map (·.2.2) := map_modify_same (g := (·.2.2)) (u := fun x : α × Int × Nat => (x.1, v, x.2.2)) (fun _ => rfl) E j
  refine ⟨by rw [hk]; exact h.keys, by rw [hb]; exact h.borns, ?_, ?_, ?_⟩
  · intro x hx
    have : x.2.2 ∈ E.map (·.2.2) := by rw [← hb]; exact List.mem_map.2 ⟨x, hx, rfl⟩
    obtain ⟨y, hy, e⟩ := List.mem_map.1 this
    rw [← e]; exact h.young y hy
  · intro x hx
    obtain ⟨i, hi, rfl⟩ := List.mem_iff_getElem.1 hx
    have hi' : i < E.length := by simpa using hi
    rw [List.getElem_modify]
    split
    · rename_i e; subst e; simp [hja, hv]
    · rename_i hne
      have hm := h.mem E[i] (List.getElem_mem hi')
      have : E[i].1 ≠ a := by
        intro e
        exact hne (nodup_inj h.keys hjl hi' (by rw [hja, e]))
      simp [this, hm]
  · intro q hq
    by_cases e : q = a
    · subst e
      refine ⟨(E.modify j fun x => (x.1, v, x.2.2))[j]'(by simpa using hjl), List.getElem_mem _, ?_⟩
      rw [List.getElem_modify]; simp [hja]
    · simp only [e, if_false] at hq
      obtain ⟨x, hx, rfl⟩ := h.all q hq
      obtain ⟨i, hi, rfl⟩ := List.mem_iff_getElem.1 hx
      refine ⟨(E.modify j fun x => (x.1, v, x.2.2))[i]'(by simpa using hi), List.getElem_mem _, ?_⟩
      rw [List.getElem_modify]
      split <;> rfl

/-- a key less -/
theorem REF.erase [DecidableEq α] {E : Ents α} {clock : Nat} {f : α → Int} (h : REF E clock f) {a : α} {j : Nat} (hj : idxE E a = some j) :
    REF (E.eraseIdx j) clock (fun q => if q = a then 0 else f q) := by
  obtain ⟨hjl, hja⟩ := Nep.idx_some hj
  have hsub := List.eraseIdx_sublist E j
  have hne : ∀ x ∈ E.eraseIdx j, x.1 ≠ a := by
    intro x hx e
    have hnd : ((E.eraseIdx j).map (·.1)).Nodup ∧ a ∉ (E.eraseIdx j).map (·.1) := by
      have hp := (perm_erase E j E[j] (by simp [hjl])).map (·.1)
      have hn := hp.nodup_iff.2 h.keys
      simp only [List.map_cons, List.nodup_cons] at hn
      rw [hja] at hn
      exact ⟨hn.2, hn.1⟩
    exact hnd.2 (List.mem_map.2 ⟨x, hx, e⟩)
  refine ⟨(hsub.map _).nodup h.keys, (hsub.map _).nodup h.borns, fun x hx => h.young x (hsub.subset hx), fun x hx => ?_, fun q hq => ?_⟩
  · have := h.mem x (hsub.subset hx)
    simp [hne x hx, this]
  · by_cases e : q = a
    · simp [e] at hq
    · simp only [e, if_false] at hq
      obtain ⟨x, hx, rfl⟩ := h.all q hq
      have hp := (perm_erase E j E[j] (by simp [hjl])).mem_iff (a := x)
      rcases List.mem_cons.1 (hp.2 hx) with r | r
      · rw [r, hja] at e; exact absurd rfl e
      · exact ⟨x, r, rfl⟩

/-- a key more -/
theorem REF.push [DecidableEq α] {E : Ents α} {clock : Nat} {f : α → Int} (h : REF E clock f) {a : α} (h0 : f a = 0) {v : Int} (hv : v ≠ 0) :
    REF (E ++ [(a, v, clock)]) (clock + 1) (fun q => if q = a then v else f q) := by
  have hk : a ∉ E.map (·.1) := by
    intro hm
    obtain ⟨x, hx, rfl⟩ := List.mem_map.1 hm
    exact (h.mem x hx).2 h0
  have hb : clock ∉ E.map (·.2.2) := by
    intro hm
    obtain ⟨x, hx, e⟩ := List.mem_map.1 hm
    have := h.young x hx
    omega
  refine ⟨?_, ?_, ?_, ?_, ?_⟩
  · rw [List.map_append, List.nodup_append]
    refine ⟨h.keys, by simp, fun x hx y hy e => ?_⟩
    simp at hy; subst hy; subst e; exact hk hx
  · rw [List.map_append, List.nodup_append]
    refine ⟨h.borns, by simp, fun x hx y hy e => ?_⟩
    simp at hy; subst hy; subst e; exact hb hx
  · intro x hx
    rcases List.mem_append.1 hx with hx | hx
    · have := h.young x hx; omega
    · simp at hx; subst hx; simp
  · intro x hx
    rcases List.mem_append.1 hx with hx | hx
    · have hne : x.1 ≠ a := fun e => hk (List.mem_map.2 ⟨x, hx, e⟩)
      simp [hne, h.mem x hx]
    · simp at hx; subst hx; simp [hv]
  · intro q hq
    by_cases e : q = a
    · exact ⟨(a, v, clock), by simp, e.symm⟩
    · simp only [e, if_false] at hq
      obtain ⟨x, hx, rfl⟩ := h.all q hq
      exact ⟨x, by simp [hx], rfl⟩

theorem push_stamp {E : Ents α} {clock : Nat} {f : α → Int} (h : REF E clock f) (a : α) : (E ++ [(a, (0 : Int), clock)]).findIdx? (fun x => decide (x.2.2 = clock)) = some E.length := by
  rw [List.findIdx?_eq_some_iff_getElem]
  refine ⟨by simp, by simp, fun i hi => ?_⟩
  rw [List.getElem_append_left hi]
  have := h.young E[i] (List.getElem_mem hi)
  simp; omega
theorem push_modify (E : Ents α) (a : α) (clock : Nat) (v : Int) : (E ++ [(a, (0 : Int), clock)]).modify E.length (fun x => (x.1, v, x.2.2)) = E ++ [(a, v, clock)] := by
  apply List.ext_getElem
  · simp
  · intro i h1 h2
    rw [List.getElem_modify]
    split
    · rename_i e; subst e; simp
    · rename_i hne
      have : i < E.length := by simp at h2; omega
      simp [List.getElem_append_left this]

theorem idx_modify [DecidableEq α] (E : Ents α) (j : Nat) (v : Int) (a : α) : idxE (E.modify j fun x => (x.1, v, x.2.2)) a = idxE E a := by
  have hk : (E.modify j fun x => (x.1, v, x.2.2)).map (·.1) = E.map (·.1) := map_modify_same (g := (·.1)) (u := fun x : α × Int × Nat => (x.1, v, x.2.2)) (fun _ => rfl) E j
  have h : ∀ E : Ents α, idxE E a = (E.map (·.1)).findIdx? (fun k => decide (k = a)) := by
    intro E; unfold idxE; rw [List.findIdx?_map]; rfl
  rw [h, h, hk]

theorem find_idx {β : Type} {q : β → Bool} : ∀ {l : List β} {j : Nat}, l.findIdx? q = some j → ∀ hj : j < l.length, l.find? q = some l[j] := by
  intro l
  induction l with
  | nil => intro j h; simp at h
  | cons x r ih =>
    intro j h hj
    rw [List.findIdx?_cons] at h
    by_cases hq : q x = true
    · simp [hq] at h; subst h; simp [hq]
    · simp only [hq, Bool.false_eq_true, if_false, Option.map_eq_some_iff] at h
      obtain ⟨i, hi, rfl⟩ := h
      rw [List.find?_cons_of_neg hq]
      simp only [List.length_cons] at hj
      rw [ih hi (by omega)]
      rfl

theorem val_modify [DecidableEq α] {E : Ents α} {a : α} {j : Nat} (h : idxE E a = some j) (v : Int) : valE (E.modify j fun x => (x.1, v, x.2.2)) a = v := by
  have hj := (Nep.idx_some h).1
  have h2 : idxE (E.modify j fun x => (x.1, v, x.2.2)) a = some j := by rw [idx_modify, h]
  unfold valE
  rw [find_idx h2 (by simpa using hj), List.getElem_modify]
  simp

theorem erase_modify (E : Ents α) (j : Nat) (u : α × Int × Nat → α × Int × Nat) : (E.modify j u).eraseIdx j = E.eraseIdx j := by
  induction E generalizing j with
  | nil => simp
  | cons x r ih =>
    cases j with
    | zero => simp
    | succ j => simp [ih]
end
theorem val_push0 {α : Type} [DecidableEq α] {E : Ents α} {a : α} {c : Nat} (h : idxE E a = none) : valE (E ++ [(a, (0 : Int), c)]) a = valE E a := by
  rw [Nep.idx_none h]
  unfold valE
  unfold idxE at h
  rw [List.findIdx?_eq_none_iff] at h
  have : E.find? (fun x => decide (x.1 = a)) = none := List.find?_eq_none.2 fun x hx => by have := h x hx; simpa using this
  rw [List.find?_append, this]
  simp
end Go.Nep
