import Derived.Test.YtinngnckojbpnaaNepTab
/-! What a region comes to, whichever way it goes: one truth value. -/
namespace Go.Nep
set_option linter.unusedVariables false
set_option linter.unusedSimpArgs false

def KA (pf pf' : PF) : List Nat → Prop
  | [] => True
  | t :: r => PF.get pf' t = PF.get pf t ∧ KA pf pf' r

theorem KA.get {pf pf' : PF} : ∀ {l : List Nat}, KA pf pf' l → ∀ t ∈ l, PF.get pf' t = PF.get pf t := by
  intro l
  induction l with
  | nil => intro _ t h; simp at h
  | cons x r ih =>
    rintro ⟨h1, h2⟩ t ht
    rcases List.mem_cons.1 ht with rfl | h
    · exact h1
    · exact ih h2 t h

theorem get_restrict2 {keep : List Nat} {pf : PF} {s : Nat} {v : Value} (h : PF.get (restrict keep pf) s = some v) : s ∈ keep ∧ PF.get pf s = some v := by
  refine ⟨?_, get_restrict h⟩
  induction keep with
  | nil => simp [restrict, PF.get] at h
  | cons k r ih =>
    unfold restrict at h ih
    rw [List.filterMap_cons] at h
    cases hk : PF.get pf k with
    | none => simp [hk] at h; exact List.mem_cons_of_mem _ (ih h)
    | some u =>
      simp [hk, PF.get] at h
      by_cases e : k = s
      · subst e; simp
      · have : Nat.beq k s = false := beq_no e
        simp [this] at h
        exact List.mem_cons_of_mem _ (ih h)

theorem W_boolR {Pr : Program} {N : Nat} {Q : Exit → PF → World → Prop} {pf : PF} {w : World} {w0 : World} {L : List Asn} {c : Code} (s : Nat) (P : Prop) (keep : List Nat) (H : St w0 w L)
    (h : W Pr N c (thenQ (fun pf' w' => ∃ b : Bool, (b = true ↔ P) ∧ PF.get pf' s = some (.bool b) ∧ KA pf pf' keep ∧ St w0 w' L) Q) pf w)
    (k : ∀ b w', (b = true ↔ P) → St w0 w' L → Q .normal ((s, .bool b) :: restrict keep pf) w') : W Pr N c Q pf w := fun a ha =>
  wp_mono (h a ha) fun e a w ⟨pf1, hg, q⟩ => by
    cases e with
    | normal =>
      obtain ⟨b, hb, hs, hk, hS⟩ := q
      refine ⟨_, ⟨hg.size, hg.defers, fun t v hv => ?_⟩, k b w hb hS⟩
      unfold PF.get at hv
      by_cases e : s = t
      · subst e
        simp at hv
        subst hv
        exact hg.sub _ _ hs
      · have : Nat.beq s t = false := beq_no e
        simp only [this, cond_false] at hv
        obtain ⟨h1, h2⟩ := get_restrict2 hv
        exact hg.sub _ _ (by rw [hk.get t h1]; exact h2)
    | _ => exact ⟨pf1, hg, q⟩
end Go.Nep
