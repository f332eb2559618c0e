import Derived.Test.YtinngnckojbpnaaPm4
/-! pagemap: what a Put changes, in plain words. -/
namespace Go.Proofs.Ytinngnckojbpnaa
open Go.Nep
set_option maxRecDepth 100000
set_option linter.unusedVariables false
set_option linter.unusedSimpArgs false

/-- does a cell speak of a place? -/
def plOf (c : Option Spot) (q : Pl) : Int := match c with
  | none => 0
  | some s => if q = s.place then 1 else 0
def cntL (l : List (Option Spot)) (q : Pl) : Int := (l.map fun c => plOf c q).sum
/-- how many cells speak of a place -/
def cnt (f : Nat → List (Option Spot)) (q : Pl) : Int := cntL (f 0) q + cntL (f 1) q + cntL (f 2) q + cntL (f 3) q

theorem plOf_le (c : Option Spot) (q : Pl) : 0 ≤ plOf c q ∧ plOf c q ≤ 1 := by
  unfold plOf
  cases c with
  | none => simp
  | some s => by_cases h : q = s.place <;> simp [h]
theorem cntL_le (l : List (Option Spot)) (q : Pl) : 0 ≤ cntL l q ∧ cntL l q ≤ l.length := by
  unfold cntL
  induction l with
  | nil => simp
  | cons c r ih =>
    have := plOf_le c q
    simp only [List.map_cons, List.sum_cons, List.length_cons]
    omega
theorem cntL_set (l : List (Option Spot)) (i : Nat) (c : Option Spot) (q : Pl) {o : Option Spot} (h : l[i]? = some o) : cntL (l.set i c) q = cntL l q - plOf o q + plOf c q := by
  unfold cntL
  induction l generalizing i with
  | nil => simp at h
  | cons x r ih =>
    cases i with
    | zero =>
      simp at h; subst h
      simp only [List.set_cons_zero, List.map_cons, List.sum_cons]
      omega
    | succ i =>
      simp at h
      have := ih i h
      simp only [List.set_cons_succ, List.map_cons, List.sum_cons]
      omega
theorem cntL_get (l : List (Option Spot)) (i : Nat) {s : Spot} (h : l[i]? = some (some s)) : 1 ≤ cntL l s.place := by
  have h1 := cntL_set l i none s.place h
  have h2 := (cntL_le (l.set i none) s.place).1
  have h3 : plOf (some s) s.place = 1 := by simp [plOf]
  have h4 : plOf none s.place = 0 := rfl
  omega
theorem cnt_le (f : Nat → List (Option Spot)) (q : Pl) : 0 ≤ cnt f q ∧ cnt f q ≤ (f 0).length + (f 1).length + (f 2).length + (f 3).length := by
  have h0 := cntL_le (f 0) q
  have h1 := cntL_le (f 1) q
  have h2 := cntL_le (f 2) q
  have h3 := cntL_le (f 3) q
  unfold cnt
  omega
/-- one namespace's cells -/
def atK (f : Nat → List (Option Spot)) (k : Nat) (l : List (Option Spot)) : Nat → List (Option Spot) := fun j => if j = k then l else f j
theorem cnt_atK (f : Nat → List (Option Spot)) (k : Nat) (hk : k < 4) (l : List (Option Spot)) (q : Pl) : cnt (atK f k l) q = cnt f q - cntL (f k) q + cntL l q := by
  obtain rfl | rfl | rfl | rfl : k = 0 ∨ k = 1 ∨ k = 2 ∨ k = 3 := by omega
  all_goals
    simp only [cnt, atK]
    simp (decide := true) only [if_true, if_false]
    omega
theorem cntL_cnt (f : Nat → List (Option Spot)) (k : Nat) (hk : k < 4) (q : Pl) : cntL (f k) q ≤ cnt f q := by
  have h0 := cntL_le (f 0) q
  have h1 := cntL_le (f 1) q
  have h2 := cntL_le (f 2) q
  have h3 := cntL_le (f 3) q
  obtain rfl | rfl | rfl | rfl : k = 0 ∨ k = 1 ∨ k = 2 ∨ k = 3 := by omega
  all_goals
    unfold cnt
    omega

/-- a cell, behind a spot that speaks of it -/
def stepC (s : Spot) : Option Spot → Option Spot
  | none => some s
  | some o => if newer s o then some s else some o
def putL (s : Spot) (lba : Nat) : Nat → List (Option Spot) → List (Option Spot)
  | 0, l => l
  | i + 1, l => (putL s lba i l).modify (lba + i) (stepC s)

theorem putL_len (s : Spot) (lba i : Nat) (l : List (Option Spot)) : (putL s lba i l).length = l.length := by
  induction i with
  | zero => rfl
  | succ i ih => simp [putL, ih]
theorem putL_get (s : Spot) (lba i : Nat) (l : List (Option Spot)) (j : Nat) : (putL s lba i l)[j]? = if lba ≤ j ∧ j < lba + i then l[j]?.map (stepC s) else l[j]? := by
  induction i with
  | zero => simp only [putL]; rw [if_neg (by omega)]
  | succ i ih =>
    simp only [putL, List.getElem?_modify, ih]
    by_cases h1 : lba + i = j
    · subst h1
      rw [if_neg (by omega), if_pos (by omega)]
      simp
    · by_cases h2 : lba ≤ j ∧ j < lba + i
      · rw [if_pos h2, if_pos (by omega)]
        simp [h1]
      · rw [if_neg h2, if_neg (by omega)]
        simp [h1]
theorem modify_set {α : Type} (l : List α) (i : Nat) (f : α → α) {a : α} (h : l[i]? = some a) : l.modify i f = l.set i (f a) := by
  apply List.ext_getElem?
  intro j
  rw [List.getElem?_modify, List.getElem?_set]
  obtain ⟨hi, ha⟩ := List.getElem?_eq_some_iff.1 h
  by_cases e : i = j
  · subst e; simp [hi, ha]
  · simp [e]

/-- what is gone, so far -/
structure OutsOK (C0 C : Pl → Int) (sp : Pl) (outs : List Pl) : Prop where
  nodup : outs.Nodup
  mem : ∀ q, q ∈ outs ↔ C0 q ≠ 0 ∧ C q = 0
  mine : C0 sp ≤ C sp

theorem OutsOK.start {C0 : Pl → Int} {sp : Pl} : OutsOK C0 C0 sp [] := ⟨by simp, fun q => by simp, Int.le_refl _⟩
theorem OutsOK.first {C0 C C' : Pl → Int} {sp : Pl} {outs : List Pl} (h : OutsOK C0 C sp outs) (h0 : ∀ q, 0 ≤ C0 q) (h1 : ∀ q, 0 ≤ C q) (hC : ∀ q, C' q = C q + if q = sp then 1 else 0) : OutsOK C0 C' sp outs := by
  refine ⟨h.nodup, fun q => ?_, ?_⟩
  · rw [h.mem, hC]
    have a0 := h0 q
    have a1 := h1 q
    have a2 := h.mine
    by_cases e : q = sp
    · subst e; simp only [if_true]; omega
    · simp only [e, if_false]; omega
  · have := h.mine; rw [hC]; simp only [if_true]; omega
theorem OutsOK.other {C0 C C' : Pl → Int} {sp op : Pl} {outs : List Pl} (h : OutsOK C0 C sp outs) (h0 : ∀ q, 0 ≤ C0 q) (h1 : ∀ q, 0 ≤ C q) (hC : ∀ q, C' q = C q + (if q = sp then 1 else 0) - if q = op then 1 else 0) (hop : 1 ≤ C op) (hop0 : C0 op ≠ 0) :
    OutsOK C0 C' sp (outs ++ if C op + (if op = sp then 1 else 0) = 1 then [op] else []) := by
  have a2 := h.mine
  have hno : op ∉ outs := fun hm => by have := ((h.mem op).1 hm).2; omega
  refine ⟨?_, fun q => ?_, ?_⟩
  · by_cases hz : C op + (if op = sp then 1 else 0) = 1
    · rw [if_pos hz]
      refine List.nodup_append.2 ⟨h.nodup, by simp, fun x hx y hy e => ?_⟩
      simp at hy
      subst hy; subst e
      exact hno hx
    · rw [if_neg hz]; simpa using h.nodup
  · have a0 := h0 q
    have a1 := h1 q
    have hm := h.mem q
    have hq := hC q
    by_cases e : q = op
    · subst e
      simp only [if_true] at hq
      by_cases e2 : q = sp
      · subst e2
        simp only [if_true] at hq ⊢
        rw [if_neg (by omega)]
        simp only [List.append_nil]
        rw [hm]; omega
      · simp only [e2, if_false] at hq ⊢
        by_cases e3 : C q = 1
        · simp [e3]; omega
        · have : ¬ C q + 0 = 1 := by omega
          simp only [this, if_false, List.append_nil]
          rw [hm]; omega
    · simp only [e, if_false] at hq
      have : q ∈ outs ++ (if C op + (if op = sp then 1 else 0) = 1 then [op] else []) ↔ q ∈ outs := by
        by_cases hz : C op + (if op = sp then 1 else 0) = 1
        · rw [if_pos hz]; simp [e]
        · rw [if_neg hz]; simp
      rw [this, hm]
      by_cases e2 : q = sp
      · subst e2; simp only [if_true] at hq; omega
      · simp only [e2, if_false] at hq; omega
  · have := hC sp
    simp only [if_true] at this
    by_cases e : sp = op
    · simp only [e, if_true] at *; omega
    · simp only [e, if_false] at this; omega

/-- a map of which some sectors' cells are changed -/
def PMx.withL (m : PMx) (k : Nat) (l : List (Option Spot)) : PMx := { m with l := atK m.l k l }

theorem withL_at (m : PMx) (k : Nat) (hk : k < 4) {b : Nat} (hb : m.bo k = some b) (l : List (Option Spot)) (hl : l.length = (m.l k).length) (L : List Asn) :
    (m.at_ ++ L).set (2 + k) (Cs b (l.flatMap encC).toArray 76) = (m.withL k l).at_ ++ L := by
  have hvs : (m.withL k l).vs = m.vs := by
    obtain rfl | rfl | rfl | rfl : k = 0 ∨ k = 1 ∨ k = 2 ∨ k = 3 := by omega
    all_goals
      simp only [PMx.vs, PMx.withL, atK]
      simp (decide := true) only [if_true, if_false, hl]
  have hrow : Cs b (l.flatMap encC).toArray 76 = CRow (m.bo k) l := by rw [hb]; rfl
  rw [hrow]
  unfold PMx.at_
  rw [hvs]
  obtain rfl | rfl | rfl | rfl : k = 0 ∨ k = 1 ∨ k = 2 ∨ k = 3 := by omega
  all_goals rfl
end Go.Proofs.Ytinngnckojbpnaa
