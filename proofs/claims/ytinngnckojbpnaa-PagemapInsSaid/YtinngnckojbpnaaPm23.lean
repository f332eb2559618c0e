import Derived.Test.YtinngnckojbpnaaPm22
/-! pagemap: the document's list and a map's rows, held against each other. -/
namespace Go.Proofs.Ytinngnckojbpnaa
open Go.Nep
set_option maxRecDepth 100000
set_option linter.unusedVariables false
set_option linter.unusedSimpArgs false
set_option maxHeartbeats 1600000

theorem cell_ext {a b : Cell} (h1 : a.ns = b.ns) (h2 : a.lba = b.lba) (h3 : a.s = b.s) : a = b := by cases a; cases b; simp at h1 h2 h3; simp [h1, h2, h3]
def Cell.key (c : Cell) : Int × Int := (c.ns, c.lba)
/-- a cell of a map's rows -/
def InM (f : Nat → List (Option Spot)) (c : Cell) : Prop := 0 ≤ c.ns ∧ c.ns < 4 ∧ 0 ≤ c.lba ∧ (f c.ns.toNat)[c.lba.toNat]? = some (some c.s)
structure Rel (f : Nat → List (Option Spot)) (cs : List Cell) : Prop where
  keys : (cs.map Cell.key).Nodup
  mem : ∀ c, c ∈ cs ↔ InM f c

def cellsL (k : Int) : Nat → List (Option Spot) → List Cell
  | _, [] => []
  | i, none :: r => cellsL k (i + 1) r
  | i, some s :: r => ⟨k, i, s⟩ :: cellsL k (i + 1) r
theorem mem_cellsL (k : Int) (c : Cell) : ∀ (l : List (Option Spot)) (i : Nat), c ∈ cellsL k i l ↔ c.ns = k ∧ ∃ j : Nat, c.lba = i + j ∧ l[j]? = some (some c.s) := by
  intro l
  induction l with
  | nil => intro i; simp [cellsL]
  | cons x r ih =>
    intro i
    have hstep : (∃ j : Nat, c.lba = i + j ∧ (x :: r)[j]? = some (some c.s)) ↔ (c.lba = i ∧ x = some c.s) ∨ ∃ j : Nat, c.lba = (i + 1 : Nat) + j ∧ r[j]? = some (some c.s) := by
      constructor
      · rintro ⟨j, h1, h2⟩
        cases j with
        | zero => simp at h1 h2; exact .inl ⟨h1, h2⟩
        | succ j => simp at h2; exact .inr ⟨j, by omega, h2⟩
      · rintro (⟨h1, h2⟩ | ⟨j, h1, h2⟩)
        · exact ⟨0, by omega, by simp [h2]⟩
        · exact ⟨j + 1, by omega, by simpa using h2⟩
    rw [hstep]
    cases x with
    | none => simp [cellsL, ih]
    | some s =>
      simp only [cellsL, List.mem_cons, ih]
      constructor
      · rintro (h | ⟨h1, h2⟩)
        · subst h; exact ⟨rfl, .inl ⟨rfl, rfl⟩⟩
        · exact ⟨h1, .inr h2⟩
      · rintro ⟨h1, ⟨h2, h3⟩ | h2⟩
        · left; cases c; simp at h1 h2 h3 ⊢; exact ⟨h1, h2, h3.symm⟩
        · exact .inr ⟨h1, h2⟩
theorem cellsL_lba (k : Int) (l : List (Option Spot)) (i : Nat) {c : Cell} (h : c ∈ cellsL k i l) : (i : Int) ≤ c.lba := by
  obtain ⟨_, j, h1, _⟩ := (mem_cellsL k c l i).1 h
  omega
theorem cellsL_keys (k : Int) : ∀ (l : List (Option Spot)) (i : Nat), ((cellsL k i l).map Cell.key).Nodup := by
  intro l
  induction l with
  | nil => intro i; simp [cellsL]
  | cons x r ih =>
    intro i
    cases x with
    | none => exact ih _
    | some s =>
      simp only [cellsL, List.map_cons, List.nodup_cons]
      refine ⟨fun h => ?_, ih _⟩
      obtain ⟨c, hc, hk⟩ := List.mem_map.1 h
      have h1 := cellsL_lba k r (i + 1) hc
      simp only [Cell.key, Prod.mk.injEq] at hk
      omega
def allC (f : Nat → List (Option Spot)) : List Cell := cellsL 0 0 (f 0) ++ cellsL 1 0 (f 1) ++ cellsL 2 0 (f 2) ++ cellsL 3 0 (f 3)
theorem mem_allC (f : Nat → List (Option Spot)) (c : Cell) : c ∈ allC f ↔ InM f c := by
  have e : ∀ (k : Nat) (z : Int), z = k → (c ∈ cellsL z 0 (f k) ↔ c.ns = z ∧ 0 ≤ c.lba ∧ (f k)[c.lba.toNat]? = some (some c.s)) := by
    intro k z hz
    rw [mem_cellsL]
    constructor
    · rintro ⟨h1, j, h2, h3⟩
      have : c.lba.toNat = j := by omega
      exact ⟨h1, by omega, by rw [this]; exact h3⟩
    · rintro ⟨h1, h2, h3⟩
      exact ⟨h1, c.lba.toNat, by omega, h3⟩
  unfold allC
  simp only [List.mem_append]
  rw [e 0 0 rfl, e 1 1 rfl, e 2 2 rfl, e 3 3 rfl]
  unfold InM
  constructor
  · rintro (((⟨h1, h2, h3⟩ | ⟨h1, h2, h3⟩) | ⟨h1, h2, h3⟩) | ⟨h1, h2, h3⟩) <;> (rw [h1]; exact ⟨by omega, by omega, h2, h3⟩)
  · rintro ⟨h1, h2, h3, h4⟩
    rcases (by omega : c.ns = 0 ∨ c.ns = 1 ∨ c.ns = 2 ∨ c.ns = 3) with h | h | h | h <;> rw [h] at h4
    · exact .inl (.inl (.inl ⟨h, h3, h4⟩))
    · exact .inl (.inl (.inr ⟨h, h3, h4⟩))
    · exact .inl (.inr ⟨h, h3, h4⟩)
    · exact .inr ⟨h, h3, h4⟩
theorem nodup_of_keys {cs : List Cell} (h : (cs.map Cell.key).Nodup) : cs.Nodup := by
  unfold List.Nodup at *
  rw [List.pairwise_map] at h
  exact h.imp fun h1 e => h1 (by rw [e])
theorem allC_keys (f : Nat → List (Option Spot)) : ((allC f).map Cell.key).Nodup := by
  unfold allC
  simp only [List.map_append]
  have hd : ∀ (a b : Int) (l l' : List (Option Spot)), a ≠ b → ∀ x ∈ (cellsL a 0 l).map Cell.key, ∀ y ∈ (cellsL b 0 l').map Cell.key, x ≠ y := by
    intro a b l l' hab x hx y hy e
    obtain ⟨c, hc, rfl⟩ := List.mem_map.1 hx
    obtain ⟨d, hd, rfl⟩ := List.mem_map.1 hy
    have h1 := ((mem_cellsL a c l 0).1 hc).1
    have h2 := ((mem_cellsL b d l' 0).1 hd).1
    simp only [Cell.key, Prod.mk.injEq] at e
    exact hab (by rw [← h1, ← h2]; exact e.1)
  refine List.nodup_append.2 ⟨List.nodup_append.2 ⟨List.nodup_append.2 ⟨cellsL_keys .., cellsL_keys .., hd _ _ _ _ (by decide)⟩, cellsL_keys .., ?_⟩, cellsL_keys .., ?_⟩
  · intro x hx y hy
    rcases List.mem_append.1 hx with h | h
    · exact hd _ _ _ _ (by decide) x h y hy
    · exact hd _ _ _ _ (by decide) x h y hy
  · intro x hx y hy
    rcases List.mem_append.1 hx with h | h
    · rcases List.mem_append.1 h with h | h
      · exact hd _ _ _ _ (by decide) x h y hy
      · exact hd _ _ _ _ (by decide) x h y hy
    · exact hd _ _ _ _ (by decide) x h y hy
theorem Rel.perm {f : Nat → List (Option Spot)} {cs : List Cell} (h : Rel f cs) : cs.Perm (allC f) :=
  (List.perm_ext_iff_of_nodup (nodup_of_keys h.keys) (nodup_of_keys (allC_keys f))).2 fun c => by rw [h.mem, mem_allC]

/-! ### counts -/
theorem cellsL_refs (q : Pl) (k : Int) : ∀ (l : List (Option Spot)) (i : Nat), (refsD (cellsL k i l) q : Int) = cntL l q := by
  intro l
  induction l with
  | nil => intro i; rfl
  | cons x r ih =>
    intro i
    have h1 := ih (i + 1)
    unfold refsD cntL at *
    cases x with
    | none =>
      simp only [cellsL, List.map_cons, List.sum_cons]
      rw [h1]
      simp [plOf]
    | some s =>
      simp only [cellsL, List.map_cons, List.sum_cons, List.countP_cons]
      have hp : plOf (some s) q = if q = s.place then 1 else 0 := rfl
      rw [hp, ← h1]
      by_cases e : q = s.place
      · subst e; simp; omega
      · rw [if_neg e, if_neg (by simpa using Ne.symm e)]; simp
theorem Rel.refs {f : Nat → List (Option Spot)} {cs : List Cell} (h : Rel f cs) (q : Pl) : (refsD cs q : Int) = cnt f q := by
  have h1 : refsD cs q = refsD (allC f) q := h.perm.countP_eq _
  rw [h1]
  have h2 : refsD (allC f) q = refsD (cellsL 0 0 (f 0)) q + refsD (cellsL 1 0 (f 1)) q + refsD (cellsL 2 0 (f 2)) q + refsD (cellsL 3 0 (f 3)) q := by
    unfold refsD allC
    simp only [List.countP_append]
  rw [h2]
  unfold cnt
  have a0 := cellsL_refs q 0 (f 0) 0
  have a1 := cellsL_refs q 1 (f 1) 0
  have a2 := cellsL_refs q 2 (f 2) 0
  have a3 := cellsL_refs q 3 (f 3) 0
  omega
theorem cellsL_data (ns k : Int) : ∀ (l : List (Option Spot)) (i : Nat), dataD (cellsL k i l) ns = if k = ns then l.countP isData else 0 := by
  intro l
  induction l with
  | nil => intro i; simp [cellsL, dataD]
  | cons x r ih =>
    intro i
    have h1 := ih (i + 1)
    unfold dataD at *
    cases x with
    | none =>
      simp only [cellsL, List.countP_cons]
      rw [h1]
      simp [isData]
    | some s =>
      simp only [cellsL, List.countP_cons, h1]
      by_cases e : k = ns
      · subst e; simp [isData]
      · simp [e]
theorem Rel.data {m : PMx} {cs : List Cell} (h : Rel m.l cs) (ns : Int) : dataD cs ns = dataM m ns := by
  have h1 : dataD cs ns = dataD (allC m.l) ns := h.perm.countP_eq _
  rw [h1]
  have h2 : dataD (allC m.l) ns = dataD (cellsL 0 0 (m.l 0)) ns + dataD (cellsL 1 0 (m.l 1)) ns + dataD (cellsL 2 0 (m.l 2)) ns + dataD (cellsL 3 0 (m.l 3)) ns := by
    unfold dataD allC
    simp only [List.countP_append]
  rw [h2]
  simp only [cellsL_data]
  unfold dataM cellsOf
  by_cases hn : 0 ≤ ns ∧ ns < 4
  · rw [if_pos hn]
    rcases (by omega : ns = 0 ∨ ns = 1 ∨ ns = 2 ∨ ns = 3) with e | e | e | e <;> subst e <;> simp
  · rw [if_neg hn, if_neg (by omega), if_neg (by omega), if_neg (by omega), if_neg (by omega)]
    rfl
theorem Rel.len {f : Nat → List (Option Spot)} {cs : List Cell} (h : Rel f cs) : cs.length ≤ (f 0).length + (f 1).length + (f 2).length + (f 3).length := by
  rw [h.perm.length_eq]
  have e : ∀ (k : Int) (l : List (Option Spot)) (i : Nat), (cellsL k i l).length ≤ l.length := by
    intro k l
    induction l with
    | nil => intro i; simp [cellsL]
    | cons x r ih =>
      intro i
      have := ih (i + 1)
      cases x <;> simp [cellsL] <;> omega
  unfold allC
  simp only [List.length_append]
  have := e 0 (f 0) 0
  have := e 1 (f 1) 0
  have := e 2 (f 2) 0
  have := e 3 (f 3) 0
  omega

/-! ### places -/
theorem placeD_spec (cs : List Cell) (ns lba : Int) : (placeD cs ns lba = -1 ∧ ∀ c ∈ cs, ¬ (c.ns = ns ∧ c.lba = lba)) ∨ ∃ (i : Nat) (c : Cell), placeD cs ns lba = i ∧ cs[i]? = some c ∧ c.ns = ns ∧ c.lba = lba := by
  by_cases h : ∃ c ∈ cs, c.ns = ns ∧ c.lba = lba
  · right
    have hs : (cs.findIdx? (fun c => decide (c.ns = ns ∧ c.lba = lba))).isSome = true := by
      rw [List.findIdx?_isSome, List.any_eq_true]
      obtain ⟨c, hc, h1⟩ := h
      exact ⟨c, hc, decide_eq_true h1⟩
    obtain ⟨i, hi⟩ := Option.isSome_iff_exists.1 hs
    obtain ⟨hlt, hp, _⟩ := List.findIdx?_eq_some_iff_getElem.1 hi
    refine ⟨i, cs[i], ?_, List.getElem?_eq_getElem hlt, by simpa using hp⟩
    unfold placeD
    rw [hi]
  · left
    have h' : ∀ c ∈ cs, ¬ (c.ns = ns ∧ c.lba = lba) := fun c hc h1 => h ⟨c, hc, h1⟩
    exact ⟨placeD_no fun j c hc => h' c (List.mem_of_getElem? hc), h'⟩
theorem Rel.place {m : PMx} {cs : List Cell} (h : Rel m.l cs) (ns lba : Int) : (placeD cs ns lba = -1 ∧ getV m ns lba = none) ∨ ∃ (i : Nat) (c : Cell), placeD cs ns lba = i ∧ cs[i]? = some c ∧ getV m ns lba = some c.s := by
  rcases placeD_spec cs ns lba with ⟨h1, h2⟩ | ⟨i, c, h1, h2, h3, h4⟩
  · refine .inl ⟨h1, ?_⟩
    unfold getV
    split
    · rename_i hl
      cases hx : (m.l ns.toNat)[lba.toNat]? with
      | none => rfl
      | some x =>
        cases x with
        | none => rfl
        | some s =>
          exfalso
          have hns : 0 ≤ ns ∧ ns < 4 := by unfold sizeOf_ at hl; split at hl; assumption; omega
          exact h2 ⟨ns, lba, s⟩ ((h.mem _).2 ⟨hns.1, hns.2, hl.1, hx⟩) ⟨rfl, rfl⟩
    · rfl
  · refine .inr ⟨i, c, h1, h2, ?_⟩
    obtain ⟨a1, a2, a3, a4⟩ := (h.mem c).1 (List.mem_of_getElem? h2)
    rw [h3] at a1 a2 a4
    rw [h4] at a3 a4
    have := (List.getElem?_eq_some_iff.1 a4).1
    unfold getV
    rw [if_pos ⟨a3, by unfold sizeOf_; rw [if_pos ⟨a1, a2⟩]; omega⟩, a4]
    rfl

/-! ### what is gone -/
theorem insP_mem (p q : Pl) (out : List Pl) : q ∈ insP p out ↔ q = p ∨ q ∈ out := by
  induction out with
  | nil => simp [insP]
  | cons x r ih =>
    unfold insP
    split
    · simp only [List.mem_cons, ih]
      constructor
      · rintro (h | h | h); exact .inr (.inl h); exact .inl h; exact .inr (.inr h)
      · rintro (h | h | h); exact .inr (.inl h); exact .inl h; exact .inr (.inr h)
    · simp
theorem insP_asc (p : Pl) (out : List Pl) (h : Asc out) (hp : p ∉ out) : Asc (insP p out) := by
  induction out with
  | nil => simp [insP, Asc]
  | cons x r ih =>
    obtain ⟨h1, h2⟩ := List.pairwise_cons.1 h
    simp only [List.mem_cons, not_or] at hp
    unfold insP
    split
    · rename_i hx
      refine List.pairwise_cons.2 ⟨fun y hy => ?_, ih h2 hp.2⟩
      rcases (insP_mem p y r).1 hy with rfl | h3
      · exact hx
      · exact h1 y h3
    · rename_i hx
      have hpx : aheadP p x = true := by
        rcases ahead_or hx with h3 | h3
        · exact absurd h3.symm hp.1
        · exact h3
      refine List.pairwise_cons.2 ⟨fun y hy => ?_, h⟩
      rcases List.mem_cons.1 hy with rfl | h3
      · exact hpx
      · exact ahead_tr hpx (h1 y h3)
theorem goneL_spec (cb cs : List Cell) : Asc (goneL cb cs) ∧ ∀ q, q ∈ goneL cb cs ↔ refsD cs q ≠ 0 ∧ refsD cb q = 0 := by
  unfold goneL
  suffices h : ∀ out : List Pl, Asc out → Asc (cs.foldl (fun out c => goneStep cb out c.s.place) out) ∧ ∀ q, q ∈ cs.foldl (fun out c => goneStep cb out c.s.place) out ↔ q ∈ out ∨ (refsD cs q ≠ 0 ∧ refsD cb q = 0) by
    obtain ⟨h1, h2⟩ := h [] .nil
    exact ⟨h1, fun q => by rw [h2]; simp⟩
  induction cs with
  | nil => intro out ho; exact ⟨ho, fun q => by simp [refsD]⟩
  | cons c r ih =>
    intro out ho
    have hst : Asc (goneStep cb out c.s.place) ∧ ∀ q, q ∈ goneStep cb out c.s.place ↔ q ∈ out ∨ (q = c.s.place ∧ refsD cb q = 0) := by
      unfold goneStep
      split
      · rename_i h1
        refine ⟨ho, fun q => ⟨.inl, ?_⟩⟩
        rintro (h | ⟨rfl, h⟩)
        · exact h
        · rcases h1 with h2 | h2
          · omega
          · exact h2
      · rename_i h1
        refine ⟨insP_asc _ _ ho fun h => h1 (.inr h), fun q => ?_⟩
        rw [insP_mem]
        constructor
        · rintro (rfl | h)
          · exact .inr ⟨rfl, by have : ¬ 0 < refsD cb c.s.place := fun h => h1 (.inl h); omega⟩
          · exact .inl h
        · rintro (h | ⟨h, _⟩)
          · exact .inr h
          · exact .inl h
    obtain ⟨h1, h2⟩ := ih (goneStep cb out c.s.place) hst.1
    refine ⟨h1, fun q => ?_⟩
    rw [List.foldl_cons, h2, hst.2]
    have hc : refsD (c :: r) q = refsD r q + if c.s.place = q then 1 else 0 := by
      unfold refsD
      rw [List.countP_cons]
      by_cases e : c.s.place = q <;> simp [e]
    rw [hc]
    by_cases e : c.s.place = q
    · rw [if_pos e]
      constructor
      · rintro ((h | ⟨h3, h4⟩) | ⟨h3, h4⟩)
        · exact .inl h
        · exact .inr ⟨by omega, h4⟩
        · exact .inr ⟨by omega, h4⟩
      · rintro (h | ⟨_, h4⟩)
        · exact .inl (.inl h)
        · exact .inl (.inr ⟨e.symm, h4⟩)
    · rw [if_neg e]
      constructor
      · rintro ((h | ⟨h3, h4⟩) | ⟨h3, h4⟩)
        · exact .inl h
        · exact absurd h3.symm e
        · exact .inr ⟨by omega, h4⟩
      · rintro (h | ⟨h3, h4⟩)
        · exact .inl (.inl h)
        · exact .inr ⟨by omega, h4⟩
theorem Rel.gone {f g : Nat → List (Option Spot)} {ca cb : List Cell} (ha : Rel f ca) (hb : Rel g cb) {outs : List Pl} (h : Gone (cnt f) (cnt g) outs) : outs = goneL cb ca := by
  obtain ⟨h1, h2⟩ := goneL_spec cb ca
  refine asc_mem h.asc h1 fun q => ?_
  rw [h.mem, h2]
  have e1 := ha.refs q
  have e2 := hb.refs q
  omega

/-! ### the changes -/
theorem Rel.put {m : PMx} {cs : List Cell} {s : Spot} (h : Rel m.l cs) (hr : rightS m s) (hok : s.head.ok) : Rel (m.mid s s.head.count.toNat).l (putD cs s) := by
  obtain ⟨hkind, c1, c2, c3⟩ := hr
  obtain ⟨hl0, hl1⟩ := hok
  have hns : 0 ≤ s.head.ns ∧ s.head.ns < 4 := by unfold sizeOf_ at c2; split at c2; assumption; omega
  have hsz : sizeOf_ m s.head.ns = (m.l s.head.ns.toNat).length := by unfold sizeOf_; rw [if_pos hns]
  rw [hsz] at c2 c3
  have hkey : ∀ c, (updC s c).key = c.key := fun c => by unfold updC; split <;> rfl
  have hadd : ∀ n : Nat, ∀ c, c ∈ addD cs s n ↔ ∃ j : Nat, j < n ∧ placeD cs s.head.ns (s.head.lba + j) < 0 ∧ c = ⟨s.head.ns, s.head.lba + j, s⟩ := by
    intro n
    induction n with
    | zero => intro c; simp [addD]
    | succ n ih =>
      intro c
      unfold addD
      rw [List.mem_append, ih]
      constructor
      · rintro (⟨j, h1, h2, h3⟩ | h1)
        · exact ⟨j, by omega, h2, h3⟩
        · split at h1
          · rename_i h2
            exact ⟨n, by omega, h2, List.mem_singleton.1 h1⟩
          · simp at h1
      · rintro ⟨j, h1, h2, h3⟩
        rcases Nat.lt_or_ge j n with h4 | h4
        · exact .inl ⟨j, h4, h2, h3⟩
        · obtain rfl : j = n := by omega
          right
          rw [if_pos h2, h3]
          exact List.mem_singleton.2 rfl
  refine ⟨?_, fun c => ?_⟩
  · unfold putD
    rw [List.map_append, List.map_map]
    have e1 : (Cell.key ∘ updC s) = Cell.key := funext hkey
    rw [e1]
    refine List.nodup_append.2 ⟨h.keys, ?_, ?_⟩
    · have : ∀ n : Nat, ((addD cs s n).map Cell.key).Nodup := by
        intro n
        induction n with
        | zero => simp [addD]
        | succ n ih =>
          unfold addD
          rw [List.map_append]
          refine List.nodup_append.2 ⟨ih, by split <;> simp, fun x hx y hy e => ?_⟩
          obtain ⟨c, hc, rfl⟩ := List.mem_map.1 hx
          obtain ⟨d, hd, rfl⟩ := List.mem_map.1 hy
          obtain ⟨j, h1, _, rfl⟩ := (hadd n c).1 hc
          split at hd
          · rw [List.mem_singleton.1 hd] at e
            simp only [Cell.key, Prod.mk.injEq] at e
            omega
          · simp at hd
      exact this _
    · intro x hx y hy e
      obtain ⟨c, hc, rfl⟩ := List.mem_map.1 hx
      obtain ⟨d, hd, rfl⟩ := List.mem_map.1 hy
      obtain ⟨j, h1, h2, rfl⟩ := (hadd _ d).1 hd
      simp only [Cell.key, Prod.mk.injEq] at e
      rcases placeD_spec cs s.head.ns (s.head.lba + j) with ⟨_, h3⟩ | ⟨i, c', h3, _⟩
      · exact h3 c hc e
      · omega
  · have hmid : ∀ k, (m.mid s s.head.count.toNat).l k = if k = s.head.ns.toNat then putL s s.head.lba.toNat s.head.count.toNat (m.l s.head.ns.toNat) else m.l k := fun k => rfl
    unfold putD
    rw [List.mem_append, List.mem_map, hadd]
    unfold InM
    rw [hmid]
    constructor
    · rintro (⟨c0, hc0, rfl⟩ | ⟨j, h1, h2, rfl⟩)
      · obtain ⟨b1, b2, b3, b4⟩ := (h.mem c0).1 hc0
        by_cases hu : (c0.ns = s.head.ns ∧ s.head.lba ≤ c0.lba ∧ c0.lba < s.head.lba + s.head.count) ∧ newer s c0.s = true
        · have : updC s c0 = { c0 with s := s } := by unfold updC; rw [if_pos hu]
          rw [this]
          refine ⟨b1, b2, b3, ?_⟩
          show (if c0.ns.toNat = s.head.ns.toNat then _ else _)[c0.lba.toNat]? = some (some s)
          rw [if_pos (by rw [hu.1.1]), putL_get, if_pos (by omega), ← hu.1.1, b4]
          simp [stepC, hu.2]
        · have : updC s c0 = c0 := by unfold updC; rw [if_neg hu]
          rw [this]
          refine ⟨b1, b2, b3, ?_⟩
          split
          · rename_i e
            have e' : c0.ns = s.head.ns := by omega
            rw [putL_get, ← e, b4]
            split
            · rename_i hin
              have : newer s c0.s = false := by
                cases hn : newer s c0.s with
                | false => rfl
                | true => exact absurd ⟨⟨e', by omega, by omega⟩, hn⟩ hu
              simp [stepC, this]
            · rfl
          · exact b4
      · refine ⟨hns.1, hns.2, by show 0 ≤ s.head.lba + (j : Int); omega, ?_⟩
        show (if s.head.ns.toNat = s.head.ns.toNat then _ else _)[(s.head.lba + (j : Int)).toNat]? = some (some s)
        rw [if_pos rfl, putL_get, if_pos (by omega)]
        obtain ⟨x, hx⟩ : ∃ x, (m.l s.head.ns.toNat)[(s.head.lba + (j : Int)).toNat]? = some x := ⟨_, List.getElem?_eq_getElem (by omega)⟩
        rw [hx]
        cases x with
        | none => rfl
        | some o =>
          exfalso
          rcases placeD_spec cs s.head.ns (s.head.lba + j) with ⟨_, h3⟩ | ⟨i, c', h3, _⟩
          · exact h3 ⟨s.head.ns, s.head.lba + j, o⟩ ((h.mem _).2 ⟨hns.1, hns.2, by show 0 ≤ s.head.lba + (j : Int); omega, hx⟩) ⟨rfl, rfl⟩
          · omega
    · rintro ⟨b1, b2, b3, b4⟩
      by_cases e : c.ns.toNat = s.head.ns.toNat
      · have e' : c.ns = s.head.ns := by omega
        rw [if_pos e, putL_get] at b4
        split at b4
        · rename_i hin
          cases hx : (m.l s.head.ns.toNat)[c.lba.toNat]? with
          | none => rw [hx] at b4; simp at b4
          | some x =>
            rw [hx] at b4
            cases x with
            | none =>
              simp [stepC] at b4
              right
              refine ⟨(c.lba - s.head.lba).toNat, by omega, ?_, ?_⟩
              · rcases placeD_spec cs s.head.ns (s.head.lba + ((c.lba - s.head.lba).toNat : Nat)) with ⟨h3, _⟩ | ⟨i, c', h3, h4, h5, h6⟩
                · omega
                · exfalso
                  obtain ⟨d1, d2, d3, d4⟩ := (h.mem c').1 (List.mem_of_getElem? h4)
                  rw [h5, show c'.lba.toNat = c.lba.toNat by omega, hx] at d4
                  simp at d4
              · exact cell_ext e' (by show c.lba = s.head.lba + (((c.lba - s.head.lba).toNat : Nat) : Int); omega) b4.symm
            | some o =>
              left
              have hin0 : (⟨c.ns, c.lba, o⟩ : Cell) ∈ cs := (h.mem _).2 ⟨b1, b2, b3, by show (m.l c.ns.toNat)[c.lba.toNat]? = _; rw [e']; exact hx⟩
              refine ⟨_, hin0, ?_⟩
              unfold updC
              by_cases hn : newer s o = true
              · simp [stepC, hn] at b4
                rw [if_pos ⟨⟨e', by show s.head.lba ≤ c.lba; omega, by show c.lba < _; omega⟩, hn⟩]
                exact cell_ext rfl rfl b4
              · simp [stepC, hn] at b4
                rw [if_neg fun h9 => hn h9.2]
                exact cell_ext rfl rfl b4
        · rename_i hin
          left
          have hin0 : c ∈ cs := (h.mem _).2 ⟨b1, b2, b3, by rw [e']; exact b4⟩
          refine ⟨c, hin0, ?_⟩
          unfold updC
          rw [if_neg]
          rintro ⟨⟨_, h2, h3⟩, _⟩
          exact hin (by omega)
      · rw [if_neg e] at b4
        left
        refine ⟨c, (h.mem _).2 ⟨b1, b2, b3, b4⟩, ?_⟩
        unfold updC
        rw [if_neg]
        rintro ⟨⟨h2, _⟩, _⟩
        exact e (by rw [h2])

theorem Rel.drop {m : PMx} {cs : List Cell} {ns : Int} (h : Rel m.l cs) (hns : 0 ≤ ns ∧ ns < 4) : Rel (m.less ns.toNat).l (dropD cs ns) := by
  refine ⟨List.Nodup.sublist (List.filter_sublist.map _) h.keys, fun c => ?_⟩
  unfold dropD
  rw [List.mem_filter, h.mem]
  unfold InM
  show _ ↔ 0 ≤ c.ns ∧ c.ns < 4 ∧ 0 ≤ c.lba ∧ (if c.ns.toNat = ns.toNat then [] else m.l c.ns.toNat)[c.lba.toNat]? = _
  constructor
  · rintro ⟨⟨h1, h2, h3, h4⟩, h5⟩
    have : ¬ c.ns = ns := by simpa using h5
    refine ⟨h1, h2, h3, ?_⟩
    rw [if_neg (by omega)]; exact h4
  · rintro ⟨h1, h2, h3, h4⟩
    split at h4
    · simp at h4
    · exact ⟨⟨h1, h2, h3, h4⟩, by simp; omega⟩

theorem Rel.move {m : PMx} {cs : List Cell} (h : Rel m.l cs) (a b : Pl) (o : Hd) : Rel (mvF a b o m.l) (moveD cs a b o) := by
  have hkey : ∀ c, (moveC a b o c).key = c.key := fun c => by unfold moveC; split <;> rfl
  have hmv : ∀ c, moveC a b o c = { c with s := mvS a b o c.s } := fun c => by unfold moveC mvS; split <;> rfl
  refine ⟨?_, fun c => ?_⟩
  · unfold moveD
    rw [List.map_map, show (Cell.key ∘ moveC a b o) = Cell.key from funext hkey]
    exact h.keys
  · unfold moveD
    rw [List.mem_map]
    unfold InM
    constructor
    · rintro ⟨c0, hc0, rfl⟩
      obtain ⟨b1, b2, b3, b4⟩ := (h.mem c0).1 hc0
      rw [hmv]
      refine ⟨b1, b2, b3, ?_⟩
      show (mvF a b o m.l c0.ns.toNat)[c0.lba.toNat]? = some (some (mvS a b o c0.s))
      unfold mvF
      rw [if_pos (by omega), List.getElem?_map, b4]
      rfl
    · rintro ⟨b1, b2, b3, b4⟩
      unfold mvF at b4
      rw [if_pos (by omega), List.getElem?_map] at b4
      cases hx : (m.l c.ns.toNat)[c.lba.toNat]? with
      | none => rw [hx] at b4; simp at b4
      | some x =>
        rw [hx] at b4
        cases x with
        | none => simp [mvC] at b4
        | some s0 =>
          simp [mvC] at b4
          refine ⟨⟨c.ns, c.lba, s0⟩, (h.mem _).2 ⟨b1, b2, b3, hx⟩, ?_⟩
          rw [hmv]
          cases c; simp at b4 ⊢; exact b4
end Go.Proofs.Ytinngnckojbpnaa
