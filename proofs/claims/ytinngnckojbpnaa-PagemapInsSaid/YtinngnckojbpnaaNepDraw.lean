import Derived.Test.YtinngnckojbpnaaNepStep
/-! A region whose order is open: one order, and what must be the same in the others. -/
namespace Go.Nep
set_option linter.unusedVariables false
set_option linter.unusedSimpArgs false

/-- an order; where two or more that act are open to be next, one branch for each -/
inductive Plan where
  | nil
  | none
  | p (i : Nat) (r : Plan)
  | e (i : Nat) (rc : List Nat) (r : Plan) (o : Plan)

def DD (P : Program) (ops : Array Oper) : Plan → List (Nat × (World → Prop)) → (PF → World → Prop) → PF → World → Prop
  | .nil, _, K, pf, w => K pf w
  | .none, _, _, _, _ => True
  | .p i r, pend, K, pf, w => ∃ (o : Oper) (v : Value) (c : World → Prop), ops[i]? = some o ∧ c w ∧ (∀ w2, c w2 → XG P ops pf o w2 fun v' w' => v' = v ∧ w' = w2) ∧ DD P ops r ((i, c) :: pend) K (put pf o.dst v) w
  | .e i rc r a, pend, K, pf, w => (∃ o : Oper, ops[i]? = some o ∧ XG P ops pf o w fun v w' => (∀ p ∈ pend, rc.contains p.1 = true → p.2 w') ∧ DD P ops r pend K (put pf o.dst v) w') ∧ DD P ops a pend K pf w

def edgesOf (ops : Array Oper) (i : Nat) : List Nat :=
  match ops[i]? with
  | some o => (o.after.toList.filter (Region.binds .any)).map (·.on)
  | none => []

def reach (ops : Array Oper) : Nat → Nat → Nat → Bool
  | 0, _, _ => false
  | f + 1, x, y => (edgesOf ops x).any fun e => e == y || reach ops f e y

theorem reach_in {ops : Array Oper} {S : Nat → Prop} (hc : ∀ x, S x → ∀ e ∈ edgesOf ops x, S e) : ∀ (f x y : Nat), (∀ e ∈ edgesOf ops x, S e) → reach ops f x y = true → S y := by
  intro f
  induction f with
  | zero => intro x y _ h; simp [reach] at h
  | succ f ih =>
    intro x y hx h
    simp only [reach, List.any_eq_true, Bool.or_eq_true, beq_iff_eq] at h
    obtain ⟨e, he, h⟩ := h
    rcases h with rfl | h
    · exact hx _ he
    · exact ih e y (hc e (hx e he)) h

def looksOf (ops : Array Oper) (i : Nat) : List Nat := match ops[i]? with | some o => o.looksAt ops | none => []
def dstOf (ops : Array Oper) (i : Nat) : Option Nat := (ops[i]?).bind (·.dst)

def Plan.heads : Plan → List Nat
  | .e i _ _ a => i :: a.heads
  | _ => []
/-- those of an order that act, or that come behind all -/
def effOf : Plan → Nat → Bool
  | .nil, _ => false
  | .none, _ => false
  | .p _ r, k => effOf r k
  | .e i _ r a, k => Nat.beq i k || effOf r k || effOf a k

/-- each one behind what it depends on; where one that acts is next, all others that are left depend on one of those that are open to be next; of those ahead of it that it does not depend on it says that they are asked again -/
def planGo (ops : Array Oper) (E : Nat → Bool) : Bool → List (Nat × Bool) → Plan → Bool
  | alt, pre, .nil => !alt && (List.range ops.size).all fun i => (pre.map (·.1)).contains i
  | alt, _, .none => alt
  | alt, pre, .p i r => !alt && ((edgesOf ops i).all (fun e => (pre.map (·.1)).contains e) && (!(pre.map (·.1)).contains i && (!E i && planGo ops E false (pre ++ [(i, false)]) r)))
  | alt, pre, .e i rc r a => (alt || (List.range ops.size).all fun x => (pre.map (·.1)).contains x || (i :: a.heads).contains x || (i :: a.heads).any fun h => reach ops ops.size x h) &&
    ((edgesOf ops i).all (fun e => (pre.map (·.1)).contains e) && (!(pre.map (·.1)).contains i && (E i && (pre.all (fun y => y.2 || reach ops ops.size i y.1 || rc.contains y.1) && (planGo ops E false (pre ++ [(i, true)]) r && planGo ops E true pre a)))))

def planOk (N : Nat) (ops : Array Oper) (plan : Plan) : Bool :=
  planGo ops (effOf plan) false [] plan &&
  (List.range ops.size).all (fun i =>
    (edgesOf ops i).all (fun e => Nat.blt e i) &&
    (match dstOf ops i with | some k => Nat.blt k N | none => true) &&
    (List.range ops.size).all (fun j =>
      (i == j || (dstOf ops i).isNone || dstOf ops i != dstOf ops j) &&
      (match dstOf ops j with | some s => !(looksOf ops i).contains s || reach ops ops.size i j || (effOf plan j && (i == j || reach ops ops.size j i)) | none => true)))

section
variable {P : Program} {ops : Array Oper} {N : Nat} {E : Nat → Bool}

structure PlanFacts (N : Nat) (ops : Array Oper) (E : Nat → Bool) : Prop where
  less : ∀ i, i < ops.size → ∀ e ∈ edgesOf ops i, e < i
  dst : ∀ i k, dstOf ops i = some k → k < N
  apart : ∀ i j k, i < ops.size → j < ops.size → dstOf ops i = some k → dstOf ops j = some k → i = j
  ssa : ∀ i j s, i < ops.size → j < ops.size → dstOf ops j = some s → s ∈ looksOf ops i → reach ops ops.size i j = true ∨ (E j = true ∧ (i = j ∨ reach ops ops.size j i = true))

theorem dstOf_lt {i k : Nat} (h : dstOf ops i = some k) : i < ops.size := by
  unfold dstOf at h
  rcases Nat.lt_or_ge i ops.size with h' | h'
  · exact h'
  · simp [h'] at h

theorem planOk_facts {plan : Plan} (h : planOk N ops plan = true) : PlanFacts N ops (effOf plan) ∧ planGo ops (effOf plan) false [] plan = true := by
  unfold planOk at h
  simp only [Bool.and_eq_true, List.all_eq_true, List.mem_range, beq_iff_eq] at h
  obtain ⟨h2, h3⟩ := h
  refine ⟨⟨?_, ?_, ?_, ?_⟩, h2⟩
  · intro i hi e he
    have := (h3 i hi).1.1 e he
    simpa using this
  · intro i k hk
    have := (h3 i (dstOf_lt hk)).1.2
    simp only [hk] at this
    simpa using this
  · intro i j k hi hj h4 h5
    have := ((h3 i hi).2 j hj).1
    simp only [Bool.or_eq_true, beq_iff_eq] at this
    rcases this with (h | h) | h
    · exact h
    · simp [h4] at h
    · simp [h4, h5] at h
  · intro i j s hi hj h4 h5
    have := ((h3 i hi).2 j hj).2
    simp only [h4, Bool.or_eq_true] at this
    rcases this with (h | h) | h
    · simp at h; exact absurd h5 h
    · exact .inl h
    · simp only [Bool.and_eq_true, Bool.or_eq_true, beq_iff_eq] at h
      exact .inr h

theorem get_put_ne {pf : PF} {d : Option Nat} {v : Value} {s : Nat} (h : d ≠ some s) : PF.get (put pf d v) s = PF.get pf s := by
  cases d with
  | none => rfl
  | some k =>
    have : ¬ k = s := fun e => h (by rw [e])
    simp [put, PF.get, beq_no this]
theorem get_put_eq {pf : PF} {v : Value} {s : Nat} : PF.get (put pf (some s) v) s = some v := by
  simp [put, PF.get]

/-- what is known in the midst of a region -/
structure Mid (P : Program) (N : Nat) (ops : Array Oper) (E : Nat → Bool) (pre : List (Nat × Bool)) (pend : List (Nat × (World → Prop))) (pf : PF) (listed : Array Bool) (a : Act) (w : World) : Prop where
  size : a.tmps.size = N
  defers : a.defers = []
  lsize : listed.size = ops.size
  preE : ∀ x ∈ pre, x.2 = E x.1
  inPre : ∀ i, listed.getD i false = true → i ∈ pre.map (·.1)
  effs : ∀ i, (i, true) ∈ pre → listed.getD i false = true
  closed : ∀ i, listed.getD i false = true → ∀ e ∈ edgesOf ops i, listed.getD e false = true
  preClosed : ∀ i ∈ pre.map (·.1), ∀ e ∈ edgesOf ops i, e ∈ pre.map (·.1)
  frame : ∀ s v, PF.get pf s = some v → (∃ i, i ∈ pre.map (·.1) ∧ listed.getD i false = false ∧ dstOf ops i = some s) ∨ a.tmps[s]? = some v
  open_ : ∀ i ∈ pre.map (·.1), listed.getD i false = false → ∃ (o : Oper) (v : Value) (pi : PF) (c : World → Prop), ops[i]? = some o ∧ (i, c) ∈ pend ∧ c w ∧ (∀ w2, c w2 → XG P ops pi o w2 fun v' w' => v' = v ∧ w' = w2) ∧
    (∀ s, o.dst = some s → PF.get pf s = some v) ∧ ∀ s ∈ o.looksAt ops, PF.get pi s = PF.get pf s

theorem looksOf_eq {i : Nat} {o : Oper} (h : ops[i]? = some o) : looksOf ops i = o.looksAt ops := by simp [looksOf, h]
theorem dstOf_eq {i : Nat} {o : Oper} (h : ops[i]? = some o) : dstOf ops i = o.dst := by simp [dstOf, h]

theorem Mid.agree {pre : List (Nat × Bool)} {pend : List (Nat × (World → Prop))} {pf : PF} {listed : Array Bool} {a : Act} {w : World} (hm : Mid P N ops E pre pend pf listed a w) (hf : PlanFacts N ops E) {i : Nat} {o : Oper} (hi : ops[i]? = some o)
    (hready : ∀ e ∈ edgesOf ops i, listed.getD e false = true) {s : Nat} {v : Value} (hs : s ∈ o.looksAt ops) (hv : PF.get pf s = some v) : a.tmps[s]? = some v := by
  rcases hm.frame s v hv with ⟨j, hj, hl, hd⟩ | h
  · exfalso
    have hil : i < ops.size := (Array.getElem?_eq_some_iff.1 hi).1
    rcases hf.ssa i j s hil (dstOf_lt hd) hd (by rw [looksOf_eq hi]; exact hs) with hr | ⟨hE, _⟩
    · have := reach_in (S := fun x => listed.getD x false = true) (fun x hx => hm.closed x hx) _ _ _ hready hr
      rw [hl] at this
      exact absurd this (by simp)
    · obtain ⟨⟨j', b⟩, hj1, rfl⟩ := List.mem_map.1 hj
      have hb := hm.preE _ hj1
      simp only at hb hE hl
      rw [hE] at hb
      subst hb
      rw [hm.effs _ hj1] at hl
      exact absurd hl (by simp)
  · exact h

theorem XG.run {pi pf : PF} {o : Oper} {a : Act} {w : World} {K : Value → World → Prop} {next : Act → World → Prop} {Q : Exit → Act → World → Prop} {i : Nat} (hi : ops[i]? = some o) (h : XG P ops pi o w K)
    (hsame : ∀ s ∈ o.looksAt ops, PF.get pi s = PF.get pf s) (hag : ∀ s ∈ o.looksAt ops, ∀ v, PF.get pf s = some v → a.tmps[s]? = some v) (hn : ∀ v w, K v w → next (a.put o.dst v) w) : wpOp P ops Q i next a w := by
  have := XG.wp (next := next) (Q := Q) (a := a) h ?_ ?_ hn
  · unfold wpOp
    simp only [hi]
    split
    · rename_i hw; rw [if_pos hw] at this; exact .inl this
    · rename_i hw; rw [if_neg hw] at this; exact this
  · intro x hx v hv
    cases x with
    | tmp t =>
      have hl : t ∈ o.looksAt ops := List.mem_append_left _ (List.mem_filterMap.2 ⟨.tmp t, by simpa using hx, rfl⟩)
      have hv' : PF.get pf t = some v := by rw [← hsame t hl]; exact hv
      simp [Act.eval, hag t hl v hv']
    | const u => simpa [ev, Act.eval] using hv
    | global g => simpa [ev, Act.eval] using hv
    | func f => simpa [ev, Act.eval] using hv
  · intro j want s v hg hs hv
    have hl : s ∈ o.looksAt ops := by
      refine List.mem_append_right _ ?_
      simp only [hg]
      unfold gslot at hs
      simp [hs]
    exact hag s hl v (by rw [← hsame s hl]; exact hv)

theorem getD_set {l : Array Bool} {i j : Nat} (hi : i < l.size) : (l.setIfInBounds i true).getD j false = if i = j then true else l.getD j false := by
  simp only [Array.getD_eq_getD_getElem?, Array.getElem?_setIfInBounds]
  split <;> simp_all

/-- an operation that has been listed -/
theorem Mid.list {pre : List (Nat × Bool)} {pend : List (Nat × (World → Prop))} {pf : PF} {listed : Array Bool} {a : Act} {w : World} (hm : Mid P N ops E pre pend pf listed a w) (hf : PlanFacts N ops E) {i : Nat} {o : Oper} {v : Value} (hi : ops[i]? = some o)
    (hpre : i ∈ pre.map (·.1)) (hready : ∀ e ∈ edgesOf ops i, listed.getD e false = true) (hdst : ∀ s, o.dst = some s → PF.get pf s = some v) :
    Mid P N ops E pre pend pf (listed.setIfInBounds i true) (a.put o.dst v) w := by
  have hil : i < listed.size := by rw [hm.lsize]; exact (Array.getElem?_eq_some_iff.1 hi).1
  refine ⟨?_, ?_, by simpa using hm.lsize, hm.preE, ?_, ?_, ?_, hm.preClosed, ?_, ?_⟩
  · cases h : o.dst <;> simp [Act.put, hm.size]
  · cases h : o.dst <;> simpa [Act.put] using hm.defers
  · intro j hj
    rw [getD_set hil] at hj
    split at hj
    · rename_i e; subst e; exact hpre
    · exact hm.inPre j hj
  · intro j hj
    rw [getD_set hil]
    split
    · rfl
    · exact hm.effs j hj
  · intro j hj e he
    rw [getD_set hil] at hj ⊢
    split
    · rfl
    · split at hj
      · rename_i h; subst h; exact hready e he
      · exact hm.closed j hj e he
  · intro s u hs
    by_cases hd : o.dst = some s
    · right
      rw [hdst s hd] at hs
      simp at hs
      subst hs
      have hsN : s < N := hf.dst i s (by rw [dstOf_eq hi]; exact hd)
      simp [Act.put, hd, hm.size, hsN]
    · rcases hm.frame s u hs with ⟨j, hj, hl, hdj⟩ | h
      · left
        refine ⟨j, hj, ?_, hdj⟩
        rw [getD_set hil]
        split
        · rename_i e; subst e; rw [dstOf_eq hi] at hdj; exact absurd hdj hd
        · exact hl
      · right
        cases hd' : o.dst with
        | none => simpa [Act.put] using h
        | some k =>
          have : ¬ k = s := fun e => hd (by rw [hd', e])
          simpa [Act.put, Array.getElem?_setIfInBounds_ne this] using h
  · intro j hj hl
    rw [getD_set hil] at hl
    split at hl
    · simp at hl
    · exact hm.open_ j hj hl

/-- one more of the order, not yet run -/
theorem Mid.later {pre : List (Nat × Bool)} {pend : List (Nat × (World → Prop))} {pf : PF} {listed : Array Bool} {a : Act} {w : World} (hm : Mid P N ops E pre pend pf listed a w) (hf : PlanFacts N ops E) {i : Nat} {o : Oper} {v : Value} {c : World → Prop} (hi : ops[i]? = some o) (hE : E i = false)
    (hnot : i ∉ pre.map (·.1)) (hed : ∀ e ∈ edgesOf ops i, e ∈ pre.map (·.1)) (hc : c w) (hx : ∀ w2, c w2 → XG P ops pf o w2 fun v' w' => v' = v ∧ w' = w2) :
    Mid P N ops E (pre ++ [(i, false)]) ((i, c) :: pend) (put pf o.dst v) listed a w := by
  have hil : i < ops.size := (Array.getElem?_eq_some_iff.1 hi).1
  have hun : listed.getD i false = false := by
    cases h : listed.getD i false with
    | false => rfl
    | true => exact absurd (hm.inPre i h) hnot
  -- nobody ahead looks at what it writes
  have noLook : ∀ j o', ops[j]? = some o' → j ∈ pre.map (·.1) → ∀ s ∈ o'.looksAt ops, o.dst ≠ some s := by
    intro j o' hj hjp s hs hd
    have hr := (hf.ssa j i s ((Array.getElem?_eq_some_iff.1 hj).1) hil (by rw [dstOf_eq hi]; exact hd) (by rw [looksOf_eq hj]; exact hs)).resolve_right fun h => by rw [hE] at h; exact absurd h.1 (by simp)
    exact hnot (reach_in (S := fun x => x ∈ pre.map (·.1)) (fun x hx => hm.preClosed x hx) _ _ _ (hm.preClosed j hjp) hr)
  have noSelf : ∀ s ∈ o.looksAt ops, o.dst ≠ some s := by
    intro s hs hd
    have hr := (hf.ssa i i s hil hil (by rw [dstOf_eq hi]; exact hd) (by rw [looksOf_eq hi]; exact hs)).resolve_right fun h => by rw [hE] at h; exact absurd h.1 (by simp)
    have : i ∈ pre.map (·.1) := reach_in (S := fun x => x ∈ pre.map (·.1)) (fun x hx => hm.preClosed x hx) _ _ _ hed hr
    exact hnot this
  refine ⟨hm.size, hm.defers, hm.lsize, ?_, ?_, ?_, hm.closed, ?_, ?_, ?_⟩
  · intro x hx
    rcases List.mem_append.1 hx with h | h
    · exact hm.preE x h
    · rw [List.mem_singleton.1 h]; exact hE.symm
  · intro j hj; simpa using .inl (by simpa using hm.inPre j hj)
  · intro j hj
    simp at hj
    exact hm.effs j hj
  · intro j hj e he
    simp only [List.map_append, List.mem_append, List.map_cons, List.map_nil, List.mem_singleton] at hj ⊢
    rcases hj with hj | rfl
    · exact .inl (hm.preClosed j hj e he)
    · exact .inl (hed e he)
  · intro s u hs
    by_cases hd : o.dst = some s
    · exact .inl ⟨i, by simp, hun, by rw [dstOf_eq hi]; exact hd⟩
    · rw [get_put_ne hd] at hs
      rcases hm.frame s u hs with ⟨j, hj, hl, hdj⟩ | h
      · exact .inl ⟨j, by simp at hj ⊢; exact .inl hj, hl, hdj⟩
      · exact .inr h
  · intro j hj hl
    simp only [List.map_append, List.mem_append, List.map_cons, List.map_nil, List.mem_singleton] at hj
    rcases hj with hj | rfl
    · obtain ⟨o', v', pi, c', h1, h2, h3, h4, h5, h6⟩ := hm.open_ j hj hl
      refine ⟨o', v', pi, c', h1, List.mem_cons_of_mem _ h2, h3, h4, fun s hs => ?_, fun s hs => ?_⟩
      · rw [get_put_ne ?_]
        · exact h5 s hs
        · intro e
          have := hf.apart i j s hil ((Array.getElem?_eq_some_iff.1 h1).1) (by rw [dstOf_eq hi]; exact e) (by rw [dstOf_eq h1]; exact hs)
          subst this
          exact hnot hj
      · rw [get_put_ne (noLook j o' h1 hj s hs)]; exact h6 s hs
    · refine ⟨o, v, pf, c, hi, List.mem_cons_self .., hc, hx, fun s hs => ?_, fun s hs => ?_⟩
      · rw [hs, get_put_eq]
      · rw [get_put_ne (noSelf s hs)]

/-- the order, on to the next one that acts -/
theorem advance (hf : PlanFacts N ops E) {K : PF → World → Prop} {listed : Array Bool} {a : Act} {w : World} : ∀ (rest : Plan) (pre : List (Nat × Bool)) (pend : List (Nat × (World → Prop))) (pf : PF), Mid P N ops E pre pend pf listed a w → planGo ops E false pre rest = true → DD P ops rest pend K pf w →
    ∃ pre' pend' pf' rest', Mid P N ops E pre' pend' pf' listed a w ∧ planGo ops E false pre' rest' = true ∧ DD P ops rest' pend' K pf' w ∧ (rest' = .nil ∨ ∃ i rc r o, rest' = .e i rc r o) := by
  intro rest
  induction rest with
  | nil => intro pre pend pf hm hp hd; exact ⟨pre, pend, pf, .nil, hm, hp, hd, .inl rfl⟩
  | none => intro pre pend pf hm hp hd; simp [planGo] at hp
  | e i rc r o _ _ => intro pre pend pf hm hp hd; exact ⟨pre, pend, pf, _, hm, hp, hd, .inr ⟨i, rc, r, o, rfl⟩⟩
  | p i r ih =>
    intro pre pend pf hm hp hd
    unfold DD at hd
    obtain ⟨o, v, c, ho, hc, hx, hd⟩ := hd
    unfold planGo at hp
    simp only [Bool.and_eq_true, Bool.not_eq_true', List.all_eq_true, List.contains_iff_mem] at hp
    obtain ⟨_, h1, h2, hEi, h4⟩ := hp
    have hnot : i ∉ pre.map (·.1) := by
      intro h; have := (List.contains_iff_mem (a := i)).2 h; rw [h2] at this; simp at this
    exact ih _ _ _ (hm.later hf ho hEi hnot h1 hc hx) h4 hd

/-- one of those that are open to be next -/
theorem alt_spec {K : PF → World → Prop} {w : World} {pre : List (Nat × Bool)} {pend : List (Nat × (World → Prop))} {pf : PF} : ∀ (rest : Plan) (alt : Bool), planGo ops E alt pre rest = true → DD P ops rest pend K pf w → ∀ k ∈ rest.heads,
    ∃ (rc : List Nat) (r : Plan), (∀ e ∈ edgesOf ops k, e ∈ pre.map (·.1)) ∧ k ∉ pre.map (·.1) ∧ E k = true ∧ (∀ y ∈ pre, (y.2 = true ∨ reach ops ops.size k y.1 = true) ∨ rc.contains y.1 = true) ∧ planGo ops E false (pre ++ [(k, true)]) r = true ∧
      ∃ o : Oper, ops[k]? = some o ∧ XG P ops pf o w fun v w' => (∀ p ∈ pend, rc.contains p.1 = true → p.2 w') ∧ DD P ops r pend K (put pf o.dst v) w' := by
  intro rest
  induction rest with
  | nil => intro alt hp hd k hk; simp [Plan.heads] at hk
  | none => intro alt hp hd k hk; simp [Plan.heads] at hk
  | p i r _ => intro alt hp hd k hk; simp [Plan.heads] at hk
  | e i rc r a _ ih =>
    intro alt hp hd k hk
    unfold planGo at hp
    simp only [Bool.and_eq_true, Bool.not_eq_true', List.all_eq_true, List.contains_iff_mem, Bool.or_eq_true] at hp
    obtain ⟨_, h1, h2, h3, h4, h5, h6⟩ := hp
    unfold DD at hd
    rcases List.mem_cons.1 hk with rfl | hk
    · refine ⟨rc, r, h1, ?_, h3, ?_, h5, hd.1⟩
      · intro h; have := (List.contains_iff_mem (a := k)).2 h; rw [h2] at this; simp at this
      · intro y hy
        rcases h4 y hy with h | h
        · exact .inl h
        · exact .inr (by simpa using h)
    · exact ih true h6 hd.2 k hk

theorem ready_spec {listed : Array Bool} {i : Nat} (h : i ∈ Region.ready .any ops listed) : i < ops.size ∧ listed.getD i true = false ∧ ∀ e ∈ edgesOf ops i, listed.getD e false = true := by
  unfold Region.ready at h
  simp only [List.mem_filter, List.mem_range, Bool.and_eq_true, Bool.not_eq_true'] at h
  obtain ⟨h1, h2, h3⟩ := h
  refine ⟨h1, h2, fun e he => ?_⟩
  unfold edgesOf at he
  cases ho : ops[i]? with
  | none => simp [ho] at he
  | some o =>
    simp only [ho, List.mem_map, List.mem_filter] at he
    obtain ⟨ed, ⟨hm, hb⟩, rfl⟩ := he
    simp only [ho, Option.map_some, Option.getD_some] at h3
    have := Array.all_eq_true'.1 h3 ed (by simpa using hm)
    simpa [hb] using this

theorem ready_of {listed : Array Bool} {i : Nat} (hi : i < ops.size) (hl : listed.size = ops.size) (h : listed.getD i false = false) (he : ∀ e ∈ edgesOf ops i, listed.getD e false = true) : i ∈ Region.ready .any ops listed := by
  unfold Region.ready
  simp only [List.mem_filter, List.mem_range, Bool.and_eq_true, Bool.not_eq_true']
  refine ⟨hi, ?_, ?_⟩
  · have : i < listed.size := by omega
    simp [Array.getD, this] at h ⊢
    exact h
  · have ho : ops[i]? = some ops[i] := by simp [hi]
    simp only [ho, Option.map_some, Option.getD_some]
    refine Array.all_eq_true'.2 fun ed hed => ?_
    by_cases hb : Region.binds .any ed = true
    · have := he ed.on (by unfold edgesOf; simp only [ho, List.mem_map, List.mem_filter]; exact ⟨ed, ⟨by simpa using hed, hb⟩, rfl⟩)
      simp only [this, Bool.or_true]
    · have hb' : Region.binds .any ed = false := by simpa using hb
      simp only [hb', Bool.not_false, Bool.true_or]

/-- nothing is ready: all are listed -/
theorem all_listed (hf : PlanFacts N ops E) {listed : Array Bool} (hl : listed.size = ops.size) (h : Region.ready .any ops listed = []) : ∀ i, i < ops.size → listed.getD i false = true := by
  intro i
  induction i using Nat.strongRecOn with
  | _ i ih =>
    intro hi
    cases hc : listed.getD i false with
    | true => rfl
    | false =>
      have := ready_of hi hl hc (fun e he => ih e (hf.less i hi e he) (Nat.lt_trans (hf.less i hi e he) hi))
      rw [h] at this
      simp at this

theorem countF_list : ∀ {L : List Bool} {i : Nat}, L[i]? = some false → (L.set i true).count false + 1 = L.count false := by
  intro L
  induction L with
  | nil => intro i h; simp at h
  | cons x r ih =>
    intro i h
    cases i with
    | zero => simp at h; subst h; simp
    | succ i =>
      simp at h
      have := ih h
      simp only [List.set_cons_succ, List.count_cons]
      omega

theorem countF_set {l : Array Bool} {i : Nat} (hi : i < l.size) (h : l.getD i false = false) : (l.setIfInBounds i true).toList.count false + 1 = l.toList.count false := by
  rw [Array.toList_setIfInBounds]
  refine countF_list ?_
  have hg : l[i] = false := by simpa [Array.getD, hi] using h
  simp [hi, hg]

theorem wpAny_of (hf : PlanFacts N ops E) {K : PF → World → Prop} {Q : Exit → Act → World → Prop} (hK : ∀ (pf : PF) (a : Act) (w : World), Good N pf a → K pf w → Q .normal a w) :
    ∀ (fuel : Nat) (listed : Array Bool) (a : Act) (w : World) (pre : List (Nat × Bool)) (pend : List (Nat × (World → Prop))) (pf : PF) (rest : Plan),
      Mid P N ops E pre pend pf listed a w → planGo ops E false pre rest = true → DD P ops rest pend K pf w → listed.toList.count false ≤ fuel → wpAny P .any ops Q fuel listed a w := by
  have done : ∀ (listed : Array Bool) (a : Act) (w : World) (pre : List (Nat × Bool)) (pend : List (Nat × (World → Prop))) (pf : PF) (rest : Plan),
      Mid P N ops E pre pend pf listed a w → planGo ops E false pre rest = true → DD P ops rest pend K pf w → (rest = .nil ∨ ∃ i rc r o, rest = .e i rc r o) → (∀ i, i < ops.size → listed.getD i false = true) → Q .normal a w := by
    intro listed a w pre pend pf rest hm hp hd hform hall
    rcases hform with rfl | ⟨i, rc, r, o, rfl⟩
    · refine hK pf a w ⟨hm.size, hm.defers, fun s v hs => ?_⟩ hd
      rcases hm.frame s v hs with ⟨j, _, hl, hdj⟩ | h
      · rw [hall j (dstOf_lt hdj)] at hl; simp at hl
      · exact h
    · exfalso
      obtain ⟨_, _, _, h2, _, _, _, o', ho', _⟩ := alt_spec _ false hp hd i (by simp [Plan.heads])
      exact h2 (hm.inPre i (hall i (Array.getElem?_eq_some_iff.1 ho').1))
  intro fuel
  induction fuel with
  | zero =>
    intro listed a w pre pend pf rest hm hp hd hcount
    obtain ⟨pre, pend, pf, rest, hm, hp, hd, hform⟩ := advance hf rest pre pend pf hm hp hd
    have hall : ∀ i, i < ops.size → listed.getD i false = true := by
      intro i hi
      have hi' : i < listed.size := by rw [hm.lsize]; exact hi
      cases hc : listed.getD i false with
      | true => rfl
      | false =>
        have := countF_set hi' hc
        omega
    refine ⟨?_, done listed a w pre pend pf rest hm hp hd hform hall⟩
    rw [List.eq_nil_iff_forall_not_mem]
    intro i hi
    obtain ⟨h1, h2, _⟩ := ready_spec hi
    have := hall i h1
    have hi' : i < listed.size := by rw [hm.lsize]; exact h1
    simp [Array.getD, hi'] at h2 this
    rw [h2] at this; simp at this
  | succ fuel ih =>
    intro listed a w pre pend pf rest hm hp hd hcount
    obtain ⟨pre, pend, pf, rest, hm', hp', hd', hform⟩ := advance hf rest pre pend pf hm hp hd
    clear hm hp hd
    refine ⟨fun hr => done listed a w pre pend pf rest hm' hp' hd' hform (all_listed hf hm'.lsize hr), fun i hi => ?_⟩
    obtain ⟨h1, h2, h3⟩ := ready_spec hi
    have hil : i < listed.size := by rw [hm'.lsize]; exact h1
    have hun : listed.getD i false = false := by simpa [Array.getD, hil] using h2
    have hcnt : (listed.setIfInBounds i true).toList.count false ≤ fuel := by have := countF_set hil hun; omega
    by_cases hpi : i ∈ pre.map (·.1)
    · obtain ⟨o, v, pi, c, e1, e2, e3, e4, e5, e6⟩ := hm'.open_ i hpi hun
      refine XG.run e1 (e4 w e3) e6 (fun s hs u hu => hm'.agree hf e1 h3 hs hu) ?_
      rintro v' w' ⟨rfl, rfl⟩
      exact ih _ _ _ _ _ _ _ (hm'.list hf e1 hpi h3 e5) hp' hd' hcnt
    · rcases hform with rfl | ⟨e, rc0, r0, o0, rfl⟩
      · exfalso
        unfold planGo at hp'
        simp only [Bool.and_eq_true, List.all_eq_true, List.mem_range, List.contains_iff_mem] at hp'
        exact hpi (hp'.2 i h1)
      · have hcov := hp'
        unfold planGo at hcov
        simp only [Bool.and_eq_true, Bool.or_eq_true, Bool.false_eq_true, false_or, List.all_eq_true, List.any_eq_true, List.mem_range, List.contains_iff_mem] at hcov
        have hih : i ∈ (Plan.e e rc0 r0 o0).heads := by
          rcases hcov.1 i h1 with (h | h) | ⟨x, hx, hr⟩
          · exact absurd h hpi
          · exact h
          · exfalso
            obtain ⟨_, _, _, q2, _⟩ := alt_spec _ false hp' hd' x hx
            have hl := reach_in (S := fun x => listed.getD x false = true) (fun x hx => hm'.closed x hx) _ _ _ h3 hr
            exact q2 (hm'.inPre x hl)
        obtain ⟨rc, r, q1, q2, qE, q4, q5, o, ho, hx⟩ := alt_spec _ false hp' hd' i hih
        refine XG.run ho hx (fun s _ => rfl) (fun s hs u hu => hm'.agree hf ho h3 hs hu) ?_
        rintro v w' ⟨hck, hdd⟩
        -- the frame behind it
        have hil2 : i < ops.size := h1
        have noLook : ∀ j o', ops[j]? = some o' → j ∈ pre.map (·.1) → listed.getD j false = false → j ≠ i → ∀ s ∈ o'.looksAt ops, o.dst ≠ some s := by
          intro j o' hj hjp hjl hji s hs hdd
          rcases hf.ssa j i s ((Array.getElem?_eq_some_iff.1 hj).1) hil2 (by rw [dstOf_eq ho]; exact hdd) (by rw [looksOf_eq hj]; exact hs) with hr | ⟨_, hr | hr⟩
          · exact hpi (reach_in (S := fun x => x ∈ pre.map (·.1)) (fun x hx => hm'.preClosed x hx) _ _ _ (hm'.preClosed j hjp) hr)
          · exact hji hr
          · have := reach_in (S := fun x => listed.getD x false = true) (fun x hx => hm'.closed x hx) _ _ _ h3 hr
            rw [hjl] at this
            exact absurd this (by simp)
        have hmid : Mid P N ops E (pre ++ [(i, true)]) pend (put pf o.dst v) (listed.setIfInBounds i true) (a.put o.dst v) w' := by
          refine ⟨?_, ?_, by simpa using hm'.lsize, ?_, ?_, ?_, ?_, ?_, ?_, ?_⟩
          · cases h : o.dst <;> simp [Act.put, hm'.size]
          · cases h : o.dst <;> simpa [Act.put] using hm'.defers
          · intro x hx
            rcases List.mem_append.1 hx with h | h
            · exact hm'.preE x h
            · rw [List.mem_singleton.1 h]; exact qE.symm
          · intro j hj
            rw [getD_set hil] at hj
            simp only [List.map_append, List.mem_append, List.map_cons, List.map_nil, List.mem_singleton]
            split at hj
            · rename_i e; exact .inr e.symm
            · exact .inl (hm'.inPre j hj)
          · intro j hj
            rw [getD_set hil]
            split
            · rfl
            · rename_i hne
              simp at hj
              rcases hj with hj | hj
              · exact hm'.effs j hj
              · exact absurd hj.symm hne
          · intro j hj e he
            rw [getD_set hil] at hj ⊢
            split
            · rfl
            · split at hj
              · rename_i h; subst h; exact h3 e he
              · exact hm'.closed j hj e he
          · intro j hj e he
            simp only [List.map_append, List.mem_append, List.map_cons, List.map_nil, List.mem_singleton] at hj ⊢
            rcases hj with hj | rfl
            · exact .inl (hm'.preClosed j hj e he)
            · exact .inl (q1 e he)
          · intro s u hs
            by_cases hdq : o.dst = some s
            · right
              rw [hdq, get_put_eq] at hs
              simp at hs
              subst hs
              have hsN : s < N := hf.dst i s (by rw [dstOf_eq ho]; exact hdq)
              simp [Act.put, hdq, hm'.size, hsN]
            · rw [get_put_ne hdq] at hs
              rcases hm'.frame s u hs with ⟨j, hj, hl, hdj⟩ | h
              · left
                refine ⟨j, by simp at hj ⊢; exact .inl hj, ?_, hdj⟩
                rw [getD_set hil]
                split
                · rename_i e; subst e; exact absurd hj hpi
                · exact hl
              · right
                cases hd' : o.dst with
                | none => simpa [Act.put] using h
                | some k =>
                  have : ¬ k = s := fun e => hdq (by rw [hd', e])
                  simpa [Act.put, Array.getElem?_setIfInBounds_ne this] using h
          · intro j hj hl
            rw [getD_set hil] at hl
            split at hl
            · simp at hl
            · rename_i hne
              simp only [List.map_append, List.mem_append, List.map_cons, List.map_nil, List.mem_singleton] at hj
              rcases hj with hj | hj
              · obtain ⟨o', v', pi, c', k1, k2, k3, k4, k5, k6⟩ := hm'.open_ j hj hl
                refine ⟨o', v', pi, c', k1, k2, ?_, k4, fun s hs => ?_, fun s hs => ?_⟩
                · -- it is asked again
                  obtain ⟨y, hy, hyj⟩ := List.mem_map.1 hj
                  rcases q4 y hy with (h | h) | h
                  · have hy' : (j, true) ∈ pre := by rw [← hyj, ← h]; exact hy
                    rw [hm'.effs j hy'] at hl; simp at hl
                  · rw [hyj] at h
                    have := reach_in (S := fun x => listed.getD x false = true) (fun x hx => hm'.closed x hx) _ _ _ h3 h
                    rw [hl] at this; simp at this
                  · rw [hyj] at h
                    exact hck (j, c') k2 (by simpa using h)
                · rw [get_put_ne ?_]
                  · exact k5 s hs
                  · intro e
                    have := hf.apart i j s hil2 ((Array.getElem?_eq_some_iff.1 k1).1) (by rw [dstOf_eq ho]; exact e) (by rw [dstOf_eq k1]; exact hs)
                    exact hne this
                · rw [get_put_ne (noLook j o' k1 hj hl (fun e => hne e.symm) s hs)]; exact k6 s hs
              · exact absurd hj.symm hne
        exact ih _ _ _ _ _ _ _ hmid q5 hdd hcnt

theorem W_draw {Q : Exit → PF → World → Prop} {pf : PF} {w : World} {id : Nat} {l : List Oper} (plan : Plan) (hm : P.follows .mixedOrders = true) (hp : planOk N l.toArray plan = true)
    (h : DD P l.toArray plan [] (fun pf' w' => Q .normal pf' w') pf w.drew) : W P N (.region id l.toArray true) Q pf w := fun a ha => by
  obtain ⟨hf, h1⟩ := planOk_facts hp
  refine wp_region_any hm ?_
  change wpAny P .any l.toArray (lift N Q) l.toArray.size (Array.replicate l.toArray.size false) a w.drew
  have hrep : ∀ i, (Array.replicate l.toArray.size false).getD i false = false := by
    intro i; simp [Array.getD]
  refine wpAny_of hf (K := fun pf' w' => Q .normal pf' w') (fun pf a w hg hk => ⟨pf, hg, hk⟩) _ _ a w.drew [] [] pf plan ⟨ha.size, ha.defers, by simp, by simp, ?_, by simp, ?_, by simp, fun s v hs => .inr (ha.sub s v hs), by simp⟩ h1 h ?_
  · intro i hi; rw [hrep] at hi; simp at hi
  · intro i hi; rw [hrep] at hi; simp at hi
  · simp
end
end Go.Nep
