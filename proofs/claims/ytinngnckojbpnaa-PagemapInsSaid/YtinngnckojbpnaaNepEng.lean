import Derived.Tactics2
import Derived.Orders
import Derived.Scope
/-! The engine: Go code over frames that are known in part. -/
namespace Go.Nep
set_option linter.unusedVariables false
set_option linter.unusedSimpArgs false


theorem beq_no {a b : Nat} (h : ¬ a = b) : Nat.beq a b = false := by
  rw [Bool.eq_false_iff]; intro e; exact h (Nat.eq_of_beq_eq_true e)

abbrev PF := List (Nat × Value)

def PF.get : PF → Nat → Option Value
  | [], _ => none
  | (s, v) :: r, t => bif Nat.beq s t then some v else PF.get r t

def ev (pf : PF) : Operand → Option Value
  | .tmp t => PF.get pf t
  | .const v => some v
  | .global g => some (.pointer (some ⟨g, 0, none⟩))
  | .func f => some (.func (.func f) #[] #[])

def put (pf : PF) (d : Option Nat) (v : Value) : PF :=
  match d with
  | some d => (d, v) :: pf
  | none => pf

/-- the slots of a frame that a list names hold what it says -/
def Sub (pf : PF) (t : Array Value) : Prop := ∀ s v, PF.get pf s = some v → t[s]? = some v

def restrict (keep : List Nat) (pf : PF) : PF := keep.filterMap fun s => (PF.get pf s).map fun v => (s, v)

theorem get_restrict {keep : List Nat} {pf : PF} {s : Nat} {v : Value} (h : PF.get (restrict keep pf) s = some v) : PF.get pf s = some v := by
  induction keep with
  | nil => simp [restrict, PF.get] at h
  | cons k r ih =>
    unfold restrict at h ih
    rw [List.filterMap_cons] at h
    cases hk : PF.get pf k with
    | none => simp [hk] at h; exact ih h
    | some u =>
      simp [hk, PF.get] at h
      by_cases e : k = s
      · subst e; simp at h; rw [hk, h]
      · have : Nat.beq k s = false := beq_no e
        simp [this] at h
        exact ih h

structure Good (N : Nat) (pf : PF) (a : Act) : Prop where
  size : a.tmps.size = N
  defers : a.defers = []
  sub : Sub pf a.tmps

theorem Good.restrict {N : Nat} {pf : PF} {a : Act} (h : Good N pf a) (keep : List Nat) : Good N (restrict keep pf) a :=
  ⟨h.size, h.defers, fun s v hs => h.sub s v (get_restrict hs)⟩

theorem Good.put {N : Nat} {pf : PF} {a : Act} (h : Good N pf a) {d : Option Nat} {v : Value} (hd : ∀ k, d = some k → k < N) : Good N (put pf d v) (a.put d v) := by
  cases d with
  | none => exact h
  | some d =>
    have hd := hd d rfl
    refine ⟨by simp [Act.put, h.size], by simpa [Act.put] using h.defers, fun s u hs => ?_⟩
    simp only [Go.Nep.put, PF.get] at hs
    by_cases e : d = s
    · subst e
      simp at hs
      subst hs
      simp [Act.put, h.size, hd]
    · have : Nat.beq d s = false := beq_no e
      simp [this] at hs
      have := h.sub s u hs
      simp only [Act.put, Array.getElem?_setIfInBounds_ne e]
      exact this

/-- a frame agrees with the list at what an operand names -/
def Agrees (pf : PF) (a : Act) (x : Operand) : Prop := ∀ v, ev pf x = some v → a.eval x = v

theorem Good.agrees {N : Nat} {pf : PF} {a : Act} (h : Good N pf a) (x : Operand) : Agrees pf a x := by
  intro v hv
  cases x with
  | tmp t =>
    have := h.sub t v hv
    simp [Act.eval, this]
  | const u => simpa [ev, Act.eval] using hv
  | global g => simpa [ev, Act.eval] using hv
  | func f => simpa [ev, Act.eval] using hv

def After (K : Value → World → Prop) : Ending → World → Prop
  | .returned v, w => K v w
  | _, _ => False

def Upon (P : Program) (K : Value → World → Prop) : Result Next → Prop
  | .ok (.value v) w => K v w
  | .ok .skip w => K undef w
  | .ok (.enter f args) w => Calls P f args w (After K)
  | _ => False

/-- an operation, run from whatever frame agrees on its operands -/
def X (P : Program) (pf : PF) (o : Oper) (w : World) (K : Value → World → Prop) : Prop :=
  ∀ a : Act, (∀ x ∈ o.op.operands, Agrees pf a x) → Upon P K ((execOp a.eval o).run P w)

theorem Upon.mono {P : Program} {K K' : Value → World → Prop} (hk : ∀ v w, K v w → K' v w) {r : Result Next} (h : Upon P K r) : Upon P K' r := by
  unfold Upon at *
  split at h
  · exact hk _ _ h
  · exact hk _ _ h
  · exact h.mono fun e w he => by cases e <;> first | exact hk _ _ he | exact he
  · exact h.elim

theorem X.mono {P : Program} {pf : PF} {o : Oper} {w : World} {K K' : Value → World → Prop} (h : X P pf o w K) (hk : ∀ v w, K v w → K' v w) : X P pf o w K' :=
  fun a ha => (h a ha).mono hk

/-- the slot of a guard -/
def gslot (ops : Array Oper) (j : Nat) : Option Nat := (ops[j]?).bind (·.dst)

/-- an operation with its guard -/
def XG (P : Program) (ops : Array Oper) (pf : PF) (o : Oper) (w : World) (K : Value → World → Prop) : Prop :=
  match o.guard with
  | none => X P pf o w K
  | some (j, want) => ∃ s gv, gslot ops j = some s ∧ PF.get pf s = some gv ∧ ((gv = .bool want ∧ X P pf o w K) ∨ (gv ≠ .bool want ∧ K undef w))

def RL (P : Program) (ops : Array Oper) : List Oper → (PF → World → Prop) → PF → World → Prop
  | [], K, pf, w => K pf w
  | o :: r, K, pf, w => XG P ops pf o w fun v w' => RL P ops r K (put pf o.dst v) w'

/-- what a piece of code comes to, of a list of slots -/
def lift (N : Nat) (Q : Exit → PF → World → Prop) : Exit → Act → World → Prop := fun e a w => ∃ pf, Good N pf a ∧ Q e pf w

def W (P : Program) (N : Nat) (c : Code) (Q : Exit → PF → World → Prop) (pf : PF) (w : World) : Prop :=
  ∀ a : Act, Good N pf a → c.wp P (lift N Q) a w

theorem Upon.oper {P : Program} {o : Oper} {a : Act} {w : World} {K : Value → World → Prop} {next : Act → World → Prop} {Q : Exit → Act → World → Prop}
    (h : Upon P K ((execOp a.eval o).run P w)) (hn : ∀ v w, K v w → next (a.put o.dst v) w) : o.wp P a w next Q := by
  unfold Oper.wp
  unfold Upon at h
  generalize (execOp a.eval o).run P w = r at *
  split at h
  · exact hn _ _ h
  · exact hn _ _ h
  · refine Calls.mono h fun e w he => ?_
    cases e with
    | returned v => exact hn _ _ he
    | panicked c => exact he.elim
    | outgrown => exact he.elim
  · exact h.elim

theorem yielded_of {ops : Array Oper} {a : Act} {j s : Nat} {gv : Value} (hs : gslot ops j = some s) (hg : a.tmps[s]? = some gv) :
    ∀ want, (yielded ops a.tmps j == some want) = true ↔ gv = .bool want := by
  intro want
  unfold yielded
  unfold gslot at hs
  simp only [hs, Option.bind_some, hg]
  cases gv <;> simp

theorem XG.wp {P : Program} {ops : Array Oper} {pf : PF} {o : Oper} {a : Act} {w : World} {K : Value → World → Prop} {next : Act → World → Prop} {Q : Exit → Act → World → Prop}
    (h : XG P ops pf o w K) (ha : ∀ x ∈ o.op.operands, Agrees pf a x) (hg : ∀ j want s v, o.guard = some (j, want) → gslot ops j = some s → PF.get pf s = some v → a.tmps[s]? = some v)
    (hn : ∀ v w, K v w → next (a.put o.dst v) w) :
    if Region.wanted o (yielded ops a.tmps) then o.wp P a w next Q else next (a.put o.dst undef) w := by
  unfold XG at h
  unfold Region.wanted
  cases hgd : o.guard with
  | none =>
    simp only [hgd] at h
    exact (h a ha).oper hn
  | some jw =>
    obtain ⟨j, want⟩ := jw
    simp only [hgd] at h
    obtain ⟨s, gv, hs, hget, hh⟩ := h
    have hy := yielded_of (a := a) hs (hg j want s gv hgd hs hget) want
    rcases hh with ⟨e, hx⟩ | ⟨e, hk⟩
    · have : (yielded ops a.tmps j == some want) = true := hy.2 e
      simp only [this, if_true]
      exact (hx a ha).oper hn
    · have : (yielded ops a.tmps j == some want) = false := by
        rw [Bool.eq_false_iff]; intro h; exact e (hy.1 h)
      simp only [this]
      exact hn _ _ hk

theorem RL.wp {P : Program} {ops : Array Oper} {N : Nat} {Q : Exit → Act → World → Prop} {K : PF → World → Prop} (hK : ∀ (pf : PF) (a : Act) (w : World), Good N pf a → K pf w → Q .normal a w) :
    ∀ (l : List Oper), (∀ o ∈ l, ∀ k, o.dst = some k → k < N) → ∀ pf a w, Good N pf a → RL P ops l K pf w → wpList P ops Q l a w := by
  intro l
  induction l with
  | nil => intro _ pf a w hg h; exact hK pf a w hg h
  | cons o r ih =>
    intro hd pf a w hg h
    unfold wpList
    have := XG.wp (next := wpList P ops Q r) (Q := Q) h (fun x _ => hg.agrees x) (fun j want s v _ _ hv => hg.sub s v hv)
      (fun v w hk => ih (fun o ho => hd o (List.mem_cons_of_mem _ ho)) _ _ _ (hg.put (hd o (List.mem_cons_self ..))) hk)
    split
    · rename_i hw; rw [if_pos hw] at this; exact .inl this
    · rename_i hw; rw [if_neg hw] at this; exact this

def dstsOk (N : Nat) (ops : List Oper) : Bool := ops.all fun o => match o.dst with | some k => Nat.blt k N | none => true

theorem dstsOk_spec {N : Nat} {ops : List Oper} (h : dstsOk N ops = true) : ∀ o ∈ ops, ∀ k, o.dst = some k → k < N := by
  intro o ho k hk
  have := List.all_eq_true.1 h o ho
  rw [hk] at this
  simpa using this

section
variable {P : Program} {N : Nat} {Q : Exit → PF → World → Prop} {pf : PF} {w : World}

theorem W.mono {c : Code} {Q' : Exit → PF → World → Prop} (h : W P N c Q pf w) (hq : ∀ e pf w, Q e pf w → Q' e pf w) : W P N c Q' pf w :=
  fun a ha => wp_mono (h a ha) fun _ _ _ ⟨pf, hg, q⟩ => ⟨pf, hg, hq _ _ _ q⟩

theorem W_region {id : Nat} {l : List Oper} (keep : List Nat) (hd : dstsOk N l = true) (h : RL P l.toArray l (fun pf' w' => Q .normal (restrict keep pf') w') pf w) :
    W P N (.region id l.toArray false) Q pf w := fun a ha =>
  wp_region_lit (RL.wp (fun pf a w hg hk => ⟨_, hg.restrict keep, hk⟩) l (dstsOk_spec hd) pf a w ha h)

theorem W_skip (h : Q .normal pf w) : W P N .skip Q pf w := fun _ ha => wp_skip ⟨pf, ha, h⟩
theorem W_exit {id : Nat} (h : Q (.exit id) pf w) : W P N (.exit id) Q pf w := fun _ ha => wp_exit ⟨pf, ha, h⟩
theorem W_ret (h : Q .ret pf w) : W P N .ret Q pf w := fun _ ha => wp_ret ⟨pf, ha, h⟩
theorem W_label {l : Nat} (h : Q .normal pf w) : W P N (.label l) Q pf w := fun _ ha => wp_label ⟨pf, ha, h⟩

def thenQ (K : PF → World → Prop) (Q : Exit → PF → World → Prop) : Exit → PF → World → Prop
  | .normal, pf, w => K pf w
  | e, pf, w => Q e pf w

theorem W_seq {x y : Code} (h : W P N x (thenQ (W P N y Q) Q) pf w) : W P N (.seq x y) Q pf w := fun a ha =>
  wp_seq (wp_mono (h a ha) fun e a w ⟨pf, hg, q⟩ => by
    cases e with
    | normal => exact q a hg
    | _ => exact ⟨pf, hg, q⟩)

theorem W_seq_k {x y : Code} (h : ∀ K : PF → World → Prop, (∀ pf w, W P N y Q pf w → K pf w) → W P N x (thenQ K Q) pf w) : W P N (.seq x y) Q pf w :=
  W_seq (h _ fun _ _ h => h)

theorem W_cond {c : Operand} {x y : Code} {t : Bool} (hc : ev pf c = some (.bool t)) (h : W P N (if t then x else y) Q pf w) : W P N (.cond c x y) Q pf w :=
  fun a ha => wp_cond (ha.agrees c _ hc) (h a ha)
theorem W_true {c : Operand} {x y : Code} (hc : ev pf c = some (.bool true)) (h : W P N x Q pf w) : W P N (.cond c x y) Q pf w := W_cond hc h
theorem W_false {c : Operand} {x y : Code} (hc : ev pf c = some (.bool false)) (h : W P N y Q pf w) : W P N (.cond c x y) Q pf w := W_cond hc h
theorem W_if {c : Operand} {x y : Code} {t : Bool} (hc : ev pf c = some (.bool t)) (h1 : t = true → W P N x Q pf w) (h2 : t = false → W P N y Q pf w) : W P N (.cond c x y) Q pf w := by
  refine W_cond hc ?_
  cases t
  · exact h2 rfl
  · exact h1 rfl

def blockQ (id : Nat) (Q : Exit → PF → World → Prop) : Exit → PF → World → Prop
  | .exit id', pf, w => if id' = id then Q .normal pf w else Q (.exit id') pf w
  | e, pf, w => Q e pf w

theorem W_block {id : Nat} {c : Code} (h : W P N c (blockQ id Q) pf w) : W P N (.block id c) Q pf w := fun a ha =>
  wp_block (wp_mono (h a ha) fun e a w ⟨pf, hg, q⟩ => by
    cases e with
    | exit id' =>
      simp only [Exit.inBlock, blockQ] at *
      split
      · rename_i e; simp [e] at q; exact ⟨pf, hg, q⟩
      · rename_i e; simp [e] at q; exact ⟨pf, hg, q⟩
    | _ => exact ⟨pf, hg, q⟩)

def noGotoQ (Q : Exit → PF → World → Prop) : Exit → PF → World → Prop
  | .goto _, _, _ => False
  | e, pf, w => Q e pf w

theorem W_scope {c : Code} (h : W P N c (noGotoQ Q) pf w) : W P N (.scope c) Q pf w := fun a ha =>
  wp_scope_straight (wp_mono (h a ha) fun e a w ⟨pf, hg, q⟩ => by
    cases e with
    | goto l => exact q.elim
    | _ => exact ⟨pf, hg, q⟩)

/-- a loop: what holds at each round's head, and a number that each round lowers -/
theorem W_loop {c : Code} (I : Nat → PF → World → Prop) (n : Nat) (h₀ : I n pf w)
    (round : ∀ n pf w, I n pf w → W P N c (thenQ (fun pf' w' => ∃ m, m < n ∧ I m pf' w') Q) pf w) : W P N (.loop c) Q pf w := by
  intro a ha b k cs
  have key : ∀ n a pf w, Good N pf a → I n pf w →
      ∃ e a' w', lift N Q e a' w' ∧ Arrives P (lone (b.at a (.code c :: .inLoop c :: k)) cs w) b k cs e a' w' := by
    intro n
    induction n using Nat.strongRecOn with
    | _ n ih =>
      intro a pf w ha hI
      obtain ⟨e, a₁, w₁, ⟨pf₁, hg₁, hq⟩, harr⟩ := round n pf w hI a ha b (.inLoop c :: k) cs
      cases e with
      | normal =>
        obtain ⟨m, hm, hi⟩ := hq
        obtain ⟨e₂, a₂, w₂, hq₂, harr₂⟩ := ih m hm a₁ pf₁ w₁ hg₁ hi
        exact ⟨e₂, a₂, w₂, hq₂, .of_steps (Steps.trans harr (.one step_inLoop)) harr₂⟩
      | exit id => exact ⟨_, a₁, w₁, ⟨pf₁, hg₁, hq⟩, .pass (x := .inLoop c) rfl (fun _ _ => .inl (by simp)) harr⟩
      | goto l => exact ⟨_, a₁, w₁, ⟨pf₁, hg₁, hq⟩, .pass (x := .inLoop c) rfl (fun _ _ => .inl (by simp)) harr⟩
      | ret => exact ⟨_, a₁, w₁, ⟨pf₁, hg₁, hq⟩, .pass (x := .inLoop c) rfl (fun _ _ => .inl (by simp)) harr⟩
      | panic ch => exact ⟨_, a₁, w₁, ⟨pf₁, hg₁, hq⟩, .pass (x := .inLoop c) rfl (fun _ _ => .inl (by simp)) harr⟩
      | outgrown => exact ⟨_, a₁, w₁, ⟨pf₁, hg₁, hq⟩, .pass (x := .inLoop c) rfl (fun _ _ => .inl (by simp)) harr⟩
  obtain ⟨e, a', w', hq, harr⟩ := key n a pf w ha h₀
  exact ⟨e, a', w', hq, .of_steps (.one step_loop) harr⟩

/-- the start of a call -/
def initPF (args : List Value) : PF := (args.zipIdx).map fun (v, i) => (i, v)

theorem get_init {args : List Value} : ∀ {k s : Nat} {v : Value}, PF.get ((args.zipIdx k).map fun (v, i) => (i, v)) s = some v → k ≤ s ∧ args[s - k]? = some v := by
  induction args with
  | nil => intro k s v h; simp [PF.get] at h
  | cons x r ih =>
    intro k s v h
    simp only [List.zipIdx_cons, List.map_cons, PF.get] at h
    by_cases e : k = s
    · subst e; simp at h; simp [h]
    · have : Nat.beq k s = false := beq_no e
      simp only [this, cond_false] at h
      have := ih h
      refine ⟨by omega, ?_⟩
      have e2 : s - k = (s - (k + 1)) + 1 := by omega
      rw [e2, List.getElem?_cons_succ]
      exact this.2

def bodyQ (P : Program) (fn : Func) (R : Value → World → Prop) : Exit → PF → World → Prop
  | .normal, pf, w | .ret, pf, w => ∀ t : Array Value, Sub pf t → ∃ v, (results fn t).run P w = .ok v w ∧ R v w
  | _, _, _ => False

theorem calls_of_W {f : FuncId} {fn : Func} {c : Code} {args : List Value} {R : Value → World → Prop}
    (hf : P.funcs[f]? = some fn) (hb : fn.body = some c) (hn : fn.ntmps = N) (ha : args.length ≤ N)
    (h : W P N c (bodyQ P fn R) (initPF args) w) : Calls P f args.toArray w (After R) := by
  refine calls_of_wp hf hb (wp_mono (h _ ⟨?_, rfl, ?_⟩) ?_)
  · simp [hn]; omega
  · intro s v hs
    have := (get_init hs).2
    simp only [Nat.sub_zero] at this
    simp only [Array.getElem?_append, List.size_toArray]
    have hlt : s < args.length := by
      rcases Nat.lt_or_ge s args.length with h | h
      · exact h
      · simp [h] at this
    simp [hlt] at this ⊢
    exact this
  · intro e a w ⟨pf, hg, q⟩
    cases e <;> simp only [bodyQ] at q <;> first | exact q.elim | skip
    all_goals
      obtain ⟨v, hr, hR⟩ := q _ hg.sub
      exact ⟨hg.defers, v, hr, hR⟩
end
end Go.Nep
