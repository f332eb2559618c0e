import Derived.Test.YtinngnckojbpnaaNepMap
/-! Ends of regions; regions that draw, step by step. -/
namespace Go.Nep
set_option linter.unusedVariables false
set_option linter.unusedSimpArgs false

/-- what is kept of a list of slots -/
inductive Keep (pf : PF) : PF → Prop
  | nil : Keep pf []
  | cons (s : Nat) {v : Value} {r : PF} (h : PF.get pf s = some v) (k : Keep pf r) : Keep pf ((s, v) :: r)

theorem Keep.get {pf pf' : PF} (h : Keep pf pf') : ∀ {s : Nat} {v : Value}, PF.get pf' s = some v → PF.get pf s = some v := by
  induction h with
  | nil => intro s v h; simp [PF.get] at h
  | cons s' h' k ih =>
    intro s v h
    by_cases e : s' = s
    · subst e; simp [PF.get] at h; rw [h', h]
    · simp [PF.get, beq_no e] at h; exact ih h

section
variable {P : Program} {N : Nat} {Q : Exit → PF → World → Prop} {pf : PF} {w : World}
theorem W_keep {pf' : PF} {c : Code} (h : Keep pf pf') (k : W P N c Q pf' w) : W P N c Q pf w := fun a ha => k a ⟨ha.size, ha.defers, fun s v hs => ha.sub s v (h.get hs)⟩
theorem W_reg {id : Nat} {l : List Oper} (hd : dstsOk N l = true) (h : RL P l.toArray l (fun pf' w' => Q .normal pf' w') pf w) : W P N (.region id l.toArray false) Q pf w := fun a ha =>
  wp_region_lit (RL.wp (fun pf _ _ hg hk => ⟨pf, hg, hk⟩) l (dstsOk_spec hd) pf a w ha h)
theorem calls_to {f : FuncId} {args : Array Value} {R K : Value → World → Prop} (h : Calls P f args w (After R)) (k : ∀ v w', R v w' → K v w') : Calls P f args w (After K) :=
  h.mono fun e w' he => by cases e <;> first | exact k _ _ he | exact he
/-- a point of the code at which several ways meet -/
theorem W_thenR {c : Code} (J : PF → World → Prop) (h : W P N c (thenQ J Q) pf w) (k : ∀ pf w, J pf w → Q .normal pf w) : W P N c Q pf w :=
  h.mono fun e pf w q => by
    cases e with
    | normal => exact k _ _ q
    | _ => exact q
theorem W_cut {x y : Code} (J : PF → World → Prop) (h : W P N x (thenQ J Q) pf w) (k : ∀ pf w, J pf w → W P N y Q pf w) : W P N (.seq x y) Q pf w :=
  W_seq (h.mono fun e pf w q => by cases e <;> first | exact k _ _ q | exact q)

/-! a region that draws, step by step -/
variable {ops : Array Oper} {r a : Plan} {pend : List (Nat × (World → Prop))} {K : PF → World → Prop} {i : Nat} {rc : List Nat} {ty : TypeId} {p : String} {af : Array Edge} {o : Oper} {op : Op}

def RC (rc : List Nat) (pend : List (Nat × (World → Prop))) (w : World) : Prop := ∀ q ∈ pend, rc.contains q.1 = true → q.2 w
theorem rc_nil {rc : List Nat} : RC rc [] w := by intro q hq; simp at hq
theorem rc_skip {c : World → Prop} (h : rc.contains i = false) (t : RC rc pend w) : RC rc ((i, c) :: pend) w := by
  intro q hq hc
  rcases List.mem_cons.1 hq with rfl | hq
  · rw [h] at hc; simp at hc
  · exact t q hq hc
theorem rc_true (t : RC rc pend w) : RC rc ((i, fun _ => True) :: pend) w := by
  intro q hq hc
  rcases List.mem_cons.1 hq with rfl | hq
  · trivial
  · exact t q hq hc
theorem rc_read {c : World → Prop} (h : c w) (t : RC rc pend w) : RC rc ((i, c) :: pend) w := by
  intro q hq hc
  rcases List.mem_cons.1 hq with rfl | hq
  · exact h
  · exact t q hq hc

theorem DD_nil (h : K pf w) : DD P ops .nil pend K pf w := h
theorem DD_eff {d : Option Nat} (ho : ops[i]? = some o) (e : o = ⟨d, op, ty, p, af, none⟩) (h : X P pf ⟨d, op, ty, p, af, none⟩ w fun v w' => RC rc pend w' ∧ DD P ops r pend K (put pf d v) w') : DD P ops (.e i rc r .none) pend K pf w := by
  subst e; exact ⟨⟨_, ho, h⟩, trivial⟩
theorem DD_eff_on {d : Option Nat} {j s : Nat} {want : Bool} (ho : ops[i]? = some o) (e : o = ⟨d, op, ty, p, af, some (j, want)⟩) (hs : gslot ops j = some s) (hg : PF.get pf s = some (.bool want))
    (h : X P pf ⟨d, op, ty, p, af, some (j, want)⟩ w fun v w' => RC rc pend w' ∧ DD P ops r pend K (put pf d v) w') : DD P ops (.e i rc r .none) pend K pf w := by
  subst e; exact ⟨⟨_, ho, s, _, hs, hg, .inl ⟨rfl, h⟩⟩, trivial⟩
theorem DD_eff_off {d : Option Nat} {j s : Nat} {want : Bool} (ho : ops[i]? = some o) (e : o = ⟨d, op, ty, p, af, some (j, want)⟩) (hs : gslot ops j = some s) (hg : PF.get pf s = some (.bool !want))
    (h : RC rc pend w ∧ DD P ops r pend K (put pf d undef) w) : DD P ops (.e i rc r .none) pend K pf w := by
  subst e; exact ⟨⟨_, ho, s, _, hs, hg, .inr ⟨by simp, h⟩⟩, trivial⟩
/-- one of some that are open to be next -/
theorem DD_alt (h : DD P ops (.e i rc r .none) pend K pf w) (h2 : DD P ops a pend K pf w) : DD P ops (.e i rc r a) pend K pf w := ⟨h.1, h2⟩
theorem DD_pure {d : Nat} {v : Value} (ho : ops[i]? = some o) (e : o = ⟨some d, op, ty, p, af, none⟩)
    (hx : ∀ w2, X P pf ⟨some d, op, ty, p, af, none⟩ w2 fun v' w' => v' = v ∧ w' = w2) (h : DD P ops r ((i, fun _ => True) :: pend) K ((d, v) :: pf) w) : DD P ops (.p i r) pend K pf w := by
  subst e; exact ⟨_, v, fun _ => True, ho, trivial, fun w2 _ => hx w2, h⟩
theorem DD_read {d : Nat} {v : Value} (ho : ops[i]? = some o) (e : o = ⟨some d, op, ty, p, af, none⟩)
    (hx : X P pf ⟨some d, op, ty, p, af, none⟩ w fun v' w' => v' = v ∧ w' = w) (h : DD P ops r ((i, fun w2 => X P pf ⟨some d, op, ty, p, af, none⟩ w2 fun v' w' => v' = v ∧ w' = w2) :: pend) K ((d, v) :: pf) w) : DD P ops (.p i r) pend K pf w := by
  subst e; exact ⟨_, v, fun w2 => X P pf ⟨some d, op, ty, p, af, none⟩ w2 fun v' w' => v' = v ∧ w' = w2, ho, hx, fun w2 h => h, h⟩
theorem DD_on {d j s : Nat} {want : Bool} {v : Value} (ho : ops[i]? = some o) (e : o = ⟨some d, op, ty, p, af, some (j, want)⟩) (hs : gslot ops j = some s) (hg : PF.get pf s = some (.bool want))
    (hx : ∀ w2, X P pf ⟨some d, op, ty, p, af, some (j, want)⟩ w2 fun v' w' => v' = v ∧ w' = w2) (h : DD P ops r ((i, fun _ => True) :: pend) K ((d, v) :: pf) w) : DD P ops (.p i r) pend K pf w := by
  subst e; exact ⟨_, v, fun _ => True, ho, trivial, fun w2 _ => ⟨s, _, hs, hg, .inl ⟨rfl, hx w2⟩⟩, h⟩
theorem DD_read_on {d j s : Nat} {want : Bool} {v : Value} (ho : ops[i]? = some o) (e : o = ⟨some d, op, ty, p, af, some (j, want)⟩) (hs : gslot ops j = some s) (hg : PF.get pf s = some (.bool want))
    (hx : X P pf ⟨some d, op, ty, p, af, some (j, want)⟩ w fun v' w' => v' = v ∧ w' = w) (h : DD P ops r ((i, fun w2 => X P pf ⟨some d, op, ty, p, af, some (j, want)⟩ w2 fun v' w' => v' = v ∧ w' = w2) :: pend) K ((d, v) :: pf) w) : DD P ops (.p i r) pend K pf w := by
  subst e; exact ⟨_, v, fun w2 => X P pf ⟨some d, op, ty, p, af, some (j, want)⟩ w2 fun v' w' => v' = v ∧ w' = w2, ho, hx, fun w2 h => ⟨s, _, hs, hg, .inl ⟨rfl, h⟩⟩, h⟩
theorem DD_off {d j s : Nat} {want : Bool} (ho : ops[i]? = some o) (e : o = ⟨some d, op, ty, p, af, some (j, want)⟩) (hs : gslot ops j = some s) (hg : PF.get pf s = some (.bool !want))
    (h : DD P ops r ((i, fun _ => True) :: pend) K ((d, undef) :: pf) w) : DD P ops (.p i r) pend K pf w := by
  subst e; exact ⟨_, undef, fun _ => True, ho, trivial, fun w2 _ => ⟨s, _, hs, hg, .inr ⟨by simp, rfl, rfl⟩⟩, h⟩
theorem DD_off' {d j s : Nat} {want : Bool} (ho : ops[i]? = some o) (e : o = ⟨some d, op, ty, p, af, some (j, want)⟩) (hs : gslot ops j = some s) (hg : PF.get pf s = some undef)
    (h : DD P ops r ((i, fun _ => True) :: pend) K ((d, undef) :: pf) w) : DD P ops (.p i r) pend K pf w := by
  subst e; exact ⟨_, undef, fun _ => True, ho, trivial, fun w2 _ => ⟨s, _, hs, hg, .inr ⟨by simp [undef], rfl, rfl⟩⟩, h⟩
end
end Go.Nep
