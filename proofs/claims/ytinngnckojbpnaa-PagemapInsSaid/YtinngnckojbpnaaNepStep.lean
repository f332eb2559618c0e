import Derived.Test.YtinngnckojbpnaaNepOps2
/-! One operation after the other. -/
namespace Go.Nep
set_option linter.unusedVariables false
set_option linter.unusedSimpArgs false
section
variable {P : Program} {pf : PF} {w : World} {ops : Array Oper} {r : List Oper} {K : PF → World → Prop} {op : Op} {ty : TypeId} {p : String} {af : Array Edge}

theorem RL_nil (h : K pf w) : RL P ops [] K pf w := h
theorem RL_some {d : Nat} (h : X P pf ⟨some d, op, ty, p, af, none⟩ w fun v w' => RL P ops r K ((d, v) :: pf) w') : RL P ops (⟨some d, op, ty, p, af, none⟩ :: r) K pf w := h
theorem RL_none (h : X P pf ⟨none, op, ty, p, af, none⟩ w fun _ w' => RL P ops r K pf w') : RL P ops (⟨none, op, ty, p, af, none⟩ :: r) K pf w := h
theorem RL_on {d j s : Nat} {want : Bool} (hs : gslot ops j = some s) (hg : PF.get pf s = some (.bool want)) (h : X P pf ⟨some d, op, ty, p, af, some (j, want)⟩ w fun v w' => RL P ops r K ((d, v) :: pf) w') :
    RL P ops (⟨some d, op, ty, p, af, some (j, want)⟩ :: r) K pf w := ⟨s, _, hs, hg, .inl ⟨rfl, h⟩⟩
theorem RL_off {d j s : Nat} {want : Bool} (hs : gslot ops j = some s) (hg : PF.get pf s = some (.bool !want)) (h : RL P ops r K ((d, undef) :: pf) w) :
    RL P ops (⟨some d, op, ty, p, af, some (j, want)⟩ :: r) K pf w := ⟨s, _, hs, hg, .inr ⟨by simp, h⟩⟩
theorem RL_off' {d j s : Nat} {want : Bool} (hs : gslot ops j = some s) (hg : PF.get pf s = some undef) (h : RL P ops r K ((d, undef) :: pf) w) :
    RL P ops (⟨some d, op, ty, p, af, some (j, want)⟩ :: r) K pf w := ⟨s, _, hs, hg, .inr ⟨by simp [undef], h⟩⟩

variable {K : Value → World → Prop} {d : Option Nat} {g : Option (Nat × Bool)}
theorem X_cmp_t {bop : BinOp} {t ty2 : TypeId} {x y : Operand} {va vb : Value} {c : Prop} [Decidable c] (h1 : ev pf x = some va) (h2 : ev pf y = some vb) (h : bin bop va vb = some (.bool (decide c))) (hc : c) (k : K (.bool true) w) :
    X P pf ⟨d, .binOp bop t x y ty2, ty, p, af, g⟩ w K := X_bin h1 h2 (by rw [h, decide_eq_true hc]) k
theorem X_cmp_f {bop : BinOp} {t ty2 : TypeId} {x y : Operand} {va vb : Value} {c : Prop} [Decidable c] (h1 : ev pf x = some va) (h2 : ev pf y = some vb) (h : bin bop va vb = some (.bool (decide c))) (hc : ¬ c) (k : K (.bool false) w) :
    X P pf ⟨d, .binOp bop t x y ty2, ty, p, af, g⟩ w K := X_bin h1 h2 (by rw [h, decide_eq_false hc]) k
theorem X_ne_t {bop : BinOp} {t ty2 : TypeId} {x y : Operand} {va vb : Value} {c : Prop} [Decidable c] (h1 : ev pf x = some va) (h2 : ev pf y = some vb) (h : bin bop va vb = some (.bool (!decide c))) (hc : ¬ c) (k : K (.bool true) w) :
    X P pf ⟨d, .binOp bop t x y ty2, ty, p, af, g⟩ w K := X_bin h1 h2 (by rw [h, decide_eq_false hc]; rfl) k
theorem X_ne_f {bop : BinOp} {t ty2 : TypeId} {x y : Operand} {va vb : Value} {c : Prop} [Decidable c] (h1 : ev pf x = some va) (h2 : ev pf y = some vb) (h : bin bop va vb = some (.bool (!decide c))) (hc : c) (k : K (.bool false) w) :
    X P pf ⟨d, .binOp bop t x y ty2, ty, p, af, g⟩ w K := X_bin h1 h2 (by rw [h, decide_eq_true hc]; rfl) k

theorem wrap64_in {e : Int} (h : -9223372036854775808 ≤ e ∧ e ≤ 9223372036854775807) : IntKind.i64.wrap e = e := by
  exact IntWalk.i64_in e h
theorem X_int {bop : BinOp} {t ty2 : TypeId} {x y : Operand} {va vb : Value} {e : Int} (h1 : ev pf x = some va) (h2 : ev pf y = some vb) (h : bin bop va vb = some (.int .i64 (IntKind.i64.wrap e))) (hc : -9223372036854775808 ≤ e ∧ e ≤ 9223372036854775807) (k : K (.int .i64 e) w) :
    X P pf ⟨d, .binOp bop t x y ty2, ty, p, af, g⟩ w K := X_bin h1 h2 (by rw [h, wrap64_in hc]) k

/-- a pointer held against nil -/
def ptB (P : Program) (t : TypeId) : Bool := match P.underlying t with | some (.pointer _) => true | _ => false
theorem ptB_und {t : TypeId} (h : ptB P t = true) : ∃ e, P.underlying t = some (.pointer e) := by
  unfold ptB at h
  split at h
  · exact ⟨_, by assumption⟩
  · simp at h
theorem run_eq_nil {t e : TypeId} {a b : Option Addr} (hu : P.underlying t = some (.pointer e)) (hb : b = none) (w : World) : (Op.equal t (.pointer a) (.pointer b)).run P w = .ok a.isNone w := by
  subst hb
  obtain ⟨m, hm⟩ : ∃ m, Op.maxDepth = m + 1 := ⟨9999, rfl⟩
  unfold Op.equal
  rw [hm]
  cases a <;> simp [Op.equalIn, run_und hu]
theorem run_guard_ptr (bop : BinOp) (t : TypeId) (x y : Operand) (a b : Option Addr) (w : World) : (eqGuard bop t x y (.pointer a) (.pointer b)).run P w = .ok () w := by
  unfold eqGuard
  split <;> rfl
theorem X_isnil {t ty2 : TypeId} {x y : Operand} {ad : Addr} (ht : ptB P t = true) (h : ev pf x = some (.pointer (some ad))) (hy : ev pf y = some (.pointer none)) (k : K (.bool false) w) :
    X P pf ⟨d, .binOp .eql t x y ty2, ty, p, af, g⟩ w K := fun a ha => by
  have e1 := ha x (by simp [Op.operands]) _ h
  have e2 := ha y (by simp [Op.operands]) _ hy
  obtain ⟨e, hu⟩ := ptB_und ht
  simpa [execOp, run_guard_ptr, binOp, run_eq_nil hu rfl, e1, e2, Upon] using k
theorem X_isnil' {t ty2 : TypeId} {x y : Operand} (ht : ptB P t = true) (h : ev pf x = some (.pointer none)) (hy : ev pf y = some (.pointer none)) (k : K (.bool true) w) :
    X P pf ⟨d, .binOp .eql t x y ty2, ty, p, af, g⟩ w K := fun a ha => by
  have e1 := ha x (by simp [Op.operands]) _ h
  have e2 := ha y (by simp [Op.operands]) _ hy
  obtain ⟨e, hu⟩ := ptB_und ht
  simpa [execOp, run_guard_ptr, binOp, run_eq_nil hu rfl, e1, e2, Upon] using k
theorem X_nonnil {t ty2 : TypeId} {x y : Operand} {ad : Addr} (ht : ptB P t = true) (h : ev pf x = some (.pointer (some ad))) (hy : ev pf y = some (.pointer none)) (k : K (.bool true) w) :
    X P pf ⟨d, .binOp .neq t x y ty2, ty, p, af, g⟩ w K := fun a ha => by
  have e1 := ha x (by simp [Op.operands]) _ h
  have e2 := ha y (by simp [Op.operands]) _ hy
  obtain ⟨e, hu⟩ := ptB_und ht
  simpa [execOp, run_guard_ptr, binOp, run_eq_nil hu rfl, e1, e2, Upon] using k
theorem X_nonnil' {t ty2 : TypeId} {x y : Operand} (ht : ptB P t = true) (h : ev pf x = some (.pointer none)) (hy : ev pf y = some (.pointer none)) (k : K (.bool false) w) :
    X P pf ⟨d, .binOp .neq t x y ty2, ty, p, af, g⟩ w K := fun a ha => by
  have e1 := ha x (by simp [Op.operands]) _ h
  have e2 := ha y (by simp [Op.operands]) _ hy
  obtain ⟨e, hu⟩ := ptB_und ht
  simpa [execOp, run_guard_ptr, binOp, run_eq_nil hu rfl, e1, e2, Upon] using k

/-- results that are slots -/
theorem body_tmp {P : Program} {fn : Func} {R : Value → World → Prop} {e : Exit} {pf : PF} {w : World} {t : Nat} {v : Value} (he : e = .normal ∨ e = .ret) (hr : fn.results = #[.tmp t]) (h : PF.get pf t = some v) (hR : R v w) : bodyQ P fn R e pf w := by
  have : ∀ tm : Array Value, Sub pf tm → ∃ v, (results fn tm).run P w = .ok v w ∧ R v w := fun tm hs => ⟨v, by rw [results_tmp hr]; simp [hs t v h], hR⟩
  rcases he with rfl | rfl <;> exact this
theorem body_tmp2 {P : Program} {fn : Func} {R : Value → World → Prop} {e : Exit} {pf : PF} {w : World} {t u : Nat} {v v2 : Value} (he : e = .normal ∨ e = .ret) (hr : fn.results = #[.tmp t, .tmp u]) (h : PF.get pf t = some v) (h2 : PF.get pf u = some v2) (hR : R (.tuple #[v, v2]) w) : bodyQ P fn R e pf w := by
  have : ∀ tm : Array Value, Sub pf tm → ∃ v, (results fn tm).run P w = .ok v w ∧ R v w := fun tm hs => ⟨_, by rw [results_tmp2 hr]; simp [hs t v h, hs u v2 h2], hR⟩
  rcases he with rfl | rfl <;> exact this
theorem body_tmp3 {P : Program} {fn : Func} {R : Value → World → Prop} {e : Exit} {pf : PF} {w : World} {t u s : Nat} {v v2 v3 : Value} (he : e = .normal ∨ e = .ret) (hr : fn.results = #[.tmp t, .tmp u, .tmp s]) (h : PF.get pf t = some v) (h2 : PF.get pf u = some v2) (h3 : PF.get pf s = some v3) (hR : R (.tuple #[v, v2, v3]) w) : bodyQ P fn R e pf w :=
  have : ∀ tm : Array Value, Sub pf tm → ∃ v, (results fn tm).run P w = .ok v w ∧ R v w := fun tm hs => ⟨_, by simp [results, hr, hs _ _ h, hs _ _ h2, hs _ _ h3], hR⟩
  by rcases he with rfl | rfl <;> exact this
theorem body_none {P : Program} {fn : Func} {R : Value → World → Prop} {e : Exit} {pf : PF} {w : World} (he : e = .normal ∨ e = .ret) (hr : fn.results = #[]) (hR : R (.tuple #[]) w) : bodyQ P fn R e pf w := by
  have : ∀ tm : Array Value, Sub pf tm → ∃ v, (results fn tm).run P w = .ok v w ∧ R v w := fun tm _ => ⟨_, by rw [results_none hr], hR⟩
  rcases he with rfl | rfl <;> exact this
end
end Go.Nep
