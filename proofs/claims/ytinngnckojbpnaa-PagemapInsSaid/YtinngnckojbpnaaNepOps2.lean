import Derived.Test.YtinngnckojbpnaaNepOps
/-! Operations over frames that are known in part: a lemma each. -/
namespace Go.Nep
set_option linter.unusedVariables false
set_option linter.unusedSimpArgs false

def bitOp (op : BinOp) (k : IntKind) (x y : Int) : Int :=
  let a := BitVec.ofInt k.bits x
  let b := BitVec.ofInt k.bits y
  k.wrap (match op with
    | .and => (a &&& b).toNat
    | .or => (a ||| b).toNat
    | .xor => (a ^^^ b).toNat
    | _ => (a &&& ~~~b).toNat)

def shlOp (k : IntKind) (x y : Int) : Int := k.wrap (x * 2 ^ (min y.toNat k.bits))
def shrOp (k : IntKind) (x y : Int) : Int := x.fdiv (2 ^ (min y.toNat k.bits))

def bin (op : BinOp) (a b : Value) : Option Value :=
  match op, a, b with
  | .add, .int k x, .int k' y => if k = k' then some (.int k (k.wrap (x + y))) else none
  | .sub, .int k x, .int k' y => if k = k' then some (.int k (k.wrap (x - y))) else none
  | .mul, .int k x, .int k' y => if k = k' then some (.int k (k.wrap (x * y))) else none
  | .and, .int k x, .int k' y => if k = k' then some (.int k (bitOp .and k x y)) else none
  | .or, .int k x, .int k' y => if k = k' then some (.int k (bitOp .or k x y)) else none
  | .xor, .int k x, .int k' y => if k = k' then some (.int k (bitOp .xor k x y)) else none
  | .andNot, .int k x, .int k' y => if k = k' then some (.int k (bitOp .andNot k x y)) else none
  | .eql, .int k x, .int k' y => if k = k' then some (.bool (decide (x = y))) else none
  | .neq, .int k x, .int k' y => if k = k' then some (.bool (!decide (x = y))) else none
  | .lss, .int k x, .int k' y => if k = k' then some (.bool (decide (x < y))) else none
  | .leq, .int k x, .int k' y => if k = k' then some (.bool (decide (x ≤ y))) else none
  | .gtr, .int k x, .int k' y => if k = k' then some (.bool (decide (y < x))) else none
  | .geq, .int k x, .int k' y => if k = k' then some (.bool (decide (y ≤ x))) else none
  | _, _, _ => none

section
variable {P : Program} {pf : PF} {w : World} {K : Value → World → Prop} {d : Option Nat} {ty : TypeId} {p : String} {af : Array Edge} {g : Option (Nat × Bool)}

theorem X_move {x : Operand} {v : Value} (h : ev pf x = some v) (k : K v w) : X P pf ⟨d, .move x, ty, p, af, g⟩ w K := fun a ha => by
  have hx := ha x (by simp [Op.operands]) v h
  simpa [execOp, Upon, hx] using k
theorem X_assign {x : Operand} {v : Value} (h : ev pf x = some v) (k : K v w) : X P pf ⟨d, .assign x, ty, p, af, g⟩ w K := fun a ha => by
  have hx := ha x (by simp [Op.operands]) v h
  simpa [execOp, Upon, hx] using k
theorem X_pick {c x y : Operand} {b : Bool} {v : Value} (hc : ev pf c = some (.bool b)) (h : ev pf (if b then x else y) = some v) (k : K v w) : X P pf ⟨d, .pick c x y, ty, p, af, g⟩ w K := fun a ha => by
  have h1 := ha c (by simp [Op.operands]) _ hc
  cases b
  · have h2 := ha y (by simp [Op.operands]) v (by simpa using h)
    simpa [execOp, Upon, h1, h2, asBool] using k
  · have h2 := ha x (by simp [Op.operands]) v (by simpa using h)
    simpa [execOp, Upon, h1, h2, asBool] using k
theorem X_nil {x : Operand} {ad : Addr} (h : ev pf x = some (.pointer (some ad))) (k : K (.pointer (some ad)) w) : X P pf ⟨d, .nilCheck x, ty, p, af, g⟩ w K := fun a ha => by
  have hx := ha x (by simp [Op.operands]) _ h
  simpa [execOp, Upon, hx] using k
theorem X_nil_func {x : Operand} {f : FuncId} {fi ca : Array Value} (h : ev pf x = some (.func (.func f) fi ca)) (k : K (.func (.func f) fi ca) w) : X P pf ⟨d, .nilCheck x, ty, p, af, g⟩ w K := fun a ha => by
  have hx := ha x (by simp [Op.operands]) _ h
  simpa [execOp, Upon, hx] using k

theorem run_guard_int (op : BinOp) (t : TypeId) (x y : Operand) (k k' : IntKind) (a b : Int) (w : World) : (eqGuard op t x y (.int k a) (.int k' b)).run P w = .ok () w := by
  unfold eqGuard
  split <;> rfl

theorem run_bin {op : BinOp} {t : TypeId} {a b v : Value} (h : bin op a b = some v) (x y : Operand) (w : World) : (do eqGuard op t x y a b; binOp op t a b : Sem Value).run P w = .ok v w := by
  unfold bin at h
  split at h <;> (first | (simp at h; done) | skip)
  all_goals
    simp only [Option.ite_none_right_eq_some, Option.some.injEq] at h
    obtain ⟨rfl, rfl⟩ := h
    simp only [Sem.run_bind, run_guard_int, Result.andThen_ok, binOp]
    simp [Op.intArith, Op.intBits, Op.intCmp, bitOp]
  all_goals (try (rw [Bool.eq_iff_iff]; simp))

theorem X_bin {op : BinOp} {t ty2 : TypeId} {x y : Operand} {va vb v : Value} (h1 : ev pf x = some va) (h2 : ev pf y = some vb) (h : bin op va vb = some v) (k : K v w) :
    X P pf ⟨d, .binOp op t x y ty2, ty, p, af, g⟩ w K := fun a ha => by
  have e1 := ha x (by simp [Op.operands]) _ h1
  have e2 := ha y (by simp [Op.operands]) _ h2
  simp only [execOp, Sem.run_bind, e1, e2]
  have := run_bin (P := P) (t := t) h x y w
  simp only [Sem.run_bind] at this
  rw [this]
  exact k

theorem X_shl {t ty2 : TypeId} {x y : Operand} {kd k2 : IntKind} {m n : Int} (h1 : ev pf x = some (.int kd m)) (h2 : ev pf y = some (.int k2 n)) (hn : 0 ≤ n) (k : K (.int kd (shlOp kd m n)) w) :
    X P pf ⟨d, .binOp .shl t x y ty2, ty, p, af, g⟩ w K := fun a ha => by
  have e1 := ha x (by simp [Op.operands]) _ h1
  have e2 := ha y (by simp [Op.operands]) _ h2
  simp only [execOp, Sem.run_bind, e1, e2, run_guard_int, Result.andThen_ok, binOp, Op.shift]
  rw [if_neg (by omega)]
  exact k
theorem X_shr {t ty2 : TypeId} {x y : Operand} {kd k2 : IntKind} {m n : Int} (h1 : ev pf x = some (.int kd m)) (h2 : ev pf y = some (.int k2 n)) (hn : 0 ≤ n) (k : K (.int kd (shrOp kd m n)) w) :
    X P pf ⟨d, .binOp .shr t x y ty2, ty, p, af, g⟩ w K := fun a ha => by
  have e1 := ha x (by simp [Op.operands]) _ h1
  have e2 := ha y (by simp [Op.operands]) _ h2
  simp only [execOp, Sem.run_bind, e1, e2, run_guard_int, Result.andThen_ok, binOp, Op.shift]
  rw [if_neg (by omega)]
  exact k
theorem X_quo {t ty2 : TypeId} {x y : Operand} {kd : IntKind} {m n : Int} (h1 : ev pf x = some (.int kd m)) (h2 : ev pf y = some (.int kd n)) (hn : n ≠ 0) (k : K (.int kd (kd.wrap (m.tdiv n))) w) :
    X P pf ⟨d, .binOp .quo t x y ty2, ty, p, af, g⟩ w K := fun a ha => by
  have e1 := ha x (by simp [Op.operands]) _ h1
  have e2 := ha y (by simp [Op.operands]) _ h2
  simp only [execOp, Sem.run_bind, e1, e2, run_guard_int, Result.andThen_ok, binOp, Op.intDiv]
  simpa [hn, Upon] using k
theorem X_rem {t ty2 : TypeId} {x y : Operand} {kd : IntKind} {m n : Int} (h1 : ev pf x = some (.int kd m)) (h2 : ev pf y = some (.int kd n)) (hn : n ≠ 0) (k : K (.int kd (m.tmod n)) w) :
    X P pf ⟨d, .binOp .rem t x y ty2, ty, p, af, g⟩ w K := fun a ha => by
  have e1 := ha x (by simp [Op.operands]) _ h1
  have e2 := ha y (by simp [Op.operands]) _ h2
  simp only [execOp, Sem.run_bind, e1, e2, run_guard_int, Result.andThen_ok, binOp, Op.intDiv]
  simpa [hn, Upon] using k
theorem X_not {t : TypeId} {x : Operand} {b : Bool} (h : ev pf x = some (.bool b)) (k : K (.bool !b) w) : X P pf ⟨d, .unOp .not t x, ty, p, af, g⟩ w K := fun a ha => by
  have e1 := ha x (by simp [Op.operands]) _ h
  simpa [execOp, Op.unary, e1, Upon] using k
theorem X_neg {t : TypeId} {x : Operand} {kd : IntKind} {n : Int} (h : ev pf x = some (.int kd n)) (k : K (.int kd (kd.wrap (0 - n))) w) : X P pf ⟨d, .unOp .neg t x, ty, p, af, g⟩ w K := fun a ha => by
  have e1 := ha x (by simp [Op.operands]) _ h
  simpa [execOp, Op.unary, Op.intArith, e1, Upon] using k
theorem X_com {t : TypeId} {x : Operand} {kd : IntKind} {n : Int} (h : ev pf x = some (.int kd n)) (k : K (.int kd (bitOp .xor kd (if kd.signed then -1 else kd.max) n)) w) : X P pf ⟨d, .unOp .xor t x, ty, p, af, g⟩ w K := fun a ha => by
  have e1 := ha x (by simp [Op.operands]) _ h
  simpa [execOp, Op.unary, Op.intBits, bitOp, e1, Upon] using k

/-- the kind of an integer type -/
def inB (P : Program) (t : TypeId) : Option IntKind := match P.underlying t with | some (.int k) => some k | _ => none
theorem inB_und {t : TypeId} {k : IntKind} (h : inB P t = some k) : P.underlying t = some (.int k) := by
  unfold inB at h
  split at h
  · rename_i k' hu; simp at h; rw [hu, h]
  · simp at h
theorem X_conv {s t : TypeId} {x : Operand} {kd kd' : IntKind} {n : Int} (hs : inB P s = some kd') (ht : inB P t = some kd) (h : ev pf x = some (.int kd' n)) (k : K (.int kd (kd.wrap n)) w) :
    X P pf ⟨d, .convert s t x, ty, p, af, g⟩ w K := fun a ha => by
  have e1 := ha x (by simp [Op.operands]) _ h
  simpa [execOp, convert, Conv.intToInt, e1, Upon, run_und (inB_und ht), run_und (inB_und hs)] using k

theorem X_fieldAddr {s f off : Nat} {ft : TypeId} {x : Operand} {b o : Nat} (hf : fdB P s f = some (off, ft)) (h : ev pf x = some (pt b o)) (k : K (pt b (o + off)) w) :
    X P pf ⟨d, .fieldAddr s x f, ty, p, af, g⟩ w K := fun a ha => by
  have e1 := ha x (by simp [Op.operands]) _ h
  unfold fdB at hf
  split at hf
  · rename_i fs hu
    split at hf
    · rename_i fd hfd
      split at hf
      · rename_i i hi
        split at hf
        · simp at hf
        · rename_i hz
          simp at hf
          obtain ⟨rfl, rfl⟩ := hf
          simpa [execOp, Instr.fieldAt, run_und hu, hfd, Instr.sureAddr, e1, fieldPlace, run_size hi, hz, add_at, Upon] using k
      · simp at hf
    · simp at hf
  · simp at hf

theorem X_idx {t e : TypeId} {n by_ : Nat} {x i : Operand} {b o len cap : Nat} {kd : IntKind} {j : Int} (ht : slB P t = some (e, n, by_)) (h : ev pf x = some (sl b o len cap)) (hi : ev pf i = some (.int kd j))
    (h0 : 0 ≤ j) (hl : j < len) (k : K (pt b (o + j.toNat * n)) w) : X P pf ⟨d, .indexAddr t x i, ty, p, af, g⟩ w K := fun a ha => by
  have e1 := ha x (by simp [Op.operands]) _ h
  have e2 := ha i (by simp [Op.operands]) _ hi
  obtain ⟨hu, inf, hinf, hs, _⟩ := slB_under ht
  subst hs
  simpa [execOp, Instr.indexAt, e1, e2, asIntOf, run_und hu, h0, hl, run_size hinf, add_at, Upon] using k
theorem X_idxA {t e : TypeId} {m n : Nat} {x i : Operand} {b o : Nat} {kd : IntKind} {j : Int} (ht : arB P t = some (m, e, n)) (h : ev pf x = some (pt b o)) (hi : ev pf i = some (.int kd j))
    (h0 : 0 ≤ j) (hl : j < m) (k : K (pt b (o + j.toNat * n)) w) : X P pf ⟨d, .indexAddr t x i, ty, p, af, g⟩ w K := fun a ha => by
  have e1 := ha x (by simp [Op.operands]) _ h
  have e2 := ha i (by simp [Op.operands]) _ hi
  obtain ⟨hu, inf, hinf, hs⟩ := arB_under ht
  subst hs
  simpa [execOp, Instr.indexAt, e1, e2, asIntOf, run_und hu, h0, hl, Instr.sureAddr, run_size hinf, add_at, Upon] using k

/-- a part of a value of several cells -/
def partV (ag : Bool) (n : Nat) (cs : Array Value) (off : Nat) : Option Value := if ag then some (.agg (cs.extract off (off + n))) else cs[off]?
theorem run_part {t : TypeId} {ag : Bool} {n off : Nat} {cs : Array Value} {v : Value} (ht : tyB P t = some (ag, n)) (h : partV ag n cs off = some v) (w : World) : (part t cs off).run P w = .ok v w := by
  unfold part
  cases ag
  · simp only [partV, Bool.false_eq_true, if_false] at h
    simp [tyB_agg ht, h]
  · simp only [partV, if_true, Option.some.injEq] at h
    simp [tyB_agg ht, tyB_size ht, h]
theorem X_field {s f off n : Nat} {ft : TypeId} {ag : Bool} {x : Operand} {cs : Array Value} {v : Value} (hf : fdB P s f = some (off, ft)) (ht : tyB P ft = some (ag, n)) (h : ev pf x = some (.agg cs)) (hv : partV ag n cs off = some v) (k : K v w) :
    X P pf ⟨d, .field s x f, ty, p, af, g⟩ w K := fun a ha => by
  have e1 := ha x (by simp [Op.operands]) _ h
  unfold fdB at hf
  split at hf
  · rename_i fs hu
    split at hf
    · rename_i fd hfd
      split at hf
      · rename_i i hi
        split at hf
        · simp at hf
        · simp at hf
          obtain ⟨rfl, rfl⟩ := hf
          simpa [execOp, Instr.field, run_und hu, hfd, e1, asAgg, run_part ht hv, Upon] using k
      · simp at hf
    · simp at hf
  · simp at hf
theorem X_index {t e : TypeId} {m n n' : Nat} {ag : Bool} {x i : Operand} {kd : IntKind} {j : Int} {cs : Array Value} {v : Value} (ht : arB P t = some (m, e, n)) (he : tyB P e = some (ag, n')) (h : ev pf x = some (.agg cs)) (hi : ev pf i = some (.int kd j))
    (h0 : 0 ≤ j) (hl : j < m) (hv : partV ag n' cs (j.toNat * n) = some v) (k : K v w) : X P pf ⟨d, .index t x i, ty, p, af, g⟩ w K := fun a ha => by
  have e1 := ha x (by simp [Op.operands]) _ h
  have e2 := ha i (by simp [Op.operands]) _ hi
  obtain ⟨hu, inf, hinf, hs⟩ := arB_under ht
  subst hs
  simpa [execOp, Instr.index, e1, e2, asIntOf, run_und hu, h0, hl, run_size hinf, run_part he hv, Upon] using k

theorem X_extract {x : Operand} {vs : Array Value} {j : Nat} {v : Value} (h : ev pf x = some (.tuple vs)) (hv : vs[j]? = some v) (k : K v w) : X P pf ⟨d, .extract x j, ty, p, af, g⟩ w K := fun a ha => by
  have e1 := ha x (by simp [Op.operands]) _ h
  simpa [execOp, Instr.extract, e1, hv, Upon] using k

/-! slices of slices -/
theorem run_bound {kd : IntKind} {i : Int} {y : Nat} {c : BoundsCode} (h0 : 0 ≤ i) (hl : i ≤ y) (w : World) : (Instr.sliceBound (.int kd i) y c).run P w = .ok i.toNat w := by
  simp [Instr.sliceBound, asIntOf, h0, hl]

theorem run_bound' {kd : IntKind} {i : Int} {y : Nat} {c : BoundsCode} (h : 0 ≤ i ∧ i ≤ (y : Int)) (w : World) : (Instr.sliceBound (.int kd i) y c).run P w = .ok i.toNat w := run_bound h.1 h.2 w

/-- what a slice expression's bounds come to -/
def bnd (len cap : Nat) (lo hi mx : Option Value) : Option (Nat × Nat × Nat) :=
  match mx with
  | some (.int _ m) => if 0 ≤ m ∧ m ≤ cap then (match hi with
      | some (.int _ h) => if 0 ≤ h ∧ h ≤ m.toNat then (match lo with
        | some (.int _ l) => if 0 ≤ l ∧ l ≤ h.toNat then some (l.toNat, h.toNat, m.toNat) else none
        | none => some (0, h.toNat, m.toNat)
        | _ => none) else none
      | _ => none) else none
  | none => match hi with
      | some (.int _ h) => if 0 ≤ h ∧ h ≤ cap then (match lo with
        | some (.int _ l) => if 0 ≤ l ∧ l ≤ h.toNat then some (l.toNat, h.toNat, cap) else none
        | none => some (0, h.toNat, cap)
        | _ => none) else none
      | none => (match lo with
        | some (.int _ l) => if 0 ≤ l ∧ l ≤ len then some (l.toNat, len, cap) else none
        | none => some (0, len, cap)
        | _ => none)
      | _ => none
  | _ => none

theorem run_bounds {is : Bool} {len cap : Nat} {lo hi mx : Option Value} {r : Nat × Nat × Nat} (h : bnd len cap lo hi mx = some r) (w : World) : (Instr.sliceBounds is len cap lo hi mx).run P w = .ok r w := by
  unfold bnd at h
  repeat' (split at h)
  all_goals (first | (simp at h; done) | skip)
  all_goals
    simp only [Option.some.injEq] at h
    subst h
    simp (disch := assumption) only [Instr.sliceBounds, run_bound', Sem.run_bind, Sem.run_pure, Result.andThen_ok, Option.isSome_none, Option.isSome_some]

/-- a slice of a slice -/
def resl (n : Nat) (a : Option Addr) (r : Nat × Nat × Nat) : Value :=
  .slice (if r.2.2 = r.1 then a else a.map (·.add (r.1 * n))) (r.2.1 - r.1) (r.2.2 - r.1)

def evO (pf : PF) : Option Operand → Option (Option Value)
  | none => some none
  | some x => (ev pf x).map some

theorem evO_map {a : Act} {x : Option Operand} {v : Option Value} (h : evO pf x = some v) (ha : ∀ y, x = some y → Agrees pf a y) : x.map a.eval = v := by
  cases x with
  | none => simpa [evO] using h
  | some y =>
    simp only [evO, Option.map_eq_some_iff] at h
    obtain ⟨u, hu, rfl⟩ := h
    simp [ha y rfl u hu]

theorem X_slice {t e : TypeId} {n by_ : Nat} {x : Operand} {lo hi mx : Option Operand} {vl vh vm : Option Value} {ad : Option Addr} {len cap : Nat} {r : Nat × Nat × Nat} (ht : slB P t = some (e, n, by_))
    (h : ev pf x = some (.slice ad len cap)) (hlo : evO pf lo = some vl) (hhi : evO pf hi = some vh) (hmx : evO pf mx = some vm) (hr : bnd len cap vl vh vm = some r) (k : K (resl n ad r) w) :
    X P pf ⟨d, .slice t x lo hi mx, ty, p, af, g⟩ w K := fun a ha => by
  have e1 := ha x (by simp [Op.operands]) _ h
  have e2 := evO_map (a := a) hlo fun y hy => ha y (by simp [Op.operands, hy])
  have e3 := evO_map (a := a) hhi fun y hy => ha y (by simp [Op.operands, hy])
  have e4 := evO_map (a := a) hmx fun y hy => ha y (by simp [Op.operands, hy])
  obtain ⟨hu, inf, hinf, hs, _⟩ := slB_under ht
  subst hs
  simp only [execOp, e1, e2, e3, e4, Instr.sliceAt, Sem.run_bind, run_und hu, Result.andThen_ok, Instr.slice, run_bounds hr, run_size hinf, Sem.run_pure]
  exact k
theorem X_sliceA {t e : TypeId} {m n : Nat} {x : Operand} {lo hi mx : Option Operand} {vl vh vm : Option Value} {ad : Addr} {r : Nat × Nat × Nat} (ht : arB P t = some (m, e, n))
    (h : ev pf x = some (.pointer (some ad))) (hlo : evO pf lo = some vl) (hhi : evO pf hi = some vh) (hmx : evO pf mx = some vm) (hr : bnd m m vl vh vm = some r) (k : K (resl n (some ad) r) w) :
    X P pf ⟨d, .slice t x lo hi mx, ty, p, af, g⟩ w K := fun a ha => by
  have e1 := ha x (by simp [Op.operands]) _ h
  have e2 := evO_map (a := a) hlo fun y hy => ha y (by simp [Op.operands, hy])
  have e3 := evO_map (a := a) hhi fun y hy => ha y (by simp [Op.operands, hy])
  have e4 := evO_map (a := a) hmx fun y hy => ha y (by simp [Op.operands, hy])
  obtain ⟨hu, inf, hinf, hs⟩ := arB_under ht
  subst hs
  simp only [execOp, e1, e2, e3, e4, Instr.sliceAt, Sem.run_bind, run_und hu, Result.andThen_ok, Instr.sureAddr, run_bounds hr, run_size hinf, Sem.run_pure, Upon]
  have : resl inf.size (some ad) r = .slice (some (if r.2.2 = r.1 then ad else ad.add (r.1 * inf.size))) (r.2.1 - r.1) (r.2.2 - r.1) := by
    unfold resl
    split <;> rfl
  rw [this] at k
  exact k

/-! len, min, max -/
def lnB (P : Program) (t : TypeId) (v : Value) : Option Nat :=
  match P.underlying t, v with
  | some .string, .string s => some s.size
  | some (.array n _), _ => some n
  | some (.slice _), .slice _ n _ => some n
  | _, _ => none
theorem X_len {t : TypeId} {x : Operand} {ad : Option Addr} {n c : Nat} {e : TypeId} {z b : Nat} (ht : slB P t = some (e, z, b)) (h : ev pf x = some (.slice ad n c)) (k : K (i64 n) w) :
    X P pf ⟨d, .call { callee := .builtin .len, args := #[x], argTypes := #[t] }, ty, p, af, g⟩ w K := fun a ha => by
  have e1 := ha x (by simp [Op.operands, Call.operands]) _ h
  obtain ⟨hu, _⟩ := slB_under ht
  simpa [execOp, resolve, invoke, builtin, Builtin.len_, run_und hu, e1, Upon, goInt] using k
theorem X_lenS {t : TypeId} {x : Operand} {s : ByteArray} (ht : P.underlying t = some .string) (h : ev pf x = some (.string s)) (k : K (i64 s.size) w) :
    X P pf ⟨d, .call { callee := .builtin .len, args := #[x], argTypes := #[t] }, ty, p, af, g⟩ w K := fun a ha => by
  have e1 := ha x (by simp [Op.operands, Call.operands]) _ h
  simpa [execOp, resolve, invoke, builtin, Builtin.len_, run_und ht, e1, Upon, goInt] using k
def imax (x y : Int) : Int := if y > x then y else x
def imin (x y : Int) : Int := if y < x then y else x
theorem X_max2 {t1 t2 : TypeId} {x y : Operand} {k1 k2 : IntKind} {m n : Int} (h1 : ev pf x = some (.int k1 m)) (h2 : ev pf y = some (.int k2 n)) (k : K (.int k1 (imax m n)) w) :
    X P pf ⟨d, .call { callee := .builtin .max, args := #[x, y], argTypes := #[t1, t2] }, ty, p, af, g⟩ w K := fun a ha => by
  have e1 := ha x (by simp [Op.operands, Call.operands]) _ h1
  have e2 := ha y (by simp [Op.operands, Call.operands]) _ h2
  simpa [execOp, resolve, invoke, builtin, Builtin.max_, Builtin.max2, e1, e2, Upon, imax] using k
theorem X_min2 {t1 t2 : TypeId} {x y : Operand} {k1 k2 : IntKind} {m n : Int} (h1 : ev pf x = some (.int k1 m)) (h2 : ev pf y = some (.int k2 n)) (k : K (.int k1 (imin m n)) w) :
    X P pf ⟨d, .call { callee := .builtin .min, args := #[x, y], argTypes := #[t1, t2] }, ty, p, af, g⟩ w K := fun a ha => by
  have e1 := ha x (by simp [Op.operands, Call.operands]) _ h1
  have e2 := ha y (by simp [Op.operands, Call.operands]) _ h2
  simpa [execOp, resolve, invoke, builtin, Builtin.min_, Builtin.min2, e1, e2, Upon, imin] using k

/-! memory -/
theorem X_alloc {e : TypeId} {z : Value} (hz : zeB P e = some z) (k : K (pt w.heap.size 0) (w.alloc (.cells z.cells e))) : X P pf ⟨d, .alloc e, ty, p, af, g⟩ w K := fun a _ => by
  have : (execOp a.eval ⟨d, .alloc e, ty, p, af, g⟩).run P w = .ok (.value (pt w.heap.size 0)) (w.alloc (.cells z.cells e)) := by
    simp only [execOp, Instr.alloc, Sem.run_bind, zeB_run hz, Result.andThen_ok]
    rfl
  rw [this]; exact k
theorem X_box {e : TypeId} {x : Operand} {v : Value} (h : ev pf x = some v) (k : K (pt w.heap.size 0) (w.alloc (.cells v.cells e))) : X P pf ⟨d, .box e x, ty, p, af, g⟩ w K := fun a ha => by
  have e1 := ha x (by simp [Op.operands]) _ h
  have : (execOp a.eval ⟨d, .box e x, ty, p, af, g⟩).run P w = .ok (.value (pt w.heap.size 0)) (w.alloc (.cells v.cells e)) := by
    simp only [execOp, Instr.box, e1]
    rfl
  rw [this]; exact k
theorem X_load {t : TypeId} {n : Nat} {x : Operand} {ad : Addr} {l : List Value} (ht : tyB P t = some (true, n)) (h : ev pf x = some (.pointer (some ad))) (hl : rdN w ad n = some l) (k : K (.agg l.toArray) w) :
    X P pf ⟨d, .load t x, ty, p, af, g⟩ w K := fun a ha => by
  have e1 := ha x (by simp [Op.operands]) _ h
  simpa [execOp, Instr.loadAt, Instr.sureAddr, e1, run_loadVar_agg ht hl, Upon] using k
theorem X_load1 {t : TypeId} {n : Nat} {x : Operand} {ad : Addr} {v : Value} (ht : tyB P t = some (false, n)) (h : ev pf x = some (.pointer (some ad))) (hl : w.cell? ad = some v) (k : K v w) :
    X P pf ⟨d, .load t x, ty, p, af, g⟩ w K := fun a ha => by
  have e1 := ha x (by simp [Op.operands]) _ h
  simpa [execOp, Instr.loadAt, Instr.sureAddr, e1, run_loadVar_one ht hl, Upon] using k
theorem X_store {t : TypeId} {ag : Bool} {n : Nat} {x y : Operand} {b off : Nat} {v : Value} {c : Array Value} {e : TypeId} (ht : tyB P t = some (ag, n)) (h : ev pf x = some (pt b off)) (hv : ev pf y = some v)
    (hb : w.heap[b]? = some (.cells c e (0, 0))) (hn : v.cells.size = n) (hle : off + n ≤ c.size) (h1 : v.cells.toList.all one = true) (k : K undef (upd w b (.cells (splice c off v.cells.toList) e (0, 0)))) :
    X P pf ⟨d, .store t x y, ty, p, af, g⟩ w K := fun a ha => by
  have e1 := ha x (by simp [Op.operands]) _ h
  have e2 := ha y (by simp [Op.operands]) _ hv
  simpa [execOp, Instr.storeAt, Instr.sureAddr, e1, e2, run_storeVar ht hb hn hle h1, Upon] using k

/-! calls -/
/-- a function that is entered -/
def entB (P : Program) (f : FuncId) : Bool := match P.funcs[f]? with
  | some fn => fn.body.isSome && !(fn.name == "runtime.NumGoroutine")
  | none => false
theorem run_call {f : FuncId} {args : Array Value} (h : entB P f = true) (w : World) : (callFunc f args).run P w = .ok (.enter f args) w := by
  unfold entB at h
  split at h
  · rename_i fn hf
    simp at h
    simp [callFunc, hf, program, Sem.run, h]
    cases hb : fn.body with
    | none => simp [hb] at h
    | some c => simp
  · simp at h

def evs (pf : PF) : List Operand → Option (List Value)
  | [] => some []
  | x :: r => match ev pf x, evs pf r with
    | some v, some l => some (v :: l)
    | _, _ => none
theorem evs_map {a : Act} : ∀ {l : List Operand} {vs : List Value}, evs pf l = some vs → (∀ x ∈ l, Agrees pf a x) → l.map a.eval = vs := by
  intro l
  induction l with
  | nil => intro vs h _; simp [evs] at h; simp [h]
  | cons x r ih =>
    intro vs h ha
    simp only [evs] at h
    split at h
    · rename_i v l hv hl
      simp at h
      subst h
      simp [ih hl fun y hy => ha y (List.mem_cons_of_mem _ hy), ha x (List.mem_cons_self ..) v hv]
    · simp at h
theorem X_call {f : FuncId} {as : List Operand} {ts : Array TypeId} {vs : List Value} (hf : entB P f = true) (h : evs pf as = some vs) (k : Calls P f vs.toArray w (After K)) :
    X P pf ⟨d, .call { callee := .value (.func f), args := as.toArray, argTypes := ts }, ty, p, af, g⟩ w K := fun a ha => by
  have e1 := evs_map (a := a) h fun x hx => ha x (by simp [Op.operands, Call.operands, hx])
  simp only [execOp, resolve, Act.eval, Deferred.ofValue, Sem.run_bind, Sem.run_pure, Result.andThen_ok, invoke, List.map_toArray, e1]
  simp only [Array.append_empty, Array.empty_append, run_call hf]
  exact k
theorem X_callv {x : Operand} {f : FuncId} {fi ca : Array Value} {as : List Operand} {ts : Array TypeId} {vs : List Value} (hx : ev pf x = some (.func (.func f) fi ca)) (hf : entB P f = true) (h : evs pf as = some vs)
    (k : Calls P f (fi ++ vs.toArray ++ ca) w (After K)) :
    X P pf ⟨d, .call { callee := .value x, args := as.toArray, argTypes := ts }, ty, p, af, g⟩ w K := fun a ha => by
  have e1 := evs_map (a := a) h fun y hy => ha y (by simp [Op.operands, Call.operands, hy])
  have e2 := ha x (by simp [Op.operands, Call.operands]) _ hx
  simp only [execOp, resolve, e2, Deferred.ofValue, Sem.run_bind, Sem.run_pure, Result.andThen_ok, invoke, List.map_toArray, e1, run_call hf]
  exact k
theorem X_makeFunc {fn : Fn} {as : List Operand} {ca : List Operand} {vs us : List Value} (h : evs pf as = some vs) (hc : evs pf ca = some us) (k : K (.func fn vs.toArray us.toArray) w) :
    X P pf ⟨d, .makeFunc fn as.toArray ca.toArray, ty, p, af, g⟩ w K := fun a ha => by
  have e1 := evs_map (a := a) h fun y hy => ha y (by simp [Op.operands, hy])
  have e2 := evs_map (a := a) hc fun y hy => ha y (by simp [Op.operands, hy])
  simpa [execOp, Instr.makeFunc, e1, e2, Upon] using k
end
end Go.Nep
