import Derived.Test.YtinngnckojbpnaaNepOps3
import Derived.Laws.StructEq
/-! Maps from a struct to an int; structs held against each other. -/
namespace Go.Nep
set_option linter.unusedVariables false
set_option linter.unusedSimpArgs false

/-! structs held against each other -/
/-- what a struct's fields come to, one behind the other -/
inductive EqF (P : Program) (d : Nat) (xs ys : Array Value) : List Field → Bool → Prop
  | nil : EqF P d xs ys [] true
  | cons {f : Field} {l : List Field} {px py : Value} {r1 r2 : Bool} (hn : f.name ≠ "_") (hx : ∀ w, (part f.type xs f.offset).run P w = .ok px w) (hy : ∀ w, (part f.type ys f.offset).run P w = .ok py w)
      (h : ∀ w, (Op.equalIn d f.type px py).run P w = .ok r1 w) (r : EqF P d xs ys l r2) : EqF P d xs ys (f :: l) (r1 && r2)

/-- what two values, held against each other, come to -/
def EqT (P : Program) (d : Nat) (t : TypeId) (x y : Value) (r : Bool) : Prop := ∀ w, (Op.equalIn d t x y).run P w = .ok r w

section
variable {P : Program}

theorem run_eqF {d : Nat} {xs ys : Array Value} {l : List Field} {r : Bool} (h : EqF P d xs ys l r) : ∀ w,
    (forIn (m := Sem) l ((none, ()) : Option Bool × Unit) fun f _ =>
      if f.name ≠ "_" then do
        let __do_lift ← part f.type xs f.offset
        let __do_lift_1 ← part f.type ys f.offset
        let __do_lift ← Op.equalIn d f.type __do_lift __do_lift_1
        if (!__do_lift) = true then pure (ForInStep.done (some false, ())) else pure (ForInStep.yield (none, ()))
      else pure (ForInStep.yield (none, ()))).run P w = .ok (if r then (none, ()) else (some false, ())) w := by
  induction h with
  | nil => intro w; simp
  | cons hn hx hy h _ ih =>
    intro w
    rename_i r1 r2 _
    rw [List.forIn_cons, if_pos hn]
    cases r1
    · simp [hx, hy, h]
    · simp only [Sem.run_bind, hx, hy, h, Result.andThen_ok, Bool.not_true, Bool.false_eq_true, if_false, Sem.run_pure, Bool.true_and]
      exact ih w

theorem EqT_struct {d : Nat} {t : TypeId} {fs : Array Field} {xs ys : Array Value} {r : Bool} (hu : P.underlying t = some (.struct fs)) (hs : P.stoodInHeld t = false) (h : EqF P d xs ys fs.toList r) : EqT P (d + 1) t (.agg xs) (.agg ys) r := by
  intro w
  have := run_eqF h w
  unfold Op.equalIn
  simp only [Sem.run_bind, run_und hu, Result.andThen_ok]
  simp only [program, Sem.run, hs, Bool.false_eq_true, if_false, Sem.run_bind, Result.andThen_ok]
  rw [← Array.forIn_toList, this]
  cases r <;> rfl
theorem EqT_int {d : Nat} {t : TypeId} {k : IntKind} {a b : Int} (h : inB P t = some k) : EqT P (d + 1) t (.int k a) (.int k b) (decide (a = b)) := by
  intro w
  rw [run_equalIn_int _ _ _ _ _ _ _ (inB_und h)]
  rfl
theorem EqT_bool {d : Nat} {t : TypeId} {a b : Bool} (h : P.underlying t = some .bool) : EqT P (d + 1) t (.bool a) (.bool b) (decide (a = b)) := by
  intro w
  rw [run_equalIn_bool' _ _ _ _ _ h]
  rfl
theorem EqF_cons {d : Nat} {xs ys : Array Value} {f : Field} {l : List Field} {ag : Bool} {n : Nat} {px py : Value} {r1 r2 : Bool} (hn : f.name ≠ "_") (ht : tyB P f.type = some (ag, n)) (hx : partV ag n xs f.offset = some px) (hy : partV ag n ys f.offset = some py)
    (h : EqT P d f.type px py r1) (r : EqF P d xs ys l r2) : EqF P d xs ys (f :: l) (r1 && r2) :=
  .cons hn (run_part ht hx) (run_part ht hy) h r
theorem EqT.of {d : Nat} {t : TypeId} {x y : Value} {r r' : Bool} (h : EqT P d t x y r) (e : r = r') : EqT P d t x y r' := e ▸ h

variable {pf : PF} {w : World} {K : Value → World → Prop} {d : Option Nat} {ty : TypeId} {p : String} {af : Array Edge} {g : Option (Nat × Bool)}
theorem X_eqS {t ty2 : TypeId} {x y : Operand} {xs ys : Array Value} {r : Bool} (hg : P.eqGuardType P.depth t = false) (he : EqT P 10000 t (.agg xs) (.agg ys) r) (h : ev pf x = some (.agg xs)) (h2 : ev pf y = some (.agg ys)) (k : K (.bool r) w) :
    X P pf ⟨d, .binOp .eql t x y ty2, ty, p, af, g⟩ w K := fun a ha => by
  have e1 := ha x (by simp [Op.operands]) _ h
  have e2 := ha y (by simp [Op.operands]) _ h2
  simp only [execOp, Sem.run_bind, e1, e2, run_eqGuard_agg _ _ _ _ _ _ _ hg, Result.andThen_ok, run_eql_struct, he w, Sem.run_pure]
  exact k
theorem X_neS {t ty2 : TypeId} {x y : Operand} {xs ys : Array Value} {r : Bool} (hg : P.eqGuardType P.depth t = false) (he : EqT P 10000 t (.agg xs) (.agg ys) r) (h : ev pf x = some (.agg xs)) (h2 : ev pf y = some (.agg ys)) (k : K (.bool !r) w) :
    X P pf ⟨d, .binOp .neq t x y ty2, ty, p, af, g⟩ w K := fun a ha => by
  have e1 := ha x (by simp [Op.operands]) _ h
  have e2 := ha y (by simp [Op.operands]) _ h2
  simp only [execOp, Sem.run_bind, e1, e2, run_eqGuard_agg _ _ _ _ _ _ _ hg, Result.andThen_ok, run_neq_struct, he w, Sem.run_pure]
  exact k
/-- two bools -/
theorem X_eqB {t ty2 : TypeId} {x y : Operand} {a b : Bool} (ht : P.underlying t = some .bool) (h : ev pf x = some (.bool a)) (h2 : ev pf y = some (.bool b)) (k : K (.bool (decide (a = b))) w) :
    X P pf ⟨d, .binOp .eql t x y ty2, ty, p, af, g⟩ w K := fun c ha => by
  have e1 := ha x (by simp [Op.operands]) _ h
  have e2 := ha y (by simp [Op.operands]) _ h2
  have hgd : (eqGuard .eql t x y (.bool a) (.bool b)).run P w = .ok () w := by unfold eqGuard; split <;> rfl
  have he : (Op.equal t (.bool a) (.bool b)).run P w = .ok (decide (a = b)) w := EqT_bool (d := 9999) ht w
  simp only [execOp, Sem.run_bind, e1, e2, hgd, Result.andThen_ok, binOp, he, Sem.run_pure]
  exact k
theorem X_neB {t ty2 : TypeId} {x y : Operand} {a b : Bool} (ht : P.underlying t = some .bool) (h : ev pf x = some (.bool a)) (h2 : ev pf y = some (.bool b)) (k : K (.bool (!decide (a = b))) w) :
    X P pf ⟨d, .binOp .neq t x y ty2, ty, p, af, g⟩ w K := fun c ha => by
  have e1 := ha x (by simp [Op.operands]) _ h
  have e2 := ha y (by simp [Op.operands]) _ h2
  have hgd : (eqGuard .neq t x y (.bool a) (.bool b)).run P w = .ok () w := by unfold eqGuard; split <;> rfl
  have he : (Op.equal t (.bool a) (.bool b)).run P w = .ok (decide (a = b)) w := EqT_bool (d := 9999) ht w
  simp only [execOp, Sem.run_bind, e1, e2, hgd, Result.andThen_ok, binOp, he, Sem.run_pure]
  exact k
end

/-! maps -/
/-- what a map's key asks -/
structure KeyLaw (P : Program) (kt : TypeId) {α : Type} [DecidableEq α] (pk : α → Value) : Prop where
  und : ∃ fs, P.underlying kt = some (.struct fs)
  eq : ∀ a b, EqT P 10000 kt (pk a) (pk b) (decide (a = b))
  chk : ∀ e a w, (Instr.checkKey e 10000 kt (pk a)).run P w = .ok () w
  bits : ∀ a, Instr.sameBits 10000 (pk a) (pk a) = true

abbrev Ents (α : Type) := List (α × Int × Nat)

section
variable {α : Type}

def encE (pk : α → Value) (E : Ents α) : Array MapEntry := (E.map fun x => { key := pk x.1, val := i64 x.2.1, born := x.2.2 }).toArray
def idxE [DecidableEq α] (E : Ents α) (a : α) : Option Nat := E.findIdx? fun x => decide (x.1 = a)
def valE [DecidableEq α] (E : Ents α) (a : α) : Int := ((E.find? fun x => decide (x.1 = a)).map (·.2.1)).getD 0

/-- a map's block -/
def Gm (pk : α → Value) (b : Nat) (E : Ents α) (clock : Nat) : Asn := Pt b (.map (encE pk E) clock)

variable {P : Program} {kt : TypeId} {pk : α → Value}

theorem run_findAsking [DecidableEq α] (KL : KeyLaw P kt pk) (a : α) : ∀ (E : Ents α) (i : Nat) (w : World),
    (Instr.findAsking kt (pk a) (E.map fun x => { key := pk x.1, val := i64 x.2.1, born := x.2.2 }) i).run P w = .ok ((idxE E a).map fun j => (i + j, i64 (valE E a))) w := by
  intro E
  induction E with
  | nil => intro i w; simp [Instr.findAsking, idxE]
  | cons x r ih =>
    intro i w
    have he : (Op.equal kt (pk a) (pk x.1)).run P w = .ok (decide (a = x.1)) w := KL.eq a x.1 w
    simp only [List.map_cons, Instr.findAsking, Sem.run_bind, he, Result.andThen_ok]
    by_cases h : a = x.1
    · subst h
      simp [idxE, valE, List.findIdx?_cons]
    · have h' : ¬ x.1 = a := fun e => h e.symm
      simp only [h, decide_false, Bool.false_eq_true, if_false, ih]
      simp [idxE, valE, List.findIdx?_cons, h']
      cases List.findIdx? (fun x => decide (x.1 = a)) r <;> simp <;> omega

theorem run_findKey [DecidableEq α] (KL : KeyLaw P kt pk) (a : α) (E : Ents α) (w : World) : (Instr.findKey kt (pk a) (encE pk E).toList).run P w = .ok ((idxE E a).map fun j => (j, i64 (valE E a))) w := by
  obtain ⟨fs, hu⟩ := KL.und
  unfold Instr.findKey encE
  simp only [Sem.run_bind, run_und hu, Result.andThen_ok]
  cases E with
  | nil => simp [Instr.findNow, idxE]
  | cons x r =>
    have : Instr.findNow (.struct fs) (pk a) (List.map (fun x => { key := pk x.1, val := i64 x.2.1, born := x.2.2 : MapEntry }) (x :: r)) 0 = none := by
      simp [Instr.findNow, Instr.sameNow]
    simp only [this, run_findAsking KL]
    simp

/-- a map's type -/
def mpB (P : Program) (t : TypeId) : Option (TypeId × TypeId) := match P.underlying t with | some (.map k e) => some (k, e) | _ => none
theorem mpB_und {t k e : TypeId} (h : mpB P t = some (k, e)) : P.underlying t = some (.map k e) := by
  unfold mpB at h
  split at h
  · rename_i k' e' hu; simp at h; rw [hu, h.1, h.2]
  · simp at h

variable {w0 w : World} {L : List Asn} {pf : PF} {K : Value → World → Prop} {d : Option Nat} {ty : TypeId} {p : String} {af : Array Edge} {g : Option (Nat × Bool)}

theorem idx_none [DecidableEq α] {E : Ents α} {a : α} (h : idxE E a = none) : valE E a = 0 := by
  unfold idxE at h
  unfold valE
  rw [List.findIdx?_eq_none_iff] at h
  have : E.find? (fun x => decide (x.1 = a)) = none := by
    rw [List.find?_eq_none]; intro x hx; simpa using h x hx
  simp [this]

theorem S_lookup [DecidableEq α] (H : St w0 w L) (i : Nat) {t e : TypeId} {x y : Operand} {b clock : Nat} {E : Ents α} {a : α} (KL : KeyLaw P kt pk) (ht : mpB P t = some (kt, e)) (hz : zeB P e = some (i64 0)) (hx : ev pf x = some (.map (some b))) (hy : ev pf y = some (pk a))
    (hi : L[i]? = some (Gm pk b E clock)) (k : K (i64 (valE E a)) w) : X P pf ⟨d, .lookup t x y false, ty, p, af, g⟩ w K := fun c ha => by
  have e1 := ha x (by simp [Op.operands]) _ hx
  have e2 := ha y (by simp [Op.operands]) _ hy
  have hb : w.heap[b]? = some (.map (encE pk E) clock) := H.rd i hi
  have hrun : (Instr.lookup t (.map (some b)) (pk a) false).run P w = .ok (i64 (valE E a)) w := by
    unfold Instr.lookup
    simp only [Sem.run_bind, run_und (mpB_und ht), Result.andThen_ok]
    have hg : (getObj b).run P w = .ok (.map (encE pk E) clock) w := by simp [getObj, Sem.run, hb]
    simp only [Sem.run_bind, hg, Result.andThen_ok, Sem.run_pure, KL.chk, run_findKey KL]
    cases h : idxE E a with
    | none => simp [zeB_run hz, idx_none h]
    | some j => simp
  simp only [execOp, Sem.run_bind, e1, e2, hrun, Result.andThen_ok, Sem.run_pure]
  exact k
theorem S_lookup_nil [DecidableEq α] {t e : TypeId} {x y : Operand} {a : α} (KL : KeyLaw P kt pk) (ht : mpB P t = some (kt, e)) (hz : zeB P e = some (i64 0)) (hx : ev pf x = some (.map none)) (hy : ev pf y = some (pk a))
    (k : K (i64 0) w) : X P pf ⟨d, .lookup t x y false, ty, p, af, g⟩ w K := fun c ha => by
  have e1 := ha x (by simp [Op.operands]) _ hx
  have e2 := ha y (by simp [Op.operands]) _ hy
  have hrun : (Instr.lookup t (.map none) (pk a) false).run P w = .ok (i64 0) w := by
    unfold Instr.lookup
    simp only [Sem.run_bind, run_und (mpB_und ht), Result.andThen_ok, Sem.run_pure, KL.chk]
    have := run_findKey KL a [] w
    simp only [encE, List.map_nil] at this
    simp [this, idxE, zeB_run hz]
  simp only [execOp, Sem.run_bind, e1, e2, hrun, Result.andThen_ok, Sem.run_pure]
  exact k

theorem S_makeMap (H : St w0 w L) {t : TypeId} (pk : α → Value) (k : ∀ b w', St w0 w' (Gm pk b [] 0 :: L) → K (.map (some b)) w') : X P pf ⟨d, .makeMap t none, ty, p, af, g⟩ w K := fun c _ => by
  have hrun : (Instr.makeMap t none).run P w = .ok (.map (some w.heap.size)) (w.alloc (.map #[] 0)) := by
    unfold Instr.makeMap; rfl
  simp only [execOp, Sem.run_bind, Option.map_none, hrun, Result.andThen_ok, Sem.run_pure]
  exact k _ _ (H.alloc _)

theorem run_stays [DecidableEq α] (KL : KeyLaw P kt pk) (a : α) (w : World) : (Instr.keyThatStays (pk a) (pk a)).run P w = .ok (pk a) w := by
  unfold Instr.keyThatStays
  simp [KL.bits a]

theorem run_setObj {w : World} {b : Nat} {es : Array MapEntry} {cl : Nat} (h : w.heap[b]? = some (.map es cl)) (o : Obj) : (setObj b o).run P w = .ok () (upd w b o) := by
  simp [setObj, Sem.run, h, upd]
theorem run_getMap {w : World} {b : Nat} {es : Array MapEntry} {cl : Nat} (h : w.heap[b]? = some (.map es cl)) : (getObj b).run P w = .ok (.map es cl) w := by
  simp [getObj, Sem.run, h]

theorem idx_some [DecidableEq α] {E : Ents α} {a : α} {j : Nat} (h : idxE E a = some j) : ∃ hj : j < E.length, E[j].1 = a := by
  unfold idxE at h
  rw [List.findIdx?_eq_some_iff_getElem] at h
  obtain ⟨hj, h1, _⟩ := h
  exact ⟨hj, by simpa using h1⟩

theorem modify_same {l : Array MapEntry} {j : Nat} {f : MapEntry → MapEntry} (h : ∀ e, l[j]? = some e → f e = e) : l.modify j f = l := by
  apply Array.ext
  · simp
  · intro i h1 h2
    rw [Array.getElem_modify]
    split
    · rename_i e; subst e; exact h _ (by simp [h2])
    · rfl

/-- an entry, made ready: 'm[k] op= v' -/
theorem S_entry [DecidableEq α] (H : St w0 w L) (i : Nat) {t e : TypeId} {x y : Operand} {b clock : Nat} {E : Ents α} {a : α} (KL : KeyLaw P kt pk) (ht : mpB P t = some (kt, e)) (hz : zeB P e = some (i64 0)) (hx : ev pf x = some (.map (some b))) (hy : ev pf y = some (pk a))
    (hi : L[i]? = some (Gm pk b E clock))
    (k1 : ∀ j (hj : j < E.length), idxE E a = some j → E[j].1 = a → ∀ w', St w0 w' L → K (.tuple #[i64 (valE E a), i64 E[j].2.2]) w')
    (k2 : idxE E a = none → ∀ w', St w0 w' (L.set i (Gm pk b (E ++ [(a, 0, clock)]) (clock + 1))) → K (.tuple #[i64 0, i64 clock]) w') : X P pf ⟨d, .mapEntry t x y, ty, p, af, g⟩ w K := fun c ha => by
  have e1 := ha x (by simp [Op.operands]) _ hx
  have e2 := ha y (by simp [Op.operands]) _ hy
  have hb : w.heap[b]? = some (.map (encE pk E) clock) := H.rd i hi
  simp only [execOp, e1, e2]
  unfold Instr.mapEntry
  simp only [Sem.run_bind, run_und (mpB_und ht), Result.andThen_ok, run_getMap hb, KL.chk, run_findKey KL]
  cases h : idxE E a with
  | some j =>
    obtain ⟨hj, hja⟩ := idx_some h
    have hent : (encE pk E)[j]? = some { key := pk a, val := i64 E[j].2.1, born := E[j].2.2 } := by simp [encE, hj, hja]
    simp only [Option.map_some, Sem.run_bind, hent, Option.getD_some, run_stays KL, Result.andThen_ok, Sem.run_pure]
    rw [modify_same (fun e he => by rw [hent] at he; simp at he; subst he; rfl), run_setObj hb, upd_same hb]
    simp only [Result.andThen_ok]
    exact k1 j hj h hja w H
  | none =>
    simp only [Option.map_none, Sem.run_bind, zeB_run hz, Result.andThen_ok, run_setObj hb, Sem.run_pure]
    refine k2 h _ ?_
    have : (encE pk E).push { key := pk a, val := i64 0, born := clock } = encE pk (E ++ [(a, 0, clock)]) := by simp [encE]
    rw [this]
    exact H.up i hi _

theorem S_entryStore (H : St w0 w L) (i : Nat) {t : TypeId} {x y z : Operand} {b clock stamp j : Nat} {E : Ents α} {v : Int} (hx : ev pf x = some (.map (some b))) (hy : ev pf y = some (i64 stamp)) (hz : ev pf z = some (i64 v))
    (hi : L[i]? = some (Gm pk b E clock)) (hf : E.findIdx? (fun x => decide (x.2.2 = stamp)) = some j) (k : ∀ w', St w0 w' (L.set i (Gm pk b (E.modify j fun x => (x.1, v, x.2.2)) clock)) → K undef w') : X P pf ⟨d, .entryStore t x y z, ty, p, af, g⟩ w K := fun c ha => by
  have e1 := ha x (by simp [Op.operands]) _ hx
  have e2 := ha y (by simp [Op.operands]) _ hy
  have e3 := ha z (by simp [Op.operands]) _ hz
  have hb : w.heap[b]? = some (.map (encE pk E) clock) := H.rd i hi
  have hf' : (encE pk E).findIdx? (fun e => (e.born : Int) == (stamp : Int)) = some j := by
    unfold encE
    rw [List.findIdx?_toArray, List.findIdx?_map]
    rw [← hf]
    congr 1
    funext x
    rw [Bool.eq_iff_iff]; simp; omega
  have hm : (encE pk E).modify j (fun e => { e with val := i64 v }) = encE pk (E.modify j fun x => (x.1, v, x.2.2)) := by
    apply Array.ext
    · simp [encE]
    · intro q h1 h2
      simp only [encE, Array.getElem_modify, List.getElem_toArray, List.getElem_map, List.getElem_modify]
      split <;> rfl
  have hrun : (Instr.entryStore t (.map (some b)) (i64 stamp) (i64 v)).run P w = .ok () (upd w b (.map (encE pk (E.modify j fun x => (x.1, v, x.2.2))) clock)) := by
    unfold Instr.entryStore
    simp only [Sem.run_bind, run_getMap hb, Result.andThen_ok, asInt, asIntOf, Sem.run_pure, hf', run_setObj hb, hm]
  simp only [execOp, Sem.run_bind, e1, e2, e3, hrun, Result.andThen_ok, Sem.run_pure]
  exact k _ (H.up i hi _)

theorem S_update [DecidableEq α] (H : St w0 w L) (i : Nat) {t e : TypeId} {x y z : Operand} {b clock : Nat} {E : Ents α} {a : α} {v : Int} (KL : KeyLaw P kt pk) (ht : mpB P t = some (kt, e)) (hx : ev pf x = some (.map (some b))) (hy : ev pf y = some (pk a)) (hz : ev pf z = some (i64 v))
    (hi : L[i]? = some (Gm pk b E clock))
    (k1 : ∀ j, idxE E a = some j → ∀ w', St w0 w' (L.set i (Gm pk b (E.modify j fun x => (x.1, v, x.2.2)) clock)) → K undef w')
    (k2 : idxE E a = none → ∀ w', St w0 w' (L.set i (Gm pk b (E ++ [(a, v, clock)]) (clock + 1))) → K undef w') : X P pf ⟨d, .mapUpdate t x y z, ty, p, af, g⟩ w K := fun c ha => by
  have e1 := ha x (by simp [Op.operands]) _ hx
  have e2 := ha y (by simp [Op.operands]) _ hy
  have e3 := ha z (by simp [Op.operands]) _ hz
  have hb : w.heap[b]? = some (.map (encE pk E) clock) := H.rd i hi
  simp only [execOp, e1, e2, e3]
  unfold Instr.mapUpdate
  simp only [Sem.run_bind, run_und (mpB_und ht), Result.andThen_ok, run_getMap hb, KL.chk, run_findKey KL]
  cases h : idxE E a with
  | some j =>
    obtain ⟨hj, hja⟩ := idx_some h
    have hent : (encE pk E)[j]? = some { key := pk a, val := i64 E[j].2.1, born := E[j].2.2 } := by simp [encE, hj, hja]
    simp only [Option.map_some, Sem.run_bind, hent, Option.getD_some, run_stays KL, Result.andThen_ok, Sem.run_pure]
    have hm : (encE pk E).modify j (fun e => { e with key := pk a, val := i64 v }) = encE pk (E.modify j fun x => (x.1, v, x.2.2)) := by
      apply Array.ext
      · simp [encE]
      · intro q h1 h2
        simp only [encE, Array.getElem_modify, List.getElem_toArray, List.getElem_map, List.getElem_modify]
        split
        · rename_i e; subst e; simp [hja]
        · rfl
    rw [hm, run_setObj hb]
    exact k1 j h _ (H.up i hi _)
  | none =>
    simp only [Option.map_none, Sem.run_bind, run_setObj hb, Result.andThen_ok, Sem.run_pure]
    refine k2 h _ ?_
    have : (encE pk E).push { key := pk a, val := i64 v, born := clock } = encE pk (E ++ [(a, v, clock)]) := by simp [encE]
    rw [this]
    exact H.up i hi _

theorem erase_map {β γ : Type} (f : β → γ) : ∀ (l : List β) (j : Nat), (l.map f).eraseIdx j = (l.eraseIdx j).map f := by
  intro l
  induction l with
  | nil => intro j; simp
  | cons x r ih => intro j; cases j <;> simp [ih]

theorem S_delete [DecidableEq α] (H : St w0 w L) (i : Nat) {t e kt2 : TypeId} {x y : Operand} {b clock : Nat} {E : Ents α} {a : α} (KL : KeyLaw P kt pk) (ht : mpB P t = some (kt, e)) (hx : ev pf x = some (.map (some b))) (hy : ev pf y = some (pk a))
    (hi : L[i]? = some (Gm pk b E clock))
    (k : ∀ w', St w0 w' (L.set i (Gm pk b (match idxE E a with | some j => E.eraseIdx j | none => E) clock)) → K (.tuple #[]) w') :
    X P pf ⟨d, .call { callee := .builtin .delete, args := #[x, y], argTypes := #[t, kt2] }, ty, p, af, g⟩ w K := fun c ha => by
  have e1 := ha x (by simp [Op.operands, Call.operands]) _ hx
  have e2 := ha y (by simp [Op.operands, Call.operands]) _ hy
  have hb : w.heap[b]? = some (.map (encE pk E) clock) := H.rd i hi
  have hrun : (Builtin.delete_ #[t, kt2] ty #[.map (some b), pk a]).run P w = .ok (.tuple #[]) (upd w b (.map (encE pk (match idxE E a with | some j => E.eraseIdx j | none => E)) clock)) := by
    unfold Builtin.delete_
    simp only [Sem.run_bind, List.getElem?_toArray, List.getElem?_cons_zero, List.getElem?_cons_succ, run_und (mpB_und ht), Result.andThen_ok, run_getMap hb, KL.chk, run_findKey KL]
    cases h : idxE E a with
    | some j =>
      obtain ⟨hj, hja⟩ := idx_some h
      have : (encE pk E).eraseIdxIfInBounds j = encE pk (E.eraseIdx j) := by
        simp [encE, Array.eraseIdxIfInBounds, hj, erase_map]
      simp only [Option.map_some, Sem.run_bind, this, run_setObj hb, Result.andThen_ok, Sem.run_pure]
    | none => simp only [Option.map_none, Sem.run_bind, run_setObj hb, Result.andThen_ok, Sem.run_pure]
  simp only [execOp, resolve, invoke, builtin, Sem.run_bind, Sem.run_pure, Result.andThen_ok, List.map_toArray, List.map_cons, List.map_nil, e1, e2, hrun]
  exact k _ (H.up i hi _)
end
end Go.Nep
