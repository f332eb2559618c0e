import Derived.Test.YtinngnckojbpnaaNepFlat
/-! Results of whatever make; a map against nil. -/
namespace Go.Nep
set_option linter.unusedVariables false
set_option linter.unusedSimpArgs false

theorem bnd_lh {len cap : Nat} {k k' : IntKind} {l h : Int} (h0 : 0 ≤ l) (h1 : l ≤ h) (h2 : h ≤ cap) : bnd len cap (some (.int k l)) (some (.int k' h)) none = some (l.toNat, h.toNat, cap) := by
  unfold bnd
  simp only
  rw [if_pos (by omega), if_pos (by omega)]
theorem bnd_l {len cap : Nat} {k : IntKind} {l : Int} (h0 : 0 ≤ l) (h1 : l ≤ len) : bnd len cap (some (.int k l)) none none = some (l.toNat, len, cap) := by
  unfold bnd
  simp only
  rw [if_pos (by omega)]
theorem bnd_h {len cap : Nat} {k' : IntKind} {h : Int} (h1 : 0 ≤ h) (h2 : h ≤ cap) : bnd len cap none (some (.int k' h)) none = some (0, h.toNat, cap) := by
  unfold bnd
  simp only
  rw [if_pos (by omega)]
theorem bnd_lhm {len cap : Nat} {k k' k'' : IntKind} {l h m : Int} (h0 : 0 ≤ l) (h1 : l ≤ h) (h2 : h ≤ m) (h3 : m ≤ cap) : bnd len cap (some (.int k l)) (some (.int k' h)) (some (.int k'' m)) = some (l.toNat, h.toNat, m.toNat) := by
  unfold bnd
  simp only
  rw [if_pos (by omega), if_pos (by omega), if_pos (by omega)]

/-- what result variables hold -/
inductive ResV (P : Program) (pf : PF) (w : World) : List ResultVar → List Value → Prop
  | nil : ResV P pf w [] []
  | tmp {t : Nat} {v : Value} {r : List ResultVar} {vs : List Value} (h : PF.get pf t = some v) (k : ResV P pf w r vs) : ResV P pf w (.tmp t :: r) (v :: vs)
  | cell {a : Nat} {ty : TypeId} {ad : Addr} {v : Value} {r : List ResultVar} {vs : List Value} (h : PF.get pf a = some (.pointer (some ad))) (hl : (loadVar ty ad).run P w = .ok v w) (k : ResV P pf w r vs) : ResV P pf w (.cell a ty :: r) (v :: vs)

theorem getD_some {t : Array Value} {x : Nat} {v : Value} (h : t[x]? = some v) : t.getD x undef = v := by
  rw [Array.getD_eq_getD_getElem?, h]; rfl

theorem run_asAddr {P : Program} (ad : Addr) (w : World) : (asAddr (.pointer (some ad))).run P w = .ok ad w := rfl

theorem resV_run {P : Program} {pf : PF} {w : World} {rs : List ResultVar} {vs : List Value} (h : ResV P pf w rs vs) {t : Array Value} (hs : Sub pf t) (f : ResultVar → Sem Value)
    (h1 : ∀ x, f (.tmp x) = pure (t.getD x undef)) (h2 : ∀ a ty, f (.cell a ty) = (do loadVar ty (← asAddr (t.getD a undef)))) : (rs.mapM f).run P w = .ok vs w := by
  induction h with
  | nil => simp
  | tmp h k ih =>
    rw [List.mapM_cons]
    simp only [Sem.run_bind, h1, getD_some (hs _ _ h), Sem.run_pure, Result.andThen_ok, ih]
  | cell h hl k ih =>
    rw [List.mapM_cons]
    simp only [Sem.run_bind, h2, getD_some (hs _ _ h), run_asAddr, hl, Sem.run_pure, Result.andThen_ok, ih]

theorem body_list {P : Program} {fn : Func} {R : Value → World → Prop} {e : Exit} {pf : PF} {w : World} {rs : List ResultVar} {vs : List Value} (he : e = .normal ∨ e = .ret) (hr : fn.results = rs.toArray) (h : ResV P pf w rs vs)
    (hn : vs.length ≠ 1) (hR : R (.tuple vs.toArray) w) : bodyQ P fn R e pf w := by
  have : ∀ tm : Array Value, Sub pf tm → ∃ v, (results fn tm).run P w = .ok v w ∧ R v w := fun tm hs => by
    refine ⟨_, ?_, hR⟩
    unfold results
    rw [hr, Array.mapM_eq_mapM_toList]
    simp only [Sem.run_bind, Sem.run_map]
    rw [resV_run h hs _ (fun _ => rfl) (fun _ _ => rfl)]
    simp [hn]
  rcases he with rfl | rfl <;> exact this

section
variable {P : Program} {pf : PF} {w : World} {K : Value → World → Prop} {d : Option Nat} {ty : TypeId} {p : String} {af : Array Edge} {g : Option (Nat × Bool)}
theorem X_mapnil {t ty2 k e : TypeId} {x y : Operand} {r : Nat} (ht : mpB P t = some (k, e)) (h : ev pf x = some (.map (some r))) (hy : ev pf y = some (.map none)) (kk : K (.bool false) w) :
    X P pf ⟨d, .binOp .eql t x y ty2, ty, p, af, g⟩ w K := fun a ha => by
  have e1 := ha x (by simp [Op.operands]) _ h
  have e2 := ha y (by simp [Op.operands]) _ hy
  have hgd : (eqGuard .eql t x y (.map (some r)) (.map none)).run P w = .ok () w := by unfold eqGuard; split <;> rfl
  have he : (Op.equal t (.map (some r)) (.map none)).run P w = .ok false w := by
    obtain ⟨m, hm⟩ : ∃ m, Op.maxDepth = m + 1 := ⟨9999, rfl⟩
    unfold Op.equal
    rw [hm]
    simp [Op.equalIn, run_und (mpB_und ht)]
  simp only [execOp, Sem.run_bind, e1, e2, hgd, Result.andThen_ok, binOp, he, Sem.run_pure]
  exact kk
theorem rd_of {w0 : World} {L : List Asn} (H : St w0 w L) (i : Nat) {b off n : Nat} {c : Array Value} {e : TypeId} {l : List Value} (hi : L[i]? = some (Cs b c e)) (hl : (c.toList.drop off).take n = l) (hle : off + n ≤ c.size) : rdN w ⟨b, off, none⟩ n = some l := by
  simp [rdN, H.rdC i hi, hle, hl]
theorem loadV_agg {t : TypeId} {n : Nat} {b off : Nat} {c : Array Value} {e : TypeId} {l : List Value} {w0 : World} {L : List Asn} (H : St w0 w L) (i : Nat) (ht : tyB P t = some (true, n)) (hi : L[i]? = some (Cs b c e))
    (hl : (c.toList.drop off).take n = l) (hle : off + n ≤ c.size) : (loadVar t ⟨b, off, none⟩).run P w = .ok (.agg l.toArray) w :=
  run_loadVar_agg ht (by simp [rdN, H.rdC i hi, hle, hl])
theorem loadV_one {t : TypeId} {n : Nat} {b off : Nat} {c : Array Value} {e : TypeId} {v : Value} {w0 : World} {L : List Asn} (H : St w0 w L) (i : Nat) (ht : tyB P t = some (false, n)) (hi : L[i]? = some (Cs b c e))
    (hl : c[off]? = some v) : (loadVar t ⟨b, off, none⟩).run P w = .ok v w :=
  run_loadVar_one ht (by rw [cell_of (H.rdC i hi)]; exact hl)
end
theorem zrow1 {z : Array Value} {n : Nat} (h : z.size = n) : zrow z (1 * n) = z := by
  subst h
  unfold zrow
  apply Array.ext
  · simp
  · intro i h1 h2
    simp [Nat.mod_eq_of_lt h2, h2]
theorem fill1 {z c : Array Value} {k : Nat} {v : List (Nat × Value)} (h : z.size = k) (h2 : Instr.fill (fun i => some (i * k, k)) z v = some c) : Instr.fill (fun i => some (i * k, k)) (zrow z (1 * k)) v = some c := by
  rw [zrow1 h]; exact h2
theorem St.rowNil {w0 w : World} {L : List Asn} {e : TypeId} {k : Nat} (H : St w0 w L) : St w0 w (Row (.slice none 0 0) e k 0 [] :: L) :=
  H.emp.imp fun h p => ⟨by simp, .inl ⟨rfl, rfl, p⟩⟩
theorem St.out {w0 w : World} {A L : List Asn} {P : Asn} (H : St w0 w (A ++ P :: L)) : St w0 w (P :: (A ++ L)) := H.perm List.perm_middle
theorem St.into {w0 w : World} {A L : List Asn} {P : Asn} (H : St w0 w (P :: (A ++ L))) : St w0 w (A ++ P :: L) := H.perm List.perm_middle.symm
theorem St.cut {w0 w : World} {A L : List Asn} {P : Asn} (H : St w0 w (A ++ P :: L)) : St w0 w (A ++ L) := H.out.drop
theorem St.cut2 {w0 w : World} {A L : List Asn} {P Q : Asn} (H : St w0 w (A ++ P :: Q :: L)) : St w0 w (A ++ P :: L) := by
  have H1 : St w0 w ((A ++ [P]) ++ Q :: L) := by simpa using H
  simpa using H1.cut
theorem fold_put (off : Nat) : ∀ (l : List Value) (k : Nat) (c : Array Value), off + k + l.length ≤ c.size →
    ((l.zipIdx k).foldl (fun cs x => cs.setIfInBounds (off + x.2) x.1) c).toList = c.toList.take (off + k) ++ l ++ c.toList.drop (off + k + l.length) := by
  intro l
  induction l with
  | nil => intro k c h; simp
  | cons v r ih =>
    intro k c h
    simp only [List.length_cons] at h
    simp only [List.zipIdx_cons, List.foldl_cons]
    rw [ih (k + 1) _ (by simp; omega)]
    simp only [Array.toList_setIfInBounds, List.length_cons]
    rw [List.set_eq_take_append_cons_drop, if_pos (by simp; omega)]
    have e1 : (c.toList.take (off + k)).length = off + k := by simp; omega
    have e4 : c.toList.drop (off + k + (r.length + 1)) = (c.toList.drop (off + k + 1)).drop r.length := by rw [List.drop_drop]; congr 1; omega
    rw [e4]
    generalize c.toList.take (off + k) = A at *
    generalize c.toList.drop (off + k + 1) = D at *
    have e5 : off + (k + 1) = (A ++ [v]).length := by simp; omega
    have e6 : A ++ v :: D = (A ++ [v]) ++ D := by simp
    rw [e6, e5, List.take_left, List.drop_append, List.drop_eq_nil_of_le (by omega)]
    simp
theorem fill_put {place : Nat → Option (Nat × Nat)} {cells c2 c : Array Value} {i off size : Nat} {v : Value} {rest : List (Nat × Value)} (hp : place i = some (off, size)) (hs : v.cells.size = size) (hle : off + size ≤ cells.size) (h2 : splice cells off v.cells.toList = c2)
    (h : Instr.fill place c2 rest = some c) : Instr.fill place cells ((i, v) :: rest) = some c := by
  unfold Instr.fill
  simp only [hp, hs]
  have : ¬ (decide (size ≠ size) || decide (off + size > cells.size)) = true := by simp; omega
  rw [if_neg this]
  have e : Array.foldl (fun cs x => cs.setIfInBounds (off + x.2) x.1) cells v.cells.zipIdx = c2 := by
    rw [← h2]
    apply Array.ext'
    rw [← Array.foldl_toList]
    have := fold_put off v.cells.toList 0 cells (by simp; omega)
    simpa [splice] using this
  rw [e]; exact h
theorem St.rowVal {w0 w : World} {L : List Asn} {v : Value} {e : TypeId} {k n : Nat} {cs : List Value} (H : St w0 w (Row v e k n cs :: L)) : ∃ ad cap, v = .slice ad n cap ∧ n ≤ cap := by
  obtain ⟨hb, h, ⟨h1, h2, ⟨hl, hp⟩, s⟩, r⟩ := H
  rcases hp with ⟨h1, h2, _⟩ | ⟨g, cap, cur, h1, h2, _⟩
  · exact ⟨none, 0, by rw [h1, h2], by omega⟩
  · exact ⟨_, cap, h1, h2⟩
theorem body_cell {P : Program} {fn : Func} {R : Value → World → Prop} {e : Exit} {pf : PF} {w : World} {a : Nat} {ty : TypeId} {ad : Addr} {v : Value} (he : e = .normal ∨ e = .ret) (hr : fn.results = #[.cell a ty]) (h : PF.get pf a = some (.pointer (some ad)))
    (hl : (loadVar ty ad).run P w = .ok v w) (hR : R v w) : bodyQ P fn R e pf w := by
  have : ∀ tm : Array Value, Sub pf tm → ∃ v, (results fn tm).run P w = .ok v w ∧ R v w := fun tm hs => by
    refine ⟨v, ?_, hR⟩
    unfold results
    rw [hr, Array.mapM_eq_mapM_toList]
    simp only [Sem.run_bind, Sem.run_map]
    rw [resV_run (rs := [.cell a ty]) (vs := [v]) (.cell h hl .nil) hs _ (fun _ => rfl) (fun _ _ => rfl)]
    simp
  rcases he with rfl | rfl <;> exact this
theorem St.dropApp {w0 w : World} {A L : List Asn} (H : St w0 w (A ++ L)) : St w0 w L := by
  induction A with
  | nil => exact H
  | cons x r ih => exact ih (St.drop (P := x) H)
end Go.Nep
