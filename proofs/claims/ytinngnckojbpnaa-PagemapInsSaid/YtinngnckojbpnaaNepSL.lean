import Derived.Test.YtinngnckojbpnaaNepDraw
/-! Memory, piece by piece. -/
namespace Go.Nep
set_option linter.unusedVariables false
set_option linter.unusedSimpArgs false
open Go.RowKit

abbrev HL := Nat → Option Obj
abbrev Asn := HL → Prop

def Disj (h1 h2 : HL) : Prop := ∀ b, h1 b = none ∨ h2 b = none
def join (h1 h2 : HL) : HL := fun b => (h1 b).or (h2 b)
def noH : HL := fun _ => none
def oneH (b : Nat) (o : Obj) : HL := fun k => if k = b then some o else none

/-- a block -/
def Pt (b : Nat) (o : Obj) : Asn := fun h => h = oneH b o
/-- a block of cells -/
def Cs (b : Nat) (c : Array Value) (e : TypeId) : Asn := Pt b (.cells c e (0, 0))

def Star : List Asn → Asn
  | [], h => h = noH
  | P :: L, h => ∃ h1 h2, P h1 ∧ Star L h2 ∧ Disj h1 h2 ∧ h = join h1 h2

def Ex {α : Type} (P : α → Asn) : Asn := fun h => ∃ x, P x h
def Pu (p : Prop) (P : Asn) : Asn := fun h => p ∧ P h

theorem Disj.symm {h1 h2 : HL} (h : Disj h1 h2) : Disj h2 h1 := fun b => (h b).symm
theorem join_comm {h1 h2 : HL} (h : Disj h1 h2) : join h1 h2 = join h2 h1 := by
  funext b
  unfold join
  rcases h b with e | e <;> rw [e] <;> simp
theorem join_assoc (h1 h2 h3 : HL) : join (join h1 h2) h3 = join h1 (join h2 h3) := by
  funext b
  unfold join
  cases h1 b <;> simp
theorem Disj.join {h1 h2 h3 : HL} (a : Disj h1 h3) (b : Disj h2 h3) : Disj (join h1 h2) h3 := by
  intro k
  unfold Nep.join
  rcases a k with e | e <;> rcases b k with e' | e' <;> simp_all
theorem Disj.left {h1 h2 h3 : HL} (a : Disj h1 (Nep.join h2 h3)) : Disj h1 h2 := by
  intro k
  have := a k
  unfold Nep.join at this
  rcases this with e | e
  · exact .inl e
  · right; cases h : h2 k <;> simp_all
theorem Disj.right {h1 h2 h3 : HL} (a : Disj h1 (Nep.join h2 h3)) : Disj h1 h3 := by
  intro k
  have := a k
  unfold Nep.join at this
  rcases this with e | e
  · exact .inl e
  · right; cases h : h2 k <;> simp_all
theorem join_no (h : HL) : join h noH = h := by funext b; simp [join, noH]
theorem disj_no (h : HL) : Disj h noH := fun _ => .inr rfl

theorem Star.swap {P Q : Asn} {L : List Asn} {h : HL} (s : Star (P :: Q :: L) h) : Star (Q :: P :: L) h := by
  obtain ⟨h1, h2, hP, ⟨h3, h4, hQ, hL, d34, rfl⟩, d, rfl⟩ := s
  refine ⟨h3, join h1 h4, hQ, ⟨h1, h4, hP, hL, d.right, rfl⟩, (Disj.join d.left d34.symm).symm, ?_⟩
  rw [← join_assoc, ← join_assoc, join_comm d.left]

theorem Star.perm {L L' : List Asn} (p : L.Perm L') : ∀ {h : HL}, Star L h → Star L' h := by
  induction p with
  | nil => exact fun s => s
  | cons x _ ih => rintro h ⟨h1, h2, a, b, c, d⟩; exact ⟨h1, h2, a, ih b, c, d⟩
  | swap x y l => exact fun s => s.swap
  | trans _ _ ih1 ih2 => exact fun s => ih2 (ih1 s)

theorem Star.append {L : List Asn} : ∀ {L' : List Asn} {h : HL}, Star (L ++ L') h ↔ ∃ h1 h2, Star L h1 ∧ Star L' h2 ∧ Disj h1 h2 ∧ h = join h1 h2 := by
  induction L with
  | nil =>
    intro L' h
    constructor
    · intro s; exact ⟨noH, h, rfl, s, (disj_no h).symm, by funext b; simp [join, noH]⟩
    · rintro ⟨h1, h2, rfl, s, _, rfl⟩
      have : join noH h2 = h2 := by funext b; simp [join, noH]
      rw [this]; exact s
  | cons P L ih =>
    intro L' h
    constructor
    · rintro ⟨h1, h2, hP, s, d, rfl⟩
      obtain ⟨h3, h4, s3, s4, d34, rfl⟩ := ih.1 s
      exact ⟨join h1 h3, h4, ⟨h1, h3, hP, s3, d.left, rfl⟩, s4, Disj.join d.right d34, (join_assoc _ _ _).symm⟩
    · rintro ⟨h1, h2, ⟨h3, h4, hP, s4, d34, rfl⟩, s2, d, rfl⟩
      exact ⟨h3, join h4 h2, hP, ih.2 ⟨h4, h2, s4, s2, d.symm.right.symm, rfl⟩, by
        have d1 := d.symm.left.symm
        exact (Disj.join d34.symm d1.symm).symm, join_assoc _ _ _⟩

theorem perm_erase {α : Type} : ∀ (l : List α) (i : Nat) (x : α), l[i]? = some x → (x :: l.eraseIdx i).Perm l := by
  intro l
  induction l with
  | nil => intro i x h; simp at h
  | cons y r ih =>
    intro i x h
    cases i with
    | zero => simp at h; subst h; exact .refl _
    | succ i =>
      simp at h
      exact (List.Perm.swap y x _).trans ((ih i x h).cons y)

/-- what is known of the world: what was there when all began is as it was; and of new blocks, each for itself, what a list says -/
structure St (w0 w : World) (L : List Asn) : Prop where
  below : Below w0.heap.size w0 w
  own : ∃ h, Star L h ∧ (∀ b o, h b = some o → w.heap[b]? = some o) ∧ ∀ b, b < w0.heap.size → h b = none

section
variable {w0 w : World} {L : List Asn}

theorem St.start (w : World) : St w w [] := ⟨Below.refl _ _, noH, rfl, by simp [noH], fun _ _ => rfl⟩
theorem St.perm {L' : List Asn} (H : St w0 w L) (p : L.Perm L') : St w0 w L' := by
  obtain ⟨hb, h, s, r⟩ := H
  exact ⟨hb, h, s.perm p, r⟩
theorem St.foc (i : Nat) (H : St w0 w L) {P : Asn} (h : L[i]? = some P) : St w0 w (P :: L.eraseIdx i) := by
  exact H.perm (perm_erase L i P h).symm
theorem St.swap {P Q : Asn} (H : St w0 w (P :: Q :: L)) : St w0 w (Q :: P :: L) := H.perm (.swap _ _ _)
theorem St.drop {P : Asn} (H : St w0 w (P :: L)) : St w0 w L := by
  obtain ⟨hb, h, ⟨h1, h2, _, s, d, rfl⟩, r1, r2⟩ := H
  refine ⟨hb, h2, s, fun b o e => r1 b o ?_, fun b hlt => ?_⟩
  · rcases d b with e1 | e1
    · simp [join, e1, e]
    · rw [e1] at e; simp at e
  · have := r2 b hlt
    unfold join at this
    cases h : h1 b <;> simp_all
theorem St.imp {P Q : Asn} (H : St w0 w (P :: L)) (hi : ∀ h, P h → Q h) : St w0 w (Q :: L) := by
  obtain ⟨hb, h, ⟨h1, h2, p, s⟩, r⟩ := H
  exact ⟨hb, h, ⟨h1, h2, hi _ p, s⟩, r⟩
theorem St.ex {α : Type} {P : α → Asn} (H : St w0 w (Ex P :: L)) : ∃ x, St w0 w (P x :: L) := by
  obtain ⟨hb, h, ⟨h1, h2, ⟨x, p⟩, s⟩, r⟩ := H
  exact ⟨x, hb, h, ⟨h1, h2, p, s⟩, r⟩
theorem St.mkEx {α : Type} {P : α → Asn} (x : α) (H : St w0 w (P x :: L)) : St w0 w (Ex P :: L) := H.imp fun _ p => ⟨x, p⟩
theorem St.pu {p : Prop} {P : Asn} (H : St w0 w (Pu p P :: L)) : p ∧ St w0 w (P :: L) := by
  obtain ⟨hb, h, ⟨h1, h2, ⟨hp, q⟩, s⟩, r⟩ := H
  exact ⟨hp, hb, h, ⟨h1, h2, q, s⟩, r⟩
theorem St.mkPu {p : Prop} {P : Asn} (hp : p) (H : St w0 w (P :: L)) : St w0 w (Pu p P :: L) := H.imp fun _ q => ⟨hp, q⟩
theorem St.open_ {M : List Asn} (H : St w0 w (Star M :: L)) : St w0 w (M ++ L) := by
  obtain ⟨hb, h, ⟨h1, h2, s1, s2, d, e⟩, r⟩ := H
  exact ⟨hb, h, Star.append.2 ⟨h1, h2, s1, s2, d, e⟩, r⟩
theorem St.shut {M : List Asn} (H : St w0 w (M ++ L)) : St w0 w (Star M :: L) := by
  obtain ⟨hb, h, s, r⟩ := H
  obtain ⟨h1, h2, s1, s2, d, e⟩ := Star.append.1 s
  exact ⟨hb, h, ⟨h1, h2, s1, s2, d, e⟩, r⟩
theorem St.emp (H : St w0 w L) : St w0 w (Star [] :: L) := H.shut (M := [])

theorem St.hd {b : Nat} {o : Obj} (H : St w0 w (Pt b o :: L)) : w.heap[b]? = some o := by
  obtain ⟨hb, h, ⟨h1, h2, p, s, d, rfl⟩, r1, r2⟩ := H
  exact r1 b o (by rw [p]; simp [join, oneH])
theorem St.rd (H : St w0 w L) (i : Nat) {b : Nat} {o : Obj} (h : L[i]? = some (Pt b o)) : w.heap[b]? = some o := (H.foc i h).hd
theorem St.rdC (H : St w0 w L) (i : Nat) {b : Nat} {c : Array Value} {e : TypeId} (h : L[i]? = some (Cs b c e)) : w.heap[b]? = some (.cells c e (0, 0)) := H.rd i h
theorem St.new {b : Nat} {o : Obj} (H : St w0 w (Pt b o :: L)) : w0.heap.size ≤ b := by
  obtain ⟨hb, h, ⟨h1, h2, p, s, d, rfl⟩, r1, r2⟩ := H
  rcases Nat.lt_or_ge b w0.heap.size with hlt | hge
  · have := r2 b hlt; rw [p] at this; simp [join, oneH] at this
  · exact hge
theorem St.lt {b : Nat} {o : Obj} (H : St w0 w (Pt b o :: L)) : b < w.heap.size := (Array.getElem?_eq_some_iff.1 H.hd).1
theorem St.ne {b b' : Nat} {o o' : Obj} (H : St w0 w (Pt b o :: Pt b' o' :: L)) : b ≠ b' := by
  obtain ⟨hb, h, ⟨h1, h2, p, ⟨h3, h4, p', _, _, rfl⟩, d, rfl⟩, _⟩ := H
  rintro rfl
  have := d.left b
  rw [p, p'] at this
  simp [oneH] at this

/-- another world with the same memory -/
theorem St.same {w' : World} (H : St w0 w L) (hh : w'.heap = w.heap) (ho : w'.os = w.os) (ht : w'.tape = w.tape) (hu : w'.output = w.output) : St w0 w' L := by
  obtain ⟨hb, h, s, r1, r2⟩ := H
  exact ⟨⟨by rw [ho, hb.os], by rw [ht, hb.tape], by rw [hu, hb.output], by rw [hh]; exact hb.size, fun k hk => by rw [hh]; exact hb.block k hk⟩, h, s, fun b o e => by rw [hh]; exact r1 b o e, r2⟩
theorem St.drew (H : St w0 w L) : St w0 w.drew L := H.same rfl rfl rfl rfl
/-- what makes memory and turns none -/
theorem St.grow {w' : World} (H : St w0 w L) (hb : Below w.heap.size w w') : St w0 w' L := by
  obtain ⟨h0, h, s, r1, r2⟩ := H
  refine ⟨h0.trans (hb.mono h0.size), h, s, fun b o e => ?_, r2⟩
  have h1 := r1 b o e
  rw [hb.block b (Array.getElem?_eq_some_iff.1 h1).1]; exact h1

theorem alloc_heap (w : World) (o : Obj) (k : Nat) : (w.alloc o).heap[k]? = if k = w.heap.size then some o else w.heap[k]? := by
  simp only [World.alloc, Array.getElem?_push]

theorem St.alloc (H : St w0 w L) (o : Obj) : St w0 (w.alloc o) (Pt w.heap.size o :: L) := by
  obtain ⟨h0, h, s, r1, r2⟩ := H
  have hn : h w.heap.size = none := by
    cases e : h w.heap.size with
    | none => rfl
    | some o' => have := (Array.getElem?_eq_some_iff.1 (r1 _ _ e)).1; omega
  refine ⟨h0.alloc (h0.size) o, join (oneH w.heap.size o) h, ⟨_, h, rfl, s, fun b => ?_, rfl⟩, fun b o' e => ?_, fun b hlt => ?_⟩
  · unfold oneH; split
    · rename_i e; subst e; exact .inr hn
    · exact .inl rfl
  · rw [alloc_heap]
    unfold join oneH at e
    split
    · rename_i hb; subst hb; simpa using e
    · rename_i hb; simp [hb] at e; exact r1 b o' e
  · have h1 := r2 b hlt
    have h2 := h0.size
    unfold join oneH
    have : ¬ b = w.heap.size := by omega
    simp [this, h1]

theorem St.updHd {b : Nat} {o o' : Obj} (H : St w0 w (Pt b o :: L)) : St w0 (upd w b o') (Pt b o' :: L) := by
  have hlt := H.lt
  have hnew := H.new
  obtain ⟨h0, h, ⟨h1, h2, p, s, d, rfl⟩, r1, r2⟩ := H
  have hd2 : ∀ k, k = b → h2 k = none := by
    rintro k rfl
    rcases d k with e | e
    · rw [p] at e; simp [oneH] at e
    · exact e
  refine ⟨⟨h0.os, h0.tape, h0.output, by simpa [upd] using h0.size, fun k hk => ?_⟩, join (oneH b o') h2, ⟨_, h2, rfl, s, fun k => ?_, rfl⟩, fun k o'' e => ?_, fun k hk => ?_⟩
  · rw [upd_heap]
    have : ¬ (k = b ∧ b < w.heap.size) := by omega
    rw [if_neg this]; exact h0.block k hk
  · unfold oneH; split
    · rename_i e; exact .inr (hd2 k e)
    · exact .inl rfl
  · rw [upd_heap]
    unfold join oneH at e
    by_cases hk : k = b
    · subst hk; simp at e; simp [hlt, e]
    · simp [hk] at e
      rw [if_neg (by simp [hk])]
      refine r1 k o'' ?_
      rw [p]
      simp [join, oneH, hk, e]
  · have h3 := r2 k hk
    have : ¬ k = b := by omega
    rw [p] at h3
    simp [join, oneH, this] at h3 ⊢
    exact h3
theorem St.up (H : St w0 w L) (i : Nat) {b : Nat} {o : Obj} (h : L[i]? = some (Pt b o)) (o' : Obj) : St w0 (upd w b o') (L.set i (Pt b o')) := by
  have hi : i < L.length := (List.getElem?_eq_some_iff.1 h).1
  refine ((H.foc i h).updHd (o' := o')).perm ?_
  have := perm_erase (L.set i (Pt b o')) i (Pt b o') (by simp [hi])
  rw [List.eraseIdx_set_eq] at this
  exact this
end

/-- the first piece, put in the place of another one that is given up -/
theorem St.putAt {w0 w : World} {L : List Asn} {P : Asn} (H : St w0 w (P :: L)) (i : Nat) (hi : i < L.length) : St w0 w (L.set i P) := by
  have h1 : L[i]? = some L[i] := List.getElem?_eq_getElem hi
  have H2 : St w0 w (P :: L.eraseIdx i) := St.drop (P := L[i]) (H.perm (((perm_erase L i _ h1).symm.cons P).trans (.swap _ _ _)))
  refine H2.perm ?_
  have := perm_erase (L.set i P) i P (by simp [hi])
  rw [List.eraseIdx_set_eq] at this
  exact this

/-! operations, over what is known -/
section
variable {P : Program} {w0 w : World} {L : List Asn} {pf : PF} {K : Value → World → Prop} {d : Option Nat} {ty : TypeId} {p : String} {af : Array Edge} {g : Option (Nat × Bool)}

theorem S_alloc (H : St w0 w L) {e : TypeId} {z : Value} (hz : zeB P e = some z) (k : ∀ b w', St w0 w' (Cs b z.cells e :: L) → K (pt b 0) w') : X P pf ⟨d, .alloc e, ty, p, af, g⟩ w K :=
  X_alloc hz (k _ _ (H.alloc _))
theorem S_box (H : St w0 w L) {e : TypeId} {x : Operand} {v : Value} (h : ev pf x = some v) (k : ∀ b w', St w0 w' (Cs b v.cells e :: L) → K (pt b 0) w') : X P pf ⟨d, .box e x, ty, p, af, g⟩ w K :=
  X_box h (k _ _ (H.alloc _))

/-- a part of a row -/
inductive Seg (c : List Value) : Nat → Nat → List Value → Prop
  | nil (off : Nat) : Seg c off 0 []
  | cons {off n : Nat} {v : Value} {l : List Value} (h : c[off]? = some v) (r : Seg c (off + 1) n l) : Seg c off (n + 1) (v :: l)

theorem seg_take {c : List Value} {off n : Nat} {l : List Value} (h : (c.drop off).take n = l) (hl : off + n ≤ c.length) : ∀ {w : World} {b : Nat} {e : TypeId} {f : Nat × Nat}, w.heap[b]? = some (.cells c.toArray e f) → rdN w ⟨b, off, none⟩ n = some l := by
  intro w b e f hb
  simp [rdN, hb, hl, h]

theorem S_load (H : St w0 w L) (i : Nat) {t : TypeId} {n : Nat} {x : Operand} {b off : Nat} {c : Array Value} {e : TypeId} {l : List Value} (ht : tyB P t = some (true, n)) (h : ev pf x = some (pt b off)) (hi : L[i]? = some (Cs b c e))
    (hl : (c.toList.drop off).take n = l) (hle : off + n ≤ c.size) (k : K (.agg l.toArray) w) : X P pf ⟨d, .load t x, ty, p, af, g⟩ w K :=
  X_load ht h (by simp [rdN, H.rdC i hi, hle, hl]) k
theorem S_load1 (H : St w0 w L) (i : Nat) {t : TypeId} {n : Nat} {x : Operand} {b off : Nat} {c : Array Value} {e : TypeId} {v : Value} (ht : tyB P t = some (false, n)) (h : ev pf x = some (pt b off)) (hi : L[i]? = some (Cs b c e))
    (hl : c[off]? = some v) (k : K v w) : X P pf ⟨d, .load t x, ty, p, af, g⟩ w K :=
  X_load1 ht h (by rw [cell_of (H.rdC i hi)]; exact hl) k
theorem S_store (H : St w0 w L) (i : Nat) {t : TypeId} {ag : Bool} {n : Nat} {x y : Operand} {b off : Nat} {v : Value} {c c' : Array Value} {e : TypeId} (ht : tyB P t = some (ag, n)) (h : ev pf x = some (pt b off)) (hv : ev pf y = some v)
    (hi : L[i]? = some (Cs b c e)) (hn : v.cells.size = n) (hle : off + n ≤ c.size) (h1 : v.cells.toList.all one = true) (hc : splice c off v.cells.toList = c') (k : ∀ w', St w0 w' (L.set i (Cs b c' e)) → K undef w') :
    X P pf ⟨d, .store t x y, ty, p, af, g⟩ w K :=
  X_store ht h hv (H.rdC i hi) hn hle h1 (k _ (by rw [hc]; exact H.up i hi _))
end
end Go.Nep
