import Derived.Test.YtinngnckojbpnaaNepSL
import Derived.Maps.AppendAt
/-! Operations that make memory, append, copy; structs held against each other. -/
namespace Go.Nep
set_option linter.unusedVariables false
set_option linter.unusedSimpArgs false
open Go.RowKit

/-- a slice and the row that is its own: n elements of k cells -/
def Row (v : Value) (e : TypeId) (k n : Nat) (cs : List Value) : Asn := fun h =>
  cs.length = n * k ∧ ((v = .slice none 0 0 ∧ n = 0 ∧ h = noH) ∨
    ∃ g cap cur, v = .slice (some ⟨g, 0, none⟩) n cap ∧ n ≤ cap ∧ cap ≤ maxLen ∧ cur.size = cap * k ∧ cur.toList.take (n * k) = cs ∧ Cs g cur e h)

section
variable {w0 w : World} {L : List Asn}

theorem St.noRow (H : St w0 w L) (e : TypeId) (k : Nat) : St w0 w (Row (.slice none 0 0) e k 0 [] :: L) :=
  H.emp.imp fun h s => ⟨by simp, .inl ⟨rfl, rfl, s⟩⟩
/-- a new block whose slice is all of it -/
theorem St.mkRow {b n : Nat} {cur : Array Value} {e : TypeId} {k : Nat} (H : St w0 w (Cs b cur e :: L)) (hs : cur.size = n * k) (hn : n ≤ maxLen) : St w0 w (Row (sl b 0 n n) e k n cur.toList :: L) :=
  H.imp fun h s => ⟨by simpa using hs, .inr ⟨b, n, cur, rfl, Nat.le_refl _, hn, hs, by rw [List.take_of_length_le (by simp [hs])], s⟩⟩
theorem St.row {v : Value} {e : TypeId} {k n : Nat} {cs : List Value} (H : St w0 w (Row v e k n cs :: L)) :
    cs.length = n * k ∧ ((v = .slice none 0 0 ∧ n = 0 ∧ St w0 w L) ∨ ∃ g cap cur, v = .slice (some ⟨g, 0, none⟩) n cap ∧ n ≤ cap ∧ cap ≤ maxLen ∧ cur.size = cap * k ∧ cur.toList.take (n * k) = cs ∧ St w0 w (Cs g cur e :: L)) := by
  obtain ⟨hb, h, ⟨h1, h2, ⟨hl, hr⟩, s, d, e'⟩, r⟩ := H
  refine ⟨hl, ?_⟩
  rcases hr with ⟨rfl, hn, rfl⟩ | ⟨g, cap, cur, rfl, q1, q2, q3, q4, q5⟩
  · refine .inl ⟨rfl, hn, hb, h2, s, ?_⟩
    have : join noH h2 = h2 := by funext b; simp [join, noH]
    rw [this] at e'; subst e'; exact r
  · exact .inr ⟨g, cap, cur, rfl, q1, q2, q3, q4, hb, h, ⟨h1, h2, q5, s, d, e'⟩, r⟩

theorem St.owns {v : Value} {e : TypeId} {k n : Nat} {cs : List Value} (H : St w0 w (Row v e k n cs :: L)) : w.ownsRow 0 e k v n cs := by
  obtain ⟨hl, h⟩ := H.row
  refine ⟨hl, ?_⟩
  rcases h with ⟨rfl, hn, _⟩ | ⟨g, cap, cur, rfl, q1, q2, q3, q4, H'⟩
  · exact .inl ⟨rfl, hn⟩
  · exact .inr ⟨g, cap, cur, rfl, Nat.zero_le _, H'.hd, q1, q2, q3, q4⟩

/-- what a row holds, read -/
theorem St.rowRd {v : Value} {e : TypeId} {k n : Nat} {cs : List Value} (H : St w0 w (Row v e k n cs :: L)) {ad : Addr} {m c : Nat} (hv : v = .slice (some ad) m c) : m = n ∧ rdN w ad (m * k) = some cs := by
  obtain ⟨hl, h⟩ := H.row
  rcases h with ⟨rfl, hn, _⟩ | ⟨g, cap, cur, rfl, q1, q2, q3, q4, H'⟩
  · simp at hv
  · simp only [Value.slice.injEq, Option.some.injEq] at hv
    obtain ⟨rfl, rfl, rfl⟩ := hv
    refine ⟨rfl, ?_⟩
    have : n * k ≤ cur.size := by rw [q3]; exact Nat.mul_le_mul_right _ q1
    have hh : w.heap[g]? = some (.cells cur e (0, 0)) := H'.hd
    simp [rdN, hh, this, q4]

theorem below_grown {w w' : World} (hg : w.grownBy w' none) : Below w.heap.size w w' := ⟨hg.os, hg.tape, hg.output, hg.size, fun k hk => hg.block k hk (by simp)⟩

/-- behind what may have turned one block, and made others -/
theorem St.lose {w' : World} {g : Nat} {o : Obj} (H : St w0 w (Pt g o :: L)) (hg : w.grownBy w' (some g)) : St w0 w' L := by
  have hnew := H.new
  obtain ⟨hb, h, ⟨h1, h2, p, s, d, rfl⟩, r1, r2⟩ := H
  refine ⟨⟨hg.os.trans hb.os, hg.tape.trans hb.tape, hg.output.trans hb.output, Nat.le_trans hb.size hg.size, fun k hk => ?_⟩, h2, s, fun b o' e => ?_, fun b hlt => ?_⟩
  · rw [hg.block k (Nat.lt_of_lt_of_le hk hb.size) (by simp; omega)]; exact hb.block k hk
  · have hne : b ≠ g := by
      rintro rfl
      rcases d b with e1 | e1
      · rw [p] at e1; simp [oneH] at e1
      · rw [e1] at e; simp at e
    have := r1 b o' (by rw [p]; simp [join, oneH, hne, e])
    rw [hg.block b (Array.getElem?_eq_some_iff.1 this).1 (by simp [hne])]; exact this
  · have := r2 b hlt
    unfold join at this
    cases h : h1 b <;> simp_all
theorem St.gain {w' : World} {g b : Nat} {o o' : Obj} (H : St w0 w (Pt g o :: L)) (hg : w.grownBy w' (some g)) (hb : b = g ∨ w.heap.size ≤ b) (ho : w'.heap[b]? = some o') : St w0 w' (Pt b o' :: L) := by
  have H' := H.lose hg
  have hnew := H.new
  obtain ⟨hb0, h, ⟨h1, h2, p, s, d, rfl⟩, r1, r2⟩ := H
  have hn2 : h2 b = none := by
    rcases hb with rfl | hge
    · rcases d b with e | e
      · rw [p] at e; simp [oneH] at e
      · exact e
    · cases e : h2 b with
      | none => rfl
      | some o2 =>
        have hne : b ≠ g := by
          rintro rfl
          have h5 : (join h1 h2) b = some o := by rw [p]; simp [join, oneH]
          have := (Array.getElem?_eq_some_iff.1 (r1 b o h5)).1; omega
        have := (Array.getElem?_eq_some_iff.1 (r1 b o2 (by rw [p]; simp [join, oneH, hne, e]))).1
        omega
  obtain ⟨hb1, _⟩ := H'
  refine ⟨hb1, join (oneH b o') h2, ⟨_, h2, rfl, s, fun k => ?_, rfl⟩, fun k o2 e => ?_, fun k hk => ?_⟩
  · unfold oneH; split
    · rename_i e; subst e; exact .inr hn2
    · exact .inl rfl
  · unfold join oneH at e
    by_cases hk : k = b
    · subst hk; simp at e; rw [ho, e]
    · simp [hk] at e
      have hne : k ≠ g := by
        rintro rfl
        rcases d k with e1 | e1
        · rw [p] at e1; simp [oneH] at e1
        · rw [e1] at e; simp at e
      have := r1 k o2 (by rw [p]; simp [join, oneH, hne, e])
      rw [hg.block k (Array.getElem?_eq_some_iff.1 this).1 (by simp [hne])]; exact this
  · have h3 := r2 k hk
    have hkb : ¬ k = b := by
      rcases hb with rfl | hge
      · omega
      · have := hb0.size; omega
    have hkg : ¬ k = g := by omega
    rw [p] at h3
    simp [join, oneH, hkb, hkg] at h3 ⊢
    exact h3
theorem St.add {w' : World} {b : Nat} {o' : Obj} (H : St w0 w L) (hg : w.grownBy w' none) (hb : w.heap.size ≤ b) (ho : w'.heap[b]? = some o') : St w0 w' (Pt b o' :: L) := by
  have hsz := H.below.size
  obtain ⟨hb1, h, s, r1, r2⟩ := H.grow (below_grown hg)
  obtain ⟨_, h', s', r1', r2'⟩ := H
  refine ⟨hb1, ?_⟩
  refine ⟨join (oneH b o') h', ⟨_, h', rfl, s', fun k => ?_, rfl⟩, fun k o2 e => ?_, fun k hk => ?_⟩
  · unfold oneH; split
    · rename_i e; subst e
      right
      cases e : h' k with
      | none => rfl
      | some o2 => have := (Array.getElem?_eq_some_iff.1 (r1' k o2 e)).1; omega
    · exact .inl rfl
  · unfold join oneH at e
    by_cases hk : k = b
    · subst hk; simp at e; rw [ho, e]
    · simp [hk] at e
      have := r1' k o2 e
      rw [hg.block k (Array.getElem?_eq_some_iff.1 this).1 (by simp)]; exact this
  · have h3 := r2' k hk
    have hkb : ¬ k = b := by omega
    simp [join, oneH, hkb, h3]

theorem St.appended {w' : World} {v v' : Value} {e : TypeId} {k n n' : Nat} {cs cs' : List Value} (H : St w0 w (Row v e k n cs :: L)) (hown : w'.ownsRow 0 e k v' n' cs') (hg : w.grownBy w' v.ownBlock)
    (hat : v'.ownBlock = v.ownBlock ∨ v'.ownBlock = some w.heap.size) : St w0 w' (Row v' e k n' cs' :: L) := by
  obtain ⟨hl', ho⟩ := hown
  obtain ⟨_, hr⟩ := H.row
  rcases hr with ⟨rfl, _, H0⟩ | ⟨g, cap, cur, rfl, q1, q2, q3, q4, H0⟩
  · simp only [Value.ownBlock] at hg hat
    rcases ho with ⟨rfl, rfl⟩ | ⟨g', cap', cur', rfl, _, p1, p2, p3, p4, p5⟩
    · have := (H0.grow (below_grown hg)).noRow e k
      simp at hl'
      subst hl'
      exact this
    · simp only [Value.ownBlock, reduceCtorEq, Option.some.injEq, false_or] at hat
      have H1 := H0.add hg (b := g') (by omega) p1
      exact H1.imp fun h s => ⟨hl', .inr ⟨g', cap', cur', rfl, p2, p3, p4, p5, s⟩⟩
  · simp only [Value.ownBlock] at hg hat
    rcases ho with ⟨rfl, rfl⟩ | ⟨g', cap', cur', rfl, _, p1, p2, p3, p4, p5⟩
    · have := (St.lose (o := .cells cur e (0, 0)) H0 hg).noRow e k
      simp at hl'
      subst hl'
      exact this
    · simp only [Value.ownBlock, Option.some.injEq] at hat
      have H1 := St.gain (o := .cells cur e (0, 0)) H0 hg (b := g') (by omega) p1
      exact H1.imp fun h s => ⟨hl', .inr ⟨g', cap', cur', rfl, p2, p3, p4, p5, s⟩⟩
end

section
variable {P : Program} {w0 w : World} {L : List Asn} {pf : PF} {K : Value → World → Prop} {d : Option Nat} {ty : TypeId} {p : String} {af : Array Edge} {g : Option (Nat × Bool)}

theorem one_cell {u : Value} (h : one u = true) : u.oneCell' = true := by
  cases u <;> simp [one] at h <;> rfl

theorem rdN_cells {w : World} {ad : Addr} {n : Nat} {l : List Value} (h : rdN w ad n = some l) : l.length = n ∧ ∀ j u, l[j]? = some u → w.cell? (ad.add j) = some u := by
  unfold rdN at h
  split at h
  · rename_i c e f hb
    split at h
    · rename_i hh
      simp at h
      obtain ⟨b, off, spot⟩ := ad
      simp at hh
      obtain ⟨rfl, hle⟩ := hh
      subst h
      refine ⟨by simp; omega, fun j u hj => ?_⟩
      rw [add_at, cell_of hb]
      have hj' : j < n := by
        rcases Nat.lt_or_ge j n with h' | h'
        · exact h'
        · rw [List.getElem?_take, if_neg (by omega)] at hj; simp at hj
      rw [List.getElem?_take, if_pos hj', List.getElem?_drop] at hj
      rw [← Array.getElem?_toList]; exact hj
    · simp at h
  · simp at h

theorem S_append (H : St w0 w L) (i : Nat) {t e : TypeId} {k by_ : Nat} {z : Value} {s x : Operand} {v : Value} {n : Nat} {cs news : List Value} {ad : Addr} {m c : Nat} (ht : slB P t = some (e, k, by_)) (hz : zeB P e = some z) (hzk : z.cells.size = k) (hk : 0 < k)
    (hs : ev pf s = some v) (hx : ev pf x = some (.slice (some ad) m c)) (hi : L[i]? = some (Row v e k n cs)) (hr : rdN w ad (m * k) = some news) (h1 : news.all one = true) (hlen : n + m ≤ 9223372036854775807) (hby : (n + m) * by_ ≤ 140737488355328)
    (kk : ∀ v' w', St w0 w' (Row v' e k (n + m) (cs ++ news) :: L.eraseIdx i) → K v' w') :
    X P pf ⟨d, .call { callee := .builtin .append, args := #[s, x], argTypes := #[t, t] }, ty, p, af, g⟩ w K := fun a ha => by
  have e1 := ha s (by simp [Op.operands, Call.operands]) _ hs
  have e2 := ha x (by simp [Op.operands, Call.operands]) _ hx
  obtain ⟨hu, inf, hinf, hsz, hb⟩ := slB_under ht
  have hzz : inf.zero = some z := by simpa [zeB, hinf] using hz
  have H1 := H.foc i hi
  obtain ⟨hl, hc⟩ := rdN_cells hr
  obtain ⟨v', w', hrun, hown, hgr, _, hat⟩ := run_append_own_at (P := P) w 0 t ty e inf z k by_ hu hinf hzz hsz hb hzk hk v n cs H1.owns ad m c news hl hc (fun u hu => one_cell (List.all_eq_true.1 h1 u hu)) (by simp [maxLen]; omega) hby (Nat.zero_le _)
  simp only [execOp, resolve, invoke, builtin, Sem.run_bind, Sem.run_pure, Result.andThen_ok, List.map_toArray, List.map_cons, List.map_nil, e1, e2, hrun]
  exact kk v' w' (H1.appended hown hgr hat)

/-- nothing is appended -/
theorem X_append_nil {t e : TypeId} {k by_ : Nat} {s x : Operand} {ad : Option Addr} {n c : Nat} (ht : slB P t = some (e, k, by_)) (hs : ev pf s = some (.slice ad n c)) (hx : ev pf x = some (.slice none 0 0)) (hn : n ≤ c)
    (kk : K (.slice ad n c) w) : X P pf ⟨d, .call { callee := .builtin .append, args := #[s, x], argTypes := #[t, t] }, ty, p, af, g⟩ w K := fun a ha => by
  have e1 := ha s (by simp [Op.operands, Call.operands]) _ hs
  have e2 := ha x (by simp [Op.operands, Call.operands]) _ hx
  obtain ⟨hu, inf, hinf, hsz, hb⟩ := slB_under ht
  have : (Builtin.append_ #[t, t] ty #[.slice ad n c, .slice none 0 0]).run P w = .ok (.slice ad n c) w := by
    unfold Builtin.append_
    cases ad <;> simp [run_und hu, run_size hinf, Builtin.lenOf, hn, Builtin.firstCells, storeCells]
  simp only [execOp, resolve, invoke, builtin, Sem.run_bind, Sem.run_pure, Result.andThen_ok, List.map_toArray, List.map_cons, List.map_nil, e1, e2, this]
  exact kk

theorem X_append_none {t e : TypeId} {k by_ : Nat} {s x : Operand} {ad ad2 : Option Addr} {n c c2 : Nat} (ht : slB P t = some (e, k, by_)) (hs : ev pf s = some (.slice ad n c)) (hx : ev pf x = some (.slice ad2 0 c2)) (hn : n ≤ c)
    (kk : K (.slice ad n c) w) : X P pf ⟨d, .call { callee := .builtin .append, args := #[s, x], argTypes := #[t, t] }, ty, p, af, g⟩ w K := fun a ha => by
  have e1 := ha s (by simp [Op.operands, Call.operands]) _ hs
  have e2 := ha x (by simp [Op.operands, Call.operands]) _ hx
  obtain ⟨hu, inf, hinf, hsz, hb⟩ := slB_under ht
  have : (Builtin.append_ #[t, t] ty #[.slice ad n c, .slice ad2 0 c2]).run P w = .ok (.slice ad n c) w := by
    unfold Builtin.append_
    cases ad <;> cases ad2 <;> simp [run_und hu, run_size hinf, Builtin.lenOf, hn, Builtin.firstCells, storeCells, loadCells, loadCellsFrom]
  simp only [execOp, resolve, invoke, builtin, Sem.run_bind, Sem.run_pure, Result.andThen_ok, List.map_toArray, List.map_cons, List.map_nil, e1, e2, this]
  exact kk

/-! rows that are made -/
def zrow (z : Array Value) (m : Nat) : Array Value := (Array.range m).map fun i => z[i % z.size]!

theorem range0 : Array.range 0 = #[] := by simp

theorem S_make (H : St w0 w L) {t e : TypeId} {n by_ : Nat} {z : Value} {x y : Operand} {kd : IntKind} {m : Int} (ht : slB P t = some (e, n, by_)) (hz : zeB P e = some z) (hx : ev pf x = some (.int kd m)) (hy : ev pf y = some (.int kd m))
    (h0 : 0 ≤ m) (hb : m * by_ ≤ 140737488355328) (hm : m ≤ 9223372036854775807) (k : ∀ b w', St w0 w' (Cs b (zrow z.cells (m.toNat * n)) e :: L) → K (sl b 0 m.toNat m.toNat) w') : X P pf ⟨d, .makeSlice t x y, ty, p, af, g⟩ w K := fun a ha => by
  have e1 := ha x (by simp [Op.operands]) _ hx
  have e2 := ha y (by simp [Op.operands]) _ hy
  obtain ⟨hu, inf, hinf, hsz, hby⟩ := slB_under ht
  subst hsz
  subst hby
  have hw : IntKind.i64.wrap m = m := wrap64_in ⟨by omega, hm⟩
  have hnn : (inf.bytes : Int) * m ≤ 140737488355328 := by rw [Int.mul_comm]; exact hb
  have hbb : ¬ ((inf.bytes : Int) * m > 2 ^ 48) := by omega
  have hrun : (Instr.makeSlice t (.int kd m) (.int kd m)).run P w = .ok (sl w.heap.size 0 m.toNat m.toNat) (w.alloc (.cells (zrow z.cells (m.toNat * inf.size)) e (0, 0))) := by
    unfold Instr.makeSlice
    simp only [Sem.run_bind, run_und hu, Result.andThen_ok, asInt, asIntOf, Sem.run_pure, run_info hinf, hw, run_size hinf]
    have c1 : (decide (m < 0) || decide ((inf.bytes : Int) * m > 2 ^ 48)) = false := by simp; omega
    have c2 : (decide (m < 0) || decide ((inf.bytes : Int) * m > 2 ^ 48) || decide (m < 0) || decide (m > m)) = false := by rw [c1]; simp; omega
    rw [if_neg (by rw [c2]; simp)]
    simp only [Sem.run_bind]
    have hask : (askRoom (m.toNat * inf.bytes)).run P w = .ok () w := by
      unfold askRoom; split <;> rfl
    simp only [hask, Result.andThen_ok, run_size hinf]
    by_cases hz0 : m.toNat * inf.size = 0
    · rw [if_pos hz0]
      simp only [Sem.run_bind, Sem.run_pure, Result.andThen_ok, zrow, hz0, range0, List.map_toArray, List.map_nil]
      rfl
    · rw [if_neg hz0]
      simp only [Sem.run_bind, zeB_run hz, Result.andThen_ok, Sem.run_pure, zrow]
      rfl
  simp only [execOp, Sem.run_bind, e1, e2, hrun, Result.andThen_ok, Sem.run_pure]
  exact k _ _ (H.alloc _)

def evP (pf : PF) : List (Nat × Operand) → Option (List (Nat × Value))
  | [] => some []
  | (i, x) :: r => match ev pf x, evP pf r with
    | some v, some l => some ((i, v) :: l)
    | _, _ => none
theorem evP_map {a : Act} : ∀ {l : List (Nat × Operand)} {vs : List (Nat × Value)}, evP pf l = some vs → (∀ x ∈ l.map (·.2), Agrees pf a x) → l.map (fun (i, x) => (i, a.eval x)) = vs := by
  intro l
  induction l with
  | nil => intro vs h _; simp [evP] at h; simp [h]
  | cons x r ih =>
    intro vs h ha
    obtain ⟨i, x⟩ := x
    simp only [evP] at h
    split at h
    · rename_i v l hv hl
      simp at h
      subst h
      simp only [List.map_cons]
      rw [ih hl fun y hy => ha y (by simp at hy ⊢; exact .inr hy), ha x (by simp) v hv]
    · simp at h

theorem S_lit (H : St w0 w L) {t e : TypeId} {n by_ len : Nat} {z : Value} {parts : List (Nat × Operand)} {vals : List (Nat × Value)} {cells : Array Value} (ht : slB P t = some (e, n, by_)) (hz : zeB P e = some z) (hv : evP pf parts = some vals)
    (hle : len * n ≤ 16777216) (hpos : 0 < len * n) (hf : Instr.fill (fun i => some (i * n, n)) (zrow z.cells (len * n)) vals = some cells) (k : ∀ b w', St w0 w' (Cs b cells e :: L) → K (sl b 0 len len) w') :
    X P pf ⟨d, .buildSlice t len parts.toArray, ty, p, af, g⟩ w K := fun a ha => by
  have e1 := evP_map (a := a) hv fun x hx => ha x (by simpa [Op.operands] using hx)
  obtain ⟨hu, inf, hinf, hsz, hby⟩ := slB_under ht
  subst hsz
  have hrun : (Instr.buildSlice t len vals.toArray).run P w = .ok (sl w.heap.size 0 len len) (w.alloc (.cells cells e (0, 0))) := by
    unfold Instr.buildSlice
    have c1 : ¬ len * inf.size > 2 ^ 24 := by omega
    have c2 : ¬ len * inf.size = 0 := by omega
    simp only [Sem.run_bind, run_und hu, Result.andThen_ok, run_size hinf, c1, if_false, c2, zeB_run hz, Sem.run_pure]
    have hf' : Instr.fill (fun i => some (i * inf.size, inf.size)) ((Array.range (len * inf.size)).map fun i => z.cells[i % z.cells.size]!) vals = some cells := hf
    simp only [hf']
    rfl
  have e3 : (parts.toArray.map fun (i, x) => (i, a.eval x)) = vals.toArray := by rw [← e1]; simp
  simp only [execOp, Sem.run_bind, e3, hrun, Result.andThen_ok, Sem.run_pure]
  exact k _ _ (H.alloc _)

/-- '[]T{}' -/
theorem S_lit0 (H : St w0 w L) {t e : TypeId} {n by_ : Nat} (ht : slB P t = some (e, n, by_)) (k : ∀ b w', St w0 w' (Cs b #[] e :: L) → K (sl b 0 0 0) w') :
    X P pf ⟨d, .buildSlice t 0 #[], ty, p, af, g⟩ w K := fun a ha => by
  obtain ⟨hu, inf, hinf, hsz, hby⟩ := slB_under ht
  have hrun : (Instr.buildSlice t 0 #[]).run P w = .ok (sl w.heap.size 0 0 0) (w.alloc (.cells #[] e (0, 0))) := by
    unfold Instr.buildSlice
    simp only [Sem.run_bind, run_und hu, Result.andThen_ok, run_size hinf, Nat.zero_mul]
    rw [if_neg (by omega)]
    simp only [if_true, Sem.run_bind, Sem.run_pure, Result.andThen_ok, range0, List.map_toArray, List.map_nil]
    rfl
  simp only [execOp, Sem.run_bind, List.map_toArray, List.map_nil, hrun, Result.andThen_ok, Sem.run_pure]
  exact k _ _ (H.alloc _)

/-- where the parts of a struct lie -/
def shB (P : Program) (t : TypeId) : Option (Array (Nat × Nat)) :=
  match P.underlying t with
  | some (.struct fs) => (fs.toList.mapM fun f => (P.info? f.type).map fun i => (f.offset, i.size)).map (·.toArray)
  | _ => none
theorem run_places {P : Program} : ∀ (l : List Field) (r : List (Nat × Nat)), l.mapM (fun f => (P.info? f.type).map fun i => (f.offset, i.size)) = some r → ∀ w, (l.mapM (m := Sem) fun f => do pure (f.offset, ← sizeOf f.type)).run P w = .ok r w := by
  intro l
  induction l with
  | nil => intro r h w; simp at h; subst h; simp
  | cons f l ih =>
    intro r h w
    rw [List.mapM_cons] at h ⊢
    cases hi : P.info? f.type with
    | none => simp [hi] at h
    | some i =>
      simp only [hi, Option.map_some, Option.bind_eq_bind, Option.bind_some] at h
      cases hl : l.mapM (fun f => (P.info? f.type).map fun i => (f.offset, i.size)) with
      | none => simp [hl] at h
      | some r' =>
        simp only [hl, Option.bind_some, Option.pure_def, Option.some.injEq] at h
        subst h
        simp only [Sem.run_bind, run_size hi, Result.andThen_ok, Sem.run_pure]
        rw [ih r' hl w]
        rfl
theorem X_build {t : TypeId} {z : Value} {parts : List (Nat × Operand)} {vals : List (Nat × Value)} {pl : Array (Nat × Nat)} {cells : Array Value} (hs : shB P t = some pl) (hz : zeB P t = some z) (hv : evP pf parts = some vals)
    (hf : Instr.fill (pl[·]?) z.cells vals = some cells) (k : K (.agg cells) w) : X P pf ⟨d, .build t parts.toArray, ty, p, af, g⟩ w K := fun a ha => by
  have e1 := evP_map (a := a) hv fun x hx => ha x (by simpa [Op.operands] using hx)
  have e3 : (parts.toArray.map fun (i, x) => (i, a.eval x)) = vals.toArray := by rw [← e1]; simp
  unfold shB at hs
  split at hs
  · rename_i fs hu
    simp only [Option.map_eq_some_iff] at hs
    obtain ⟨r, hs', rfl⟩ := hs
    have hrun : (Instr.build t vals.toArray).run P w = .ok (.agg cells) w := by
      unfold Instr.build
      simp only [Sem.run_bind, zeB_run hz, Result.andThen_ok, run_und hu]
      have : (Array.mapM (m := Sem) (fun f : Field => do pure (f.offset, ← sizeOf f.type)) fs).run P w = .ok r.toArray w := by
        rw [Array.mapM_eq_mapM_toList]
        have h := run_places fs.toList r hs' w
        rw [Sem.run_map, h]
        rfl
      rw [this]
      simp only [Result.andThen_ok, hf]
      rfl
    simp only [execOp, Sem.run_bind, e3, hrun, Result.andThen_ok, Sem.run_pure]
    exact k
  · simp at hs

/-! copy, clear -/
/-- what a source of a copy holds -/
def srcIs (w : World) : Option Addr → Nat → List Value → Prop
  | some ad, n, l => rdN w ad n = some l
  | none, _, l => l = []
theorem run_first {ad : Option Addr} {m c n k : Nat} {l : List Value} {w : World} (h : srcIs w ad (n * k) l) : (Builtin.firstCells k n (.slice ad m c)).run P w = .ok l.toArray w := by
  cases ad with
  | none => simp [srcIs] at h; subst h; simp [Builtin.firstCells]
  | some ad => simp [srcIs] at h; simp [Builtin.firstCells, run_loadCells h]

theorem S_copy (H : St w0 w L) (i : Nat) {t t2 e : TypeId} {k by_ : Nat} {x y : Operand} {b off n1 c1 : Nat} {sd : Option Addr} {m c2 : Nat} {c c' : Array Value} {e' : TypeId} {l : List Value} (ht : slB P t = some (e, k, by_)) (hx : ev pf x = some (sl b off n1 c1)) (hy : ev pf y = some (.slice sd m c2))
    (hi : L[i]? = some (Cs b c e')) (hl : srcIs w sd (min m n1 * k) l) (hle : off + l.length ≤ c.size) (h1 : l.all one = true) (hc : splice c off l = c') (kk : ∀ w', St w0 w' (L.set i (Cs b c' e')) → K (i64 (min m n1 : Nat)) w') :
    X P pf ⟨d, .call { callee := .builtin .copy, args := #[x, y], argTypes := #[t, t2] }, ty, p, af, g⟩ w K := fun a ha => by
  have e1 := ha x (by simp [Op.operands, Call.operands]) _ hx
  have e2 := ha y (by simp [Op.operands, Call.operands]) _ hy
  obtain ⟨hu, inf, hinf, hsz, hb⟩ := slB_under ht
  subst hsz
  have hrun : (Builtin.copy_ #[t, t2] ty #[sl b off n1 c1, .slice sd m c2]).run P w = .ok (i64 (min m n1 : Nat)) (upd w b (.cells (splice c off l) e' (0, 0))) := by
    unfold Builtin.copy_
    have := run_first (P := P) (ad := sd) (m := m) (c := c2) hl
    simp [run_und hu, Builtin.lenOf, run_size hinf, this, run_storeCells (P := P) (H.rdC i hi) hle h1, goInt]
  simp only [execOp, resolve, invoke, builtin, Sem.run_bind, Sem.run_pure, Result.andThen_ok, List.map_toArray, List.map_cons, List.map_nil, e1, e2, hrun]
  exact kk _ (by rw [hc]; exact H.up i hi _)

theorem S_clear (H : St w0 w L) (i : Nat) {t e : TypeId} {k by_ : Nat} {z : Value} {x : Operand} {b off n1 c1 : Nat} {c c' : Array Value} {e' : TypeId} (ht : slB P t = some (e, k, by_)) (hz : zeB P e = some z) (hx : ev pf x = some (sl b off n1 c1)) (hn : 0 < n1)
    (hi : L[i]? = some (Cs b c e')) (hle : off + n1 * z.cells.size ≤ c.size) (h1 : (zrow z.cells (n1 * z.cells.size)).toList.all one = true) (hc : splice c off (zrow z.cells (n1 * z.cells.size)).toList = c') (kk : ∀ w', St w0 w' (L.set i (Cs b c' e')) → K (.tuple #[]) w') :
    X P pf ⟨d, .call { callee := .builtin .clear, args := #[x], argTypes := #[t] }, ty, p, af, g⟩ w K := fun a ha => by
  have e1 := ha x (by simp [Op.operands, Call.operands]) _ hx
  obtain ⟨hu, inf, hinf, hsz, hb⟩ := slB_under ht
  obtain ⟨n1, rfl⟩ : ∃ m, n1 = m + 1 := ⟨n1 - 1, by omega⟩
  have hrun : (Builtin.clear_ #[t] ty #[sl b off (n1 + 1) c1]).run P w = .ok (.tuple #[]) (upd w b (.cells (splice c off (zrow z.cells ((n1 + 1) * z.cells.size)).toList) e' (0, 0))) := by
    unfold Builtin.clear_
    have hst := run_storeCells (P := P) (l := (zrow z.cells ((n1 + 1) * z.cells.size)).toList) (off := off) (H.rdC i hi) (by simpa [zrow] using hle) h1
    simp only [Sem.run_bind, run_und hu, Result.andThen_ok, zeB_run hz, List.getElem?_toArray, List.getElem?_cons_zero]
    change ((storeCells ⟨b, off, none⟩ (zrow z.cells ((n1 + 1) * z.cells.size)).toList).run P w).andThen _ = _
    rw [hst]
    rfl
  simp only [execOp, resolve, invoke, builtin, Sem.run_bind, Sem.run_pure, Result.andThen_ok, List.map_toArray, List.map_cons, List.map_nil, e1, hrun]
  exact kk _ (by rw [hc]; exact H.up i hi _)
end
end Go.Nep
