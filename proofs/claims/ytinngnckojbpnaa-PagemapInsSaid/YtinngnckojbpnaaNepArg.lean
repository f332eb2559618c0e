import Derived.Test.YtinngnckojbpnaaNepRow
import Derived.Deep.Slices
import Derived.Test.YtinngnckojbpnaaNepTab
/-! Slices that a call is given. -/
namespace Go.Nep
set_option linter.unusedVariables false
set_option linter.unusedSimpArgs false
open Go.ChangeShapes Go.WideShapes Go.ChangeAt Go.RowKit Go.Deep

/-- a slice of a call's arguments: nothing in it, or so many elements in old memory -/
def ArgS {α : Type} (W : World) (v : Value) (k : Nat) (enc : α → List Value) (xs : List α) : Prop :=
  (xs = [] ∧ ∃ ad cap, v = .slice ad 0 cap) ∨
  (0 < xs.length ∧ ∃ b off cap c e fr, v = sl b off xs.length cap ∧ xs.length ≤ cap ∧ cap ≤ maxLen ∧ b < W.heap.size ∧ W.heap[b]? = some (.cells c e fr) ∧ off + xs.length * k ≤ c.size ∧ (c.toList.drop off).take (xs.length * k) = xs.flatMap enc)

theorem list_of {α : Type} {R : Nat → α → Prop} : ∀ n : Nat, (∀ i, i < n → ∃ x, R i x) → ∃ xs : List α, xs.length = n ∧ ∀ i x, xs[i]? = some x → R i x := by
  intro n
  induction n with
  | zero => intro _; exact ⟨[], rfl, fun i x h => by simp at h⟩
  | succ n ih =>
    intro h
    obtain ⟨xs, hl, hx⟩ := ih fun i hi => h i (by omega)
    obtain ⟨y, hy⟩ := h n (by omega)
    refine ⟨xs ++ [y], by simp [hl], fun i x hi => ?_⟩
    by_cases e : i < n
    · rw [List.getElem?_append_left (by omega)] at hi; exact hx i x hi
    · rw [List.getElem?_append_right (by omega)] at hi
      have hi2 : i - xs.length = 0 := by
        rcases Nat.eq_zero_or_pos (i - xs.length) with h0 | h0
        · exact h0
        · rw [List.getElem?_eq_none (by simp; omega)] at hi; simp at hi
      rw [hi2] at hi
      simp at hi
      subst hi
      have : i = n := by omega
      subst this
      exact hy

theorem cells_at {w : World} {b off n : Nat} {cs : List Value} (h : w.cells? 0 ⟨b, off, none⟩ n = some cs) : cs.length = n ∧ ∀ j, j < n → w.cell? ⟨b, off + j, none⟩ = cs[j]? := by
  obtain ⟨_, h1, h2⟩ := World.cells?_some h
  refine ⟨h1, fun j hj => ?_⟩
  rw [← h2 j hj]
  unfold Addr.add
  by_cases e : j = 0
  · subst e; simp
  · simp [e]

theorem arg_slice {α : Type} {H : Type} {en : TypeId × Value → H} {P : Program} {W : World} {b0 : Nat} {t e : TypeId} {k : Nat} {enc : α → List Value} {ok : α → Prop} {v : Value} {d : DataW H} {ps : List MemPlace} (ht : P.underlying t = some (.slice e)) (hk : P.cellsOf e = k) (hk0 : 0 < k) (hlen : ∀ x, (enc x).length = k)
    (hel : ∀ (fuel : Nat) (cs : List Value) (x : DataW H × List MemPlace), DataW.trod en P W 0 (fun _ => true) true fuel e cs = some x → ∃ a : α, cs = enc a ∧ ok a)
    (hv : Value.okWide P W .any b0 t v) (h : DataW.Trod en P W 0 (fun _ => true) true t v d ps) (hlt : ∀ p ∈ ps, p.block < W.heap.size) : ∃ xs : List α, ArgS W v k enc xs ∧ ∀ x ∈ xs, ok x := by
  obtain ⟨fuel, hf⟩ := h
  have hcell : v.cells.toList = [v] ∧ ((∃ n, v = .slice none n n ∧ n = 0) ∨ ∃ a len cap, v = .slice (some a) len cap ∧ a.spot = none) := by
    unfold Value.okWide at hv
    rw [ht] at hv
    unfold Cell.okWide at hv
    rw [ht] at hv
    unfold Cell.ok at hv
    rw [ht] at hv
    cases v <;> simp at hv
    rename_i ad len cap
    refine ⟨rfl, ?_⟩
    cases ad with
    | none =>
      left
      cases len <;> cases cap <;> simp at hv
      exact ⟨0, rfl, rfl⟩
    | some a =>
      right
      simp at hv
      exact ⟨a, len, cap, rfl, hv.2.2.2.1⟩
  obtain ⟨hc, hcase⟩ := hcell
  rw [hc] at hf
  rcases open_slice ht hf with ⟨h1, _⟩ | ⟨a, len, cap, m, n, D, Pl, h1, _, hl, hm, hmm, hx, hi⟩
  · simp at h1
    subst h1
    exact ⟨[], .inl ⟨rfl, none, 0, rfl⟩, by simp⟩
  · simp at h1
    subst h1
    have hs : a.spot = none := by
      rcases hcase with ⟨n, h2, _⟩ | ⟨a', len', cap', h2, h3⟩
      · simp at h2
      · cases h2; exact h3
    obtain ⟨b, off, sp⟩ := a
    simp at hs
    subst hs
    skip
    have hm3 : m = cap := by simpa using hmm
    subst hm3
    obtain ⟨xs, hxl, hxx⟩ := list_of (R := fun i (x : α) => W.cells? 0 (Addr.add ⟨b, off, none⟩ (i * k)) k = some (enc x) ∧ ok x) len fun i hil => by
      obtain ⟨cs', h2, h3⟩ := hi i (by omega)
      obtain ⟨x, hx1, hx2⟩ := hel _ _ _ h3
      rw [hk] at h2
      exact ⟨x, by rw [h2, hx1], hx2⟩
    refine ⟨xs, ?_, fun x hx => ?_⟩
    · rcases Nat.eq_zero_or_pos len with h0 | h0
      · left
        exact ⟨List.length_eq_zero_iff.1 (by omega), _, _, by rw [h0]⟩
      · right
        have hadd : ∀ i, Addr.add ⟨b, off, none⟩ i = ⟨b, off + i, none⟩ := by
          intro i
          unfold Addr.add
          by_cases e : i = 0
          · subst e; simp
          · simp [e]
        have hrd : ∀ i x, xs[i]? = some x → ∀ j, j < k → W.cell? ⟨b, off + i * k + j, none⟩ = (enc x)[j]? := fun i x hix j hj => by
          have h2 := (hxx i x hix).1
          rw [hadd] at h2
          exact (cells_at h2).2 j hj
        have hx0 : xs[0]? = some xs[0] := by simp
        have h00 := hrd 0 _ hx0 0 hk0
        have hj0 : ∃ u, (enc xs[0])[0]? = some u := ⟨_, List.getElem?_eq_getElem (by rw [hlen]; exact hk0)⟩
        obtain ⟨u, hu⟩ := hj0
        rw [hu] at h00
        obtain ⟨c, e', fr, hh⟩ : ∃ c e' fr, W.heap[b]? = some (.cells c e' fr) := by
          unfold World.cell? at h00
          simp only at h00
          split at h00
          · rename_i c e' fr hh; exact ⟨c, e', fr, hh⟩
          · simp at h00
        have hget : ∀ t, t < len * k → c[off + t]? = (xs.flatMap enc)[t]? := by
          intro t htl
          have htk : t / k < len := Nat.div_lt_of_lt_mul (by rw [Nat.mul_comm]; exact htl)
          have e1 : xs[t / k]? = some xs[t / k] := by simp
          have e2 := flat_get enc hlen xs (t / k) (t % k) e1 (Nat.mod_lt _ hk0)
          have e3 : t / k * k + t % k = t := by rw [Nat.mul_comm]; exact Nat.div_add_mod t k
          have e4 := hrd _ _ e1 (t % k) (Nat.mod_lt _ hk0)
          rw [cell_of hh, Nat.add_assoc, e3] at e4
          rw [e4, ← e2, e3]
        have hfl := flat_len enc hlen xs
        have hsz : off + len * k ≤ c.size := by
          have hp : 0 < len * k := Nat.mul_pos h0 hk0
          have := hget (len * k - 1) (by omega)
          rw [List.getElem?_eq_getElem (by rw [hfl, hxl]; omega)] at this
          have := (Array.getElem?_eq_some_iff.1 this).1
          omega
        refine ⟨by omega, b, off, m, c, e', fr, by rw [hxl], by omega, hm, (Array.getElem?_eq_some_iff.1 hh).1, hh, by rw [hxl]; exact hsz, ?_⟩
        apply List.ext_getElem?
        intro t
        rw [hxl, List.getElem?_take]
        by_cases htl : t < len * k
        · rw [if_pos htl, List.getElem?_drop]
          have := hget t htl
          simpa using this
        · rw [if_neg htl, List.getElem?_eq_none (by rw [hfl, hxl]; omega)]
    · obtain ⟨i, hi1, hi2⟩ := List.getElem_of_mem hx
      exact (hxx i x (by rw [List.getElem?_eq_getElem hi1, hi2])).2
theorem trod_fields {H : Type} {en : TypeId × Value → H} {P : Program} {W : World} {b : Nat} {sp : Nat → Bool} {hd : Bool} {fuel : Nat} {t : TypeId} {fs : Array Field} {cs : List Value} {x : DataW H × List MemPlace} (ht : P.underlying t = some (.struct fs)) (h : DataW.trod en P W b sp hd fuel t cs = some x) :
    cs.length = P.cellsOf t ∧ ∀ (i : Nat) (f : Field), fs[i]? = some f → ∃ y n, DataW.trod en P W b sp hd n f.type ((cs.drop f.offset).take (P.cellsOf f.type)) = some y := by
  obtain ⟨xs, n, _, _, h1, h2, h3⟩ := DataW.trod_struct ht h
  refine ⟨h1, fun i f hf => ?_⟩
  have hi : i < xs.length := by rw [h2]; exact (Array.getElem?_eq_some_iff.1 hf).1
  exact ⟨xs[i], n, by rw [h3 i f hf, List.getElem?_eq_getElem hi]⟩
theorem trod_has {H : Type} {en : TypeId × Value → H} {P : Program} {W : World} {b : Nat} {sp : Nat → Bool} {hd : Bool} {t : TypeId} {k : IntKind} {cs : List Value} (ht : P.underlying t = some (.int k)) (h : ∃ y n, DataW.trod en P W b sp hd n t cs = some y) : ∃ n, cs = [.int k n] ∧ k.has n := by
  obtain ⟨y, n, h⟩ := h
  obtain ⟨m, h1, _, h2⟩ := DataW.trod_int ht h
  refine ⟨m, h1, ?_⟩
  simp only [Lit.wf, Bool.and_eq_true, decide_eq_true_eq] at h2
  exact h2
theorem ArgS.val {α : Type} {W : World} {v : Value} {k : Nat} {enc : α → List Value} {xs : List α} (h : ArgS W v k enc xs) : ∃ ad cap, v = .slice ad xs.length cap := by
  rcases h with ⟨rfl, ad, cap, rfl⟩ | ⟨_, b, off, cap, c, e, fr, rfl, _⟩
  · exact ⟨ad, cap, rfl⟩
  · exact ⟨_, cap, rfl⟩
/-- where its elements lie -/
structure ArgAt {α : Type} (W : World) (b off k : Nat) (enc : α → List Value) (xs : List α) (c : Array Value) (e : TypeId) (fr : Nat × Nat) : Prop where
  lt : b < W.heap.size
  hh : W.heap[b]? = some (.cells c e fr)
  size : off + xs.length * k ≤ c.size
  take : (c.toList.drop off).take (xs.length * k) = xs.flatMap enc
theorem ArgS.at_ {α : Type} {W : World} {ad : Option Addr} {n cap k : Nat} {enc : α → List Value} {xs : List α} (h : ArgS W (.slice ad n cap) k enc xs) (h0 : 0 < xs.length) : ∃ b off c e fr, ad = some ⟨b, off, none⟩ ∧ n ≤ cap ∧ cap ≤ maxLen ∧ ArgAt W b off k enc xs c e fr := by
  rcases h with ⟨rfl, _⟩ | ⟨_, b, off, cap', c, e, fr, h1, h2, h3, h4, h5, h6, h7⟩
  · simp at h0
  · simp only [Value.slice.injEq] at h1
    obtain ⟨rfl, rfl, rfl⟩ := h1
    exact ⟨b, off, c, e, fr, rfl, h2, h3, h4, h5, h6, h7⟩
theorem ArgAt.cell {α : Type} {W w : World} {b off k : Nat} {enc : α → List Value} {xs : List α} {c : Array Value} {e : TypeId} {fr : Nat × Nat} {L : List Asn} (h : ArgAt W b off k enc xs c e fr) (hlen : ∀ x, (enc x).length = k) (H : St W w L) {i o : Nat} {x : α} (hx : xs[i]? = some x) (ho : o < k) :
    w.cell? ⟨b, off + (i * k + o), none⟩ = (enc x)[o]? := by
  have hw : w.heap[b]? = some (.cells c e fr) := by rw [H.below.block b h.lt]; exact h.hh
  rw [cell_of hw, ← flat_get enc hlen xs i o hx ho, ← h.take, List.getElem?_take, if_pos, List.getElem?_drop]
  · simp
  · have hi := (List.getElem?_eq_some_iff.1 hx).1
    have h1 : (i + 1) * k ≤ xs.length * k := Nat.mul_le_mul_right k hi
    rw [Nat.add_mul] at h1
    omega
theorem ArgAt.rd {α : Type} {W w : World} {b off k : Nat} {enc : α → List Value} {xs : List α} {c : Array Value} {e : TypeId} {fr : Nat × Nat} {L : List Asn} (h : ArgAt W b off k enc xs c e fr) (hlen : ∀ x, (enc x).length = k) (H : St W w L) {i o m : Nat} {x : α} (hx : xs[i]? = some x) (ho : o + m ≤ k) :
    rdN w ⟨b, off + (i * k + o), none⟩ m = some (((enc x).drop o).take m) := by
  have hw : w.heap[b]? = some (.cells c e fr) := by rw [H.below.block b h.lt]; exact h.hh
  have hi := (List.getElem?_eq_some_iff.1 hx).1
  have h1 : (i + 1) * k ≤ xs.length * k := Nat.mul_le_mul_right k hi
  rw [Nat.add_mul] at h1
  have h2 := h.size
  unfold rdN
  simp only [hw]
  rw [if_pos ⟨trivial, by omega⟩]
  rw [← flat_sub enc hlen xs i o m hx ho, ← h.take]
  rw [List.drop_take, List.take_take, List.drop_drop, Nat.min_eq_left (by omega)]
/-- all of it -/
theorem ArgAt.all {α : Type} {W w : World} {b off k : Nat} {enc : α → List Value} {xs : List α} {c : Array Value} {e : TypeId} {fr : Nat × Nat} {L : List Asn} (h : ArgAt W b off k enc xs c e fr) (H : St W w L) :
    rdN w ⟨b, off, none⟩ (xs.length * k) = some (xs.flatMap enc) := by
  have hw : w.heap[b]? = some (.cells c e fr) := by rw [H.below.block b h.lt]; exact h.hh
  unfold rdN
  simp only [hw]
  rw [if_pos ⟨trivial, h.size⟩, h.take]

section
variable {α : Type} {W w : World} {L : List Asn} {P : Program} {pf : PF} {K : Value → World → Prop} {d : Option Nat} {ty : TypeId} {p : String} {af : Array Edge} {g : Option (Nat × Bool)}
/-- an element's part, of a slice of arguments -/
theorem S_loadA (H : St W w L) {t : TypeId} {m : Nat} {x : Operand} {b b' off of_ k : Nat} {enc : α → List Value} {xs : List α} {c : Array Value} {e : TypeId} {fr : Nat × Nat} {i o : Nat} {a : α} {l : List Value} (ht : tyB P t = some (true, m)) (h : ev pf x = some (pt b' of_)) (hA : ArgAt W b off k enc xs c e fr) (hlen : ∀ x, (enc x).length = k)
    (hx : xs[i]? = some a) (hb : b' = b) (hoff : of_ = off + (i * k + o)) (ho : o + m ≤ k) (hl : ((enc a).drop o).take m = l) (kk : K (.agg l.toArray) w) : X P pf ⟨d, .load t x, ty, p, af, g⟩ w K :=
  X_load ht h (by rw [hoff, hb, hA.rd hlen H hx ho, hl]) kk
theorem S_loadA1 (H : St W w L) {t : TypeId} {m : Nat} {x : Operand} {b b' off of_ k : Nat} {enc : α → List Value} {xs : List α} {c : Array Value} {e : TypeId} {fr : Nat × Nat} {i o : Nat} {a : α} {v : Value} (ht : tyB P t = some (false, m)) (h : ev pf x = some (pt b' of_)) (hA : ArgAt W b off k enc xs c e fr) (hlen : ∀ x, (enc x).length = k)
    (hx : xs[i]? = some a) (hb : b' = b) (hoff : of_ = off + (i * k + o)) (ho : o < k) (hl : (enc a)[o]? = some v) (kk : K v w) : X P pf ⟨d, .load t x, ty, p, af, g⟩ w K :=
  X_load1 ht h (by rw [hoff, hb, hA.cell hlen H hx ho, hl]) kk
/-- all of a slice of arguments, appended to a row of one's own -/
theorem S_appendArg (H : St W w L) (i : Nat) {t e : TypeId} {k by_ : Nat} {z : Value} {s x : Operand} {v u : Value} {enc : α → List Value} {xs ys : List α}
    (ht : slB P t = some (e, k, by_)) (hz : zeB P e = some z) (hzk : z.cells.size = k) (hk : 0 < k) (hs : ev pf s = some v) (hx : ev pf x = some u) (hi : L[i]? = some (Tab v e k enc xs)) (hu : ArgS W u k enc ys) (h1 : (ys.flatMap enc).all Nep.one = true)
    (hlen : xs.length + ys.length ≤ 9223372036854775807) (hby : (xs.length + ys.length) * by_ ≤ 140737488355328)
    (kk : ∀ v' w', St W w' (Tab v' e k enc (xs ++ ys) :: L.eraseIdx i) → K v' w') :
    X P pf ⟨d, .call { callee := .builtin .append, args := #[s, x], argTypes := #[t, t] }, ty, p, af, g⟩ w K := by
  rcases Nat.eq_zero_or_pos ys.length with h0 | h0
  · obtain rfl : ys = [] := List.length_eq_zero_iff.1 h0
    obtain ⟨ad2, c2, rfl⟩ := hu.val
    obtain ⟨ad, c, rfl, hc⟩ := H.tabVal' i hi
    refine X_append_none ht hs hx hc (kk _ _ ?_)
    rw [List.append_nil]
    exact H.foc i hi
  · obtain ⟨ad, c, rfl⟩ := hu.val
    obtain ⟨b, off, cc, ee, fr, rfl, h2, h3, hA⟩ := hu.at_ h0
    exact S_appendT H i ht hz hzk hk hs hx hi rfl (hA.all H) h1 hlen hby kk
end
end Go.Nep
