import Derived.Test.YtinngnckojbpnaaNepFlat
import Derived.Test.YtinngnckojbpnaaNepRes
/-! Rows of elements of one kind, that are owned: elements read, written, appended. -/
namespace Go.Nep
set_option linter.unusedVariables false
set_option linter.unusedSimpArgs false
open Go.RowKit

section
variable {α : Type} {w0 w : World} {L : List Asn}

/-- a slice of elements, the whole of a block that is owned -/
def Tab (v : Value) (e : TypeId) (k : Nat) (enc : α → List Value) (xs : List α) : Asn := Row v e k xs.length (xs.flatMap enc)

theorem St.tabVal {v : Value} {e : TypeId} {k : Nat} {enc : α → List Value} {xs : List α} (H : St w0 w (Tab v e k enc xs :: L)) : ∃ ad cap, v = .slice ad xs.length cap ∧ xs.length ≤ cap := H.rowVal
theorem St.tabVal' (H : St w0 w L) (i : Nat) {v : Value} {e : TypeId} {k : Nat} {enc : α → List Value} {xs : List α} (hi : L[i]? = some (Tab v e k enc xs)) : ∃ ad cap, v = .slice ad xs.length cap ∧ xs.length ≤ cap := (H.foc i hi).tabVal
theorem St.tabNil {e : TypeId} {k : Nat} {enc : α → List Value} (H : St w0 w L) : St w0 w (Tab (.slice none 0 0) e k enc [] :: L) := H.rowNil
theorem St.tabPos' (H : St w0 w L) (i : Nat) {v : Value} {e : TypeId} {k : Nat} {enc : α → List Value} {xs : List α} (hi : L[i]? = some (Tab v e k enc xs)) (h0 : 0 < xs.length) :
    ∃ g cap, v = sl g 0 xs.length cap ∧ xs.length ≤ cap ∧ cap ≤ maxLen := by
  obtain ⟨hl, h⟩ := (H.foc i hi).row
  rcases h with ⟨_, h3, _⟩ | ⟨g, cap, cur, h3, h4, h5, _⟩
  · omega
  · exact ⟨g, cap, h3, h4, h5⟩

/-- its block -/
theorem St.tabBlk {g n cap : Nat} {e : TypeId} {k : Nat} {enc : α → List Value} {xs : List α} (H : St w0 w (Tab (sl g 0 n cap) e k enc xs :: L)) :
    n = xs.length ∧ n ≤ cap ∧ ∃ cur, cur.size = cap * k ∧ cur.toList.take (n * k) = xs.flatMap enc ∧ St w0 w (Cs g cur e :: L) ∧
      ∀ (xs' : List α) (cur' : Array Value) (w' : World), cur'.size = cap * k → xs'.length = n → cur'.toList.take (n * k) = xs'.flatMap enc → (xs'.flatMap enc).length = n * k → ∀ L', St w0 w' (Cs g cur' e :: L') → St w0 w' (Tab (sl g 0 n cap) e k enc xs' :: L') := by
  obtain ⟨hl, h⟩ := H.row
  rcases h with ⟨h1, _⟩ | ⟨g', cap', cur, h1, h2, h3, h4, h5, h6⟩
  · simp at h1
  · simp only [Value.slice.injEq, Option.some.injEq] at h1
    obtain ⟨h11, rfl, rfl⟩ := h1
    cases h11
    refine ⟨rfl, h2, cur, h4, h5, h6, fun xs' cur' w' a1 a2 a3 a4 L' H' => H'.imp fun h p => ?_⟩
    refine ⟨by rw [a2]; exact a4, .inr ⟨g, cap, cur', by rw [a2], by rw [a2]; exact h2, h3, a1, by rw [a2]; exact a3, p⟩⟩

theorem St.tabRd (H : St w0 w L) (i : Nat) {g n cap : Nat} {e : TypeId} {k : Nat} {enc : α → List Value} {xs : List α} (hk : ∀ a, (enc a).length = k) (hi : L[i]? = some (Tab (sl g 0 n cap) e k enc xs))
    {j o m : Nat} {a : α} (hx : xs[j]? = some a) (ho : o + m ≤ k) : rdN w ⟨g, j * k + o, none⟩ m = some (((enc a).drop o).take m) := by
  obtain ⟨rfl, hle, cur, hs, ht, H', _⟩ := (H.foc i hi).tabBlk
  have hw : w.heap[g]? = some (.cells cur e (0, 0)) := H'.hd
  have hj := (List.getElem?_eq_some_iff.1 hx).1
  have h1 : (j + 1) * k ≤ xs.length * k := Nat.mul_le_mul_right k hj
  have h2 : xs.length * k ≤ cap * k := Nat.mul_le_mul_right k hle
  rw [Nat.add_mul] at h1
  unfold rdN
  simp only [hw]
  rw [if_pos ⟨trivial, by omega⟩, ← flat_sub enc hk xs j o m hx ho, ← ht]
  rw [List.drop_take, List.take_take, Nat.min_eq_left (by omega)]
theorem St.tabCell (H : St w0 w L) (i : Nat) {g n cap : Nat} {e : TypeId} {k : Nat} {enc : α → List Value} {xs : List α} (hk : ∀ a, (enc a).length = k) (hi : L[i]? = some (Tab (sl g 0 n cap) e k enc xs))
    {j o : Nat} {a : α} (hx : xs[j]? = some a) (ho : o < k) : w.cell? ⟨g, j * k + o, none⟩ = (enc a)[o]? := by
  obtain ⟨rfl, hle, cur, hs, ht, H', _⟩ := (H.foc i hi).tabBlk
  have hw : w.heap[g]? = some (.cells cur e (0, 0)) := H'.hd
  have hj := (List.getElem?_eq_some_iff.1 hx).1
  have h1 : (j + 1) * k ≤ xs.length * k := Nat.mul_le_mul_right k hj
  rw [Nat.add_mul] at h1
  rw [cell_of hw, ← flat_get enc hk xs j o hx ho, ← ht, List.getElem?_take, if_pos (by omega)]
  simp

/-- a part of one element is written -/
theorem St.tabUp (H : St w0 w L) (i : Nat) {g n cap : Nat} {e : TypeId} {k : Nat} {enc : α → List Value} {xs : List α} (hk : ∀ a, (enc a).length = k) (hi : L[i]? = some (Tab (sl g 0 n cap) e k enc xs))
    {j o : Nat} {a a' : α} {l : List Value} (hx : xs[j]? = some a) (ho : o + l.length ≤ k) (he : (enc a).take o ++ l ++ (enc a).drop (o + l.length) = enc a') :
    ∃ cur, w.heap[g]? = some (.cells cur e (0, 0)) ∧ j * k + o + l.length ≤ cur.size ∧ St w0 (upd w g (.cells (splice cur (j * k + o) l) e (0, 0))) (L.set i (Tab (sl g 0 n cap) e k enc (xs.set j a'))) := by
  obtain ⟨rfl, hle, cur, hs, ht, H', back⟩ := (H.foc i hi).tabBlk
  have hj := (List.getElem?_eq_some_iff.1 hx).1
  have h1 : (j + 1) * k ≤ xs.length * k := Nat.mul_le_mul_right k hj
  have h2 : xs.length * k ≤ cap * k := Nat.mul_le_mul_right k hle
  rw [Nat.add_mul] at h1
  refine ⟨cur, H'.hd, by omega, ?_⟩
  have hsz : (splice cur (j * k + o) l).size = cap * k := by rw [splice_size (by omega)]; exact hs
  have htk : (splice cur (j * k + o) l).toList.take (xs.length * k) = (xs.set j a').flatMap enc := by
    have h3 := congrArg Array.toList (flat_part enc hk xs j o l hx ho he)
    simp only [List.toList_toArray] at h3
    rw [← h3]
    unfold splice
    simp only [List.toList_toArray]
    have hlen := flat_len enc hk xs
    have e1 : (xs.flatMap enc).take (j * k + o) = cur.toList.take (j * k + o) := by rw [← ht, List.take_take, Nat.min_eq_left (by omega)]
    have e2 : (xs.flatMap enc).drop (j * k + o + l.length) = (cur.toList.drop (j * k + o + l.length)).take (xs.length * k - (j * k + o + l.length)) := by rw [← ht, List.drop_take]
    have e3 : (cur.toList.take (j * k + o)).length = j * k + o := by simp; omega
    rw [e1, e2, List.take_append, List.length_append, e3, List.take_of_length_le (by rw [List.length_append, e3]; omega)]
  have H2 := back (xs.set j a') _ _ hsz (by simp) htk (by rw [flat_len enc hk]; simp) _ (H'.updHd (o' := .cells (splice cur (j * k + o) l) e (0, 0)))
  have hlt : i < L.length := (List.getElem?_eq_some_iff.1 hi).1
  refine H2.perm ?_
  have := perm_erase (L.set i (Tab (sl g 0 xs.length cap) e k enc (xs.set j a'))) i (Tab (sl g 0 xs.length cap) e k enc (xs.set j a')) (by simp [hlt])
  rw [List.eraseIdx_set_eq] at this
  exact this
end

section
variable {α : Type} {P : Program} {w0 w : World} {L : List Asn} {pf : PF} {K : Value → World → Prop} {d : Option Nat} {ty : TypeId} {p : String} {af : Array Edge} {g : Option (Nat × Bool)}

theorem S_loadT (H : St w0 w L) (i : Nat) {t : TypeId} {m : Nat} {x : Operand} {b off n cap : Nat} {e : TypeId} {k : Nat} {enc : α → List Value} {xs : List α} {j o : Nat} {a : α} {l : List Value} (ht : tyB P t = some (true, m)) (h : ev pf x = some (pt b off))
    (hk : ∀ a, (enc a).length = k) (hi : L[i]? = some (Tab (sl b 0 n cap) e k enc xs)) (hoff : off = j * k + o) (hx : xs[j]? = some a) (ho : o + m ≤ k) (hl : ((enc a).drop o).take m = l) (kk : K (.agg l.toArray) w) : X P pf ⟨d, .load t x, ty, p, af, g⟩ w K :=
  X_load ht h (by rw [hoff, H.tabRd i hk hi hx ho, hl]) kk
theorem S_loadT1 (H : St w0 w L) (i : Nat) {t : TypeId} {m : Nat} {x : Operand} {b off n cap : Nat} {e : TypeId} {k : Nat} {enc : α → List Value} {xs : List α} {j o : Nat} {a : α} {v : Value} (ht : tyB P t = some (false, m)) (h : ev pf x = some (pt b off))
    (hk : ∀ a, (enc a).length = k) (hi : L[i]? = some (Tab (sl b 0 n cap) e k enc xs)) (hoff : off = j * k + o) (hx : xs[j]? = some a) (ho : o < k) (hl : (enc a)[o]? = some v) (kk : K v w) : X P pf ⟨d, .load t x, ty, p, af, g⟩ w K :=
  X_load1 ht h (by rw [hoff, H.tabCell i hk hi hx ho, hl]) kk
theorem S_storeT (H : St w0 w L) (i : Nat) {t : TypeId} {ag : Bool} {m : Nat} {x y : Operand} {b off n cap : Nat} {e : TypeId} {k : Nat} {enc : α → List Value} {xs : List α} {j o : Nat} {a a' : α} {v : Value} (ht : tyB P t = some (ag, m)) (h : ev pf x = some (pt b off)) (hv : ev pf y = some v)
    (hk : ∀ a, (enc a).length = k) (hi : L[i]? = some (Tab (sl b 0 n cap) e k enc xs)) (hoff : off = j * k + o) (hx : xs[j]? = some a) (hn : v.cells.size = m) (ho : o + m ≤ k) (h1 : v.cells.toList.all one = true)
    (he : (enc a).take o ++ v.cells.toList ++ (enc a).drop (o + m) = enc a') (kk : ∀ w', St w0 w' (L.set i (Tab (sl b 0 n cap) e k enc (xs.set j a'))) → K undef w') :
    X P pf ⟨d, .store t x y, ty, p, af, g⟩ w K := by
  have hlen : v.cells.toList.length = m := by simpa using hn
  obtain ⟨cur, hh, hle, H'⟩ := H.tabUp i hk hi (l := v.cells.toList) hx (by rw [hlen]; exact ho) (by rw [hlen]; exact he)
  subst hoff
  exact X_store ht h hv hh hn (by rw [hlen] at hle; exact hle) h1 (kk _ H')

/-- one element more, or some -/
theorem S_appendT (H : St w0 w L) (i : Nat) {t e : TypeId} {k by_ : Nat} {z : Value} {s x : Operand} {v : Value} {enc : α → List Value} {xs ys : List α} {ad : Addr} {m c : Nat} (ht : slB P t = some (e, k, by_)) (hz : zeB P e = some z) (hzk : z.cells.size = k) (hk : 0 < k)
    (hs : ev pf s = some v) (hx : ev pf x = some (.slice (some ad) m c)) (hi : L[i]? = some (Tab v e k enc xs)) (hm : m = ys.length) (hr : rdN w ad (m * k) = some (ys.flatMap enc)) (h1 : (ys.flatMap enc).all one = true) (hlen : xs.length + m ≤ 9223372036854775807) (hby : (xs.length + m) * by_ ≤ 140737488355328)
    (kk : ∀ v' w', St w0 w' (Tab v' e k enc (xs ++ ys) :: L.eraseIdx i) → K v' w') :
    X P pf ⟨d, .call { callee := .builtin .append, args := #[s, x], argTypes := #[t, t] }, ty, p, af, g⟩ w K :=
  S_append H i ht hz hzk hk hs hx hi hr h1 hlen hby fun v' w' H' => kk v' w' (by
    subst hm
    unfold Tab
    rw [List.length_append, List.flatMap_append]
    exact H')
end

section
variable {α : Type} {P : Program} {w0 w : World} {L : List Asn} {pf : PF} {K : Value → World → Prop} {d : Option Nat} {ty : TypeId} {p : String} {af : Array Edge} {g : Option (Nat × Bool)}

theorem S_lit0T (H : St w0 w L) {t e : TypeId} {k by_ : Nat} (enc : α → List Value) (ht : slB P t = some (e, k, by_)) (kk : ∀ b w', St w0 w' (Tab (sl b 0 0 0) e k enc [] :: L) → K (sl b 0 0 0) w') : X P pf ⟨d, .buildSlice t 0 #[], ty, p, af, g⟩ w K :=
  S_lit0 H ht fun b w' H' => kk b w' (H'.mkRow (n := 0) (k := k) (by simp) (by decide))

theorem S_lit1T (H : St w0 w L) {t e : TypeId} {k by_ : Nat} {z v : Value} {x : Operand} {enc : α → List Value} {a : α} (ht : slB P t = some (e, k, by_)) (hz : zeB P e = some z) (hzk : z.cells.size = k) (hx : ev pf x = some v) (hv : v.cells.toList = enc a) (hk : (enc a).length = k) (h0 : 0 < k) (h1 : k ≤ 16777216)
    (kk : ∀ b w', St w0 w' (Tab (sl b 0 1 1) e k enc [a] :: L) → K (sl b 0 1 1) w') : X P pf ⟨d, .buildSlice t 1 #[(0, x)], ty, p, af, g⟩ w K := by
  have hvs : v.cells.size = k := by rw [← hk, ← hv]; simp
  have hsp : splice z.cells (0 * k) v.cells.toList = v.cells := by
    unfold splice
    rw [Nat.zero_mul]
    have : z.cells.toList.drop (0 + v.cells.toList.length) = [] := by rw [List.drop_eq_nil_iff]; simp; omega
    rw [this]; simp
  refine S_lit (parts := [(0, x)]) (len := 1) (vals := [(0, v)]) (cells := v.cells) H ht hz (by simp [evP, hx]) (by omega) (by omega) (fill1 hzk (fill_put (off := 0 * k) (size := k) (c2 := v.cells) rfl hvs (by omega) hsp rfl)) fun b w' H' => ?_
  refine kk b w' ?_
  have := H'.mkRow (n := 1) (k := k) (by omega) (by decide)
  unfold Tab
  rw [hv] at this
  simpa using this

/-- all of a row, appended to another one -/
theorem S_appendTT (H : St w0 w L) (i j : Nat) {t e e2 : TypeId} {k by_ : Nat} {z : Value} {s x : Operand} {v u : Value} {enc : α → List Value} {xs ys : List α} (ht : slB P t = some (e, k, by_)) (hz : zeB P e = some z) (hzk : z.cells.size = k) (hk : 0 < k)
    (hs : ev pf s = some v) (hx : ev pf x = some u) (hi : L[i]? = some (Tab v e k enc xs)) (hj : L[j]? = some (Tab u e2 k enc ys)) (h1 : (ys.flatMap enc).all one = true) (hlen : xs.length + ys.length ≤ 9223372036854775807) (hby : (xs.length + ys.length) * by_ ≤ 140737488355328)
    (kk : ∀ v' w', St w0 w' (Tab v' e k enc (xs ++ ys) :: L.eraseIdx i) → K v' w') :
    X P pf ⟨d, .call { callee := .builtin .append, args := #[s, x], argTypes := #[t, t] }, ty, p, af, g⟩ w K := by
  obtain ⟨ad2, c2, rfl, _⟩ := H.tabVal' j hj
  rcases Nat.eq_zero_or_pos ys.length with h0 | h0
  · obtain rfl : ys = [] := List.length_eq_zero_iff.1 h0
    obtain ⟨ad, c, rfl, hc⟩ := H.tabVal' i hi
    refine X_append_none ht hs hx hc (kk _ _ ?_)
    rw [List.append_nil]
    exact H.foc i hi
  · obtain ⟨gg, cap, hu, _⟩ := H.tabPos' j hj h0
    simp only [Value.slice.injEq] at hu
    obtain ⟨rfl, _, rfl⟩ := hu
    obtain ⟨hm, hr⟩ := (H.foc j hj).rowRd rfl
    exact S_appendT H i ht hz hzk hk hs hx hi rfl hr h1 hlen hby kk

/-- a part of a row, read -/
theorem St.tabSub (H : St w0 w L) (i : Nat) {g n cap : Nat} {e : TypeId} {k : Nat} {enc : α → List Value} {xs : List α} (hk : ∀ a, (enc a).length = k) (hi : L[i]? = some (Tab (sl g 0 n cap) e k enc xs))
    {lo m : Nat} (hm : lo + m ≤ xs.length) : rdN w ⟨g, lo * k, none⟩ (m * k) = some (((xs.drop lo).take m).flatMap enc) := by
  obtain ⟨rfl, hle, cur, hs, ht, H', _⟩ := (H.foc i hi).tabBlk
  have hw : w.heap[g]? = some (.cells cur e (0, 0)) := H'.hd
  have h1 : (lo + m) * k ≤ xs.length * k := Nat.mul_le_mul_right k hm
  have h2 : xs.length * k ≤ cap * k := Nat.mul_le_mul_right k hle
  rw [Nat.add_mul] at h1
  unfold rdN
  simp only [hw]
  rw [if_pos ⟨trivial, by omega⟩, ← flat_take enc hk, ← flat_drop enc hk, ← ht, List.drop_take, List.take_take, Nat.min_eq_left (by omega)]

/-- a part of a row, appended to another one -/
theorem S_appendSub (H : St w0 w L) (i j : Nat) {t e e2 : TypeId} {k by_ : Nat} {z : Value} {s x : Operand} {v : Value} {enc : α → List Value} {xs ys : List α} {ad : Option Addr} {n cap lo hi' : Nat} (ht : slB P t = some (e, k, by_)) (hz : zeB P e = some z) (hzk : z.cells.size = k) (hk : 0 < k) (henc : ∀ a, (enc a).length = k)
    (hs : ev pf s = some v) (hx : ev pf x = some (resl k ad (lo, hi', cap))) (hi : L[i]? = some (Tab v e k enc xs)) (hj : L[j]? = some (Tab (.slice ad n cap) e2 k enc ys)) (hlo : lo ≤ hi') (hhi : hi' ≤ ys.length) (h1 : (ys.flatMap enc).all one = true) (hlen : xs.length + ys.length ≤ 9223372036854775807) (hby : (xs.length + ys.length) * by_ ≤ 140737488355328)
    (kk : ∀ v' w', St w0 w' (Tab v' e k enc (xs ++ (ys.drop lo).take (hi' - lo)) :: L.eraseIdx i) → K v' w') :
    X P pf ⟨d, .call { callee := .builtin .append, args := #[s, x], argTypes := #[t, t] }, ty, p, af, g⟩ w K := by
  obtain ⟨ad1, c1, hv1, hcap⟩ := H.tabVal' j hj
  simp only [Value.slice.injEq] at hv1
  obtain ⟨rfl, rfl, rfl⟩ := hv1
  rcases Nat.eq_zero_or_pos (hi' - lo) with h0 | h0
  · obtain ⟨ad2, c, rfl, hc⟩ := H.tabVal' i hi
    have hx' : ev pf x = some (.slice (if cap = lo then ad else ad.map (·.add (lo * k))) 0 (cap - lo)) := by rw [hx]; simp [resl, h0]
    refine X_append_none ht hs hx' hc (kk _ _ ?_)
    rw [h0, List.take_zero, List.append_nil]
    exact H.foc i hi
  · obtain ⟨gg, cap2, hu, _⟩ := H.tabPos' j hj (by omega)
    simp only [Value.slice.injEq] at hu
    obtain ⟨rfl, _, rfl⟩ := hu
    have hx' : ev pf x = some (.slice (some ⟨gg, lo * k, none⟩) (hi' - lo) (cap - lo)) := by
      rw [hx]
      have : ¬ cap = lo := by omega
      simp [resl, this, add_at]
    have hlen2 : ((ys.drop lo).take (hi' - lo)).length = hi' - lo := by simp; omega
    have h2 : (((ys.drop lo).take (hi' - lo)).flatMap enc).all one = true := by
      rw [List.all_eq_true] at h1 ⊢
      intro y hy
      obtain ⟨a, ha, hy⟩ := List.mem_flatMap.1 hy
      exact h1 y (List.mem_flatMap.2 ⟨a, List.mem_of_mem_drop (List.mem_of_mem_take ha), hy⟩)
    have hb2 : (xs.length + (hi' - lo)) * by_ ≤ (xs.length + ys.length) * by_ := Nat.mul_le_mul_right _ (by omega)
    exact S_appendT H i ht hz hzk hk hs hx' hi hlen2.symm (H.tabSub j henc hj (by omega)) h2 (by omega) (by omega) kk
end

/-- a piece that was taken out and turned, put back in its place -/
theorem St.back {w0 w : World} {L : List Asn} {P : Asn} (i : Nat) (H : St w0 w (P :: L.eraseIdx i)) (hi : i < L.length) : St w0 w (L.set i P) := by
  refine H.perm ?_
  have := perm_erase (L.set i P) i P (by simp [hi])
  rw [List.eraseIdx_set_eq] at this
  exact this

/-- a value of one cell -/
def Slim (v : Value) : Prop := v.cells = #[v] ∧ one v = true
theorem St.tabSl {α : Type} {w0 w : World} {L : List Asn} {v : Value} {e : TypeId} {k : Nat} {enc : α → List Value} {xs : List α} (H : St w0 w (Tab v e k enc xs :: L)) : Slim v := by
  obtain ⟨ad, cap, rfl, _⟩ := H.tabVal
  exact ⟨rfl, rfl⟩
theorem S_storeV {P : Program} {w0 w : World} {L : List Asn} {pf : PF} {K : Value → World → Prop} {d : Option Nat} {ty : TypeId} {p : String} {af : Array Edge} {g : Option (Nat × Bool)} (H : St w0 w L) (i : Nat) {t : TypeId} {ag : Bool} {x y : Operand} {b off : Nat} {v : Value} {c c' : Array Value} {e : TypeId} (ht : tyB P t = some (ag, 1)) (h : ev pf x = some (pt b off)) (hv : ev pf y = some v)
    (hi : L[i]? = some (Cs b c e)) (hs : Slim v) (hle : off + 1 ≤ c.size) (hc : splice c off [v] = c') (k : ∀ w', St w0 w' (L.set i (Cs b c' e)) → K undef w') :
    X P pf ⟨d, .store t x y, ty, p, af, g⟩ w K :=
  S_store H i ht h hv hi (by rw [hs.1]; rfl) hle (by rw [hs.1]; simp [hs.2]) (by rw [hs.1]; exact hc) k

theorem St.dropAt {w0 w : World} {L : List Asn} (H : St w0 w L) (i : Nat) : St w0 w (L.eraseIdx i) := by
  rcases Nat.lt_or_ge i L.length with h | h
  · exact St.drop (P := L[i]) (H.foc i (List.getElem?_eq_getElem h))
  · rw [List.eraseIdx_of_length_le h]; exact H

theorem permStep {M R : List Asn} {A : Asn} (i : Nat) (h : M[i]? = some A) (k : (M.eraseIdx i).Perm R) : M.Perm (A :: R) := (perm_erase M i A h).symm.trans (k.cons A)
end Go.Nep
