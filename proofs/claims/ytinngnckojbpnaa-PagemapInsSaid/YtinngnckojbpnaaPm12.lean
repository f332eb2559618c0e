import Derived.Test.YtinngnckojbpnaaPm11
import Derived.Test.YtinngnckojbpnaaNepArg
/-! pagemap: spots in the memory of arguments; the best of some spots. -/
namespace Go.Proofs.Ytinngnckojbpnaa
open Go.Nep Go.Sort Go.Shelf Go.Proofs
set_option maxRecDepth 100000
set_option linter.unusedVariables false
set_option linter.unusedSimpArgs false
set_option maxHeartbeats 800000

theorem cells2 : Try.prog.cellsOf 23 = 2 := by kernel_rfl
theorem cells6 : Try.prog.cellsOf 27 = 6 := by kernel_rfl
theorem cells1 : Try.prog.cellsOf 3 = 1 := by kernel_rfl
theorem cells1a : Try.prog.cellsOf 24 = 1 := by kernel_rfl
theorem cells1b : Try.prog.cellsOf 25 = 1 := by kernel_rfl

theorem pl_of_trod {H : Type} {en : TypeId × Value → H} {W : World} {b : Nat} {sp : Nat → Bool} {hd : Bool} {fuel : Nat} {cs : List Value} {x : DataW H × List MemPlace} (h : DataW.trod en Try.prog W b sp hd fuel 23 cs = some x) :
    ∃ n0 n1, cs = [i64 n0, i64 n1] ∧ IntKind.i64.has n0 ∧ IntKind.i64.has n1 := by
  obtain ⟨hl, hf⟩ := trod_fields Try.underlying23 h
  rw [cells2] at hl
  match cs, hl with
  | [v0, v1], _ =>
    obtain ⟨n0, h0, w0⟩ := trod_has Try.underlying3 (hf 0 _ rfl)
    obtain ⟨n1, h1, w1⟩ := trod_has Try.underlying3 (hf 1 _ rfl)
    simp [cells1] at h0 h1
    subst h0; subst h1
    exact ⟨n0, n1, rfl, w0, w1⟩

theorem hd_of_trod {H : Type} {en : TypeId × Value → H} {W : World} {b : Nat} {sp : Nat → Bool} {hd : Bool} {fuel : Nat} {cs : List Value} {x : DataW H × List MemPlace} (h : DataW.trod en Try.prog W b sp hd fuel 27 cs = some x) :
    ∃ n0 n1 n2 n3 n4 n5, cs = [i64 n0, i64 n1, i64 n2, .int .u32 n3, .int .u64 n4, .int .u64 n5] ∧ IntKind.i64.has n0 ∧ IntKind.i64.has n1 ∧ IntKind.i64.has n2 ∧ IntKind.u32.has n3 ∧ IntKind.u64.has n4 ∧ IntKind.u64.has n5 := by
  obtain ⟨hl, hf⟩ := trod_fields Try.underlying27 h
  rw [cells6] at hl
  match cs, hl with
  | [v0, v1, v2, v3, v4, v5], _ =>
    obtain ⟨n0, h0, w0⟩ := trod_has Try.underlying3 (hf 0 _ rfl)
    obtain ⟨n1, h1, w1⟩ := trod_has Try.underlying3 (hf 1 _ rfl)
    obtain ⟨n2, h2, w2⟩ := trod_has Try.underlying3 (hf 2 _ rfl)
    obtain ⟨n3, h3, w3⟩ := trod_has Try.underlying24 (hf 3 _ rfl)
    obtain ⟨n4, h4, w4⟩ := trod_has Try.underlying25 (hf 4 _ rfl)
    obtain ⟨n5, h5, w5⟩ := trod_has Try.underlying25 (hf 5 _ rfl)
    simp [cells1, cells1a, cells1b] at h0 h1 h2 h3 h4 h5
    subst h0; subst h1; subst h2; subst h3; subst h4; subst h5
    exact ⟨n0, n1, n2, n3, n4, n5, rfl, w0, w1, w2, w3, w4, w5⟩

theorem spot_of_trod {H : Type} {en : TypeId × Value → H} {W : World} {b : Nat} {sp : Nat → Bool} {hd : Bool} {fuel : Nat} {cs : List Value} {x : DataW H × List MemPlace} (h : DataW.trod en Try.prog W b sp hd fuel 29 cs = some x) :
    ∃ s : Spot, cs = s.enc ∧ s.ok := by
  obtain ⟨hl, hf⟩ := trod_fields Try.underlying29 h
  rw [spot_size] at hl
  match cs, hl with
  | [v0, v1, v2, v3, v4, v5, v6, v7, v8, v9, v10, v11, v12, v13], _ =>
    obtain ⟨y0, m0, h0⟩ := hf 0 _ rfl
    obtain ⟨y1, m1, h1⟩ := hf 1 _ rfl
    obtain ⟨y2, m2, h2⟩ := hf 2 _ rfl
    obtain ⟨a0, a1, e0, k0, k1⟩ := pl_of_trod h0
    obtain ⟨b0, b1, b2, b3, b4, b5, e1, l0, l1, l2, l3, l4, l5⟩ := hd_of_trod h1
    obtain ⟨c0, c1, c2, c3, c4, c5, e2, _⟩ := hd_of_trod h2
    simp [cells2, cells6] at e0 e1 e2
    obtain ⟨rfl, rfl⟩ := e0
    obtain ⟨rfl, rfl, rfl, rfl, rfl, rfl⟩ := e1
    obtain ⟨rfl, rfl, rfl, rfl, rfl, rfl⟩ := e2
    refine ⟨⟨⟨a0, a1⟩, ⟨b0, b1, b2, b3, b4, b5⟩, ⟨c0, c1, c2, c3, c4, c5⟩⟩, rfl, ?_⟩
    exact ⟨⟨(has_u32 l3).1, Int.lt_add_one_of_le (has_u32 l3).2⟩, (has_i64 k0).1, (has_i64 k0).2, (has_i64 k1).1, (has_i64 k1).2, (has_i64 l1).1, (has_i64 l1).2, (has_i64 l2).1, (has_i64 l2).2⟩

/-! ### the best of some spots -/
/-- of two spots with one head there is just one -/
def Unlike (own : List Spot) : Prop := ∀ s ∈ own, ∀ t ∈ own, s.head.epoch = t.head.epoch → s.head.counter = t.head.counter → s = t

/-- a sector's cell behind some spots: the one with the greatest head of those that speak of it -/
def Best (cov : Spot → Prop) (xs : List Spot) : Option Spot → Prop
  | none => ∀ t ∈ xs, ¬ cov t
  | some s => s ∈ xs ∧ cov s ∧ ∀ t ∈ xs, cov t → lessH s.head t.head = false

theorem lessH_irrefl (a b : Hd) (h1 : a.epoch = b.epoch) (h2 : a.counter = b.counter) : lessH a b = false := by
  unfold lessH; simp [h1, h2]
theorem lessH_trans (a b c : Hd) (h1 : lessH a b = true) (h2 : lessH b c = true) : lessH a c = true := by
  unfold lessH at *
  by_cases e1 : a.epoch = b.epoch <;> by_cases e2 : b.epoch = c.epoch
  · rw [if_pos e1] at h1; rw [if_pos e2] at h2; rw [if_pos (by omega)]
    simp only [decide_eq_true_eq] at *; omega
  · rw [if_neg e2] at h2; rw [if_neg (by omega)]
    simp only [decide_eq_true_eq] at *; omega
  · rw [if_neg e1] at h1; rw [if_neg (by omega)]
    simp only [decide_eq_true_eq] at *; omega
  · rw [if_neg e1] at h1; rw [if_neg e2] at h2
    simp only [decide_eq_true_eq] at *
    rw [if_neg (by omega)]
    simp only [decide_eq_true_eq]; omega

theorem newer_own {own : List Spot} (hu : Unlike own) {s t : Spot} (hs : s ∈ own) (ht : t ∈ own) : newer s t = lessH t.head s.head := by
  unfold newer
  by_cases h : s.head.epoch = t.head.epoch ∧ s.head.counter = t.head.counter
  · obtain rfl := hu s hs t ht h.1 h.2
    simp [lessH_irrefl]
  · cases h1 : lessH t.head s.head
    · rcases lessH_unlike s.head t.head (by omega) with h2 | h2
      · simp [h2]
      · rw [h1] at h2; simp at h2
    · simp

theorem Best.step {cov : Spot → Prop} [DecidablePred cov] {own xs : List Spot} (hu : Unlike own) (hx : ∀ t ∈ xs, t ∈ own) {s : Spot} (hs : s ∈ own) {c : Option Spot} (h : Best cov xs c) : Best cov (xs ++ [s]) (if cov s then stepC s c else c) := by
  by_cases hc : cov s
  · rw [if_pos hc]
    cases c with
    | none =>
      refine ⟨by simp, hc, fun t ht htc => ?_⟩
      rcases List.mem_append.1 ht with h1 | h1
      · exact absurd htc (h t h1)
      · simp at h1; subst h1; exact lessH_irrefl _ _ rfl rfl
    | some o =>
      obtain ⟨h1, h2, h3⟩ := h
      have hn := newer_own hu hs (hx o h1)
      cases hl : lessH o.head s.head
      · rw [hl] at hn
        have : stepC s (some o) = some o := by simp [stepC, hn]
        rw [this]
        refine ⟨by simp [h1], h2, fun t ht htc => ?_⟩
        rcases List.mem_append.1 ht with h4 | h4
        · exact h3 t h4 htc
        · simp at h4; subst h4; exact hl
      · rw [hl] at hn
        have : stepC s (some o) = some s := by simp [stepC, hn]
        rw [this]
        refine ⟨by simp, hc, fun t ht htc => ?_⟩
        rcases List.mem_append.1 ht with h4 | h4
        · cases h5 : lessH s.head t.head
          · rfl
          · have := lessH_trans _ _ _ hl h5
            rw [h3 t h4 htc] at this; simp at this
        · simp at h4; subst h4; exact lessH_irrefl _ _ rfl rfl
  · rw [if_neg hc]
    cases c with
    | none =>
      intro t ht
      rcases List.mem_append.1 ht with h1 | h1
      · exact h t h1
      · simp at h1; subst h1; exact hc
    | some o =>
      obtain ⟨h1, h2, h3⟩ := h
      refine ⟨by simp [h1], h2, fun t ht htc => ?_⟩
      rcases List.mem_append.1 ht with h4 | h4
      · exact h3 t h4 htc
      · simp at h4; subst h4; exact absurd htc hc

theorem Best.one {cov : Spot → Prop} {own xs ys : List Spot} (hu : Unlike own) (hx : ∀ t, t ∈ xs ↔ t ∈ own) (hy : ∀ t, t ∈ ys ↔ t ∈ own) {c c' : Option Spot} (h : Best cov xs c) (h' : Best cov ys c') : c = c' := by
  cases c with
  | none =>
    cases c' with
    | none => rfl
    | some s => exact absurd h'.2.1 (h s ((hx s).2 ((hy s).1 h'.1)))
  | some s =>
    cases c' with
    | none => exact absurd h.2.1 (h' s ((hy s).2 ((hx s).1 h.1)))
    | some t =>
      have h1 := h.2.2 t ((hx t).2 ((hy t).1 h'.1)) h'.2.1
      have h2 := h'.2.2 s ((hy s).2 ((hx s).1 h.1)) h.2.1
      by_cases e : s.head.epoch = t.head.epoch ∧ s.head.counter = t.head.counter
      · rw [hu s ((hx s).1 h.1) t ((hy t).1 h'.1) e.1 e.2]
      · rcases lessH_unlike s.head t.head (by omega) with h3 | h3
        · rw [h1] at h3; simp at h3
        · rw [h2] at h3; simp at h3

theorem nodup_sub {α : Type} [DecidableEq α] : ∀ (l l' : List α), l.Nodup → (∀ x ∈ l, x ∈ l') → l.length ≤ l'.length := by
  intro l
  induction l with
  | nil => intro l' _ _; simp
  | cons x r ih =>
    intro l' hn hs
    obtain ⟨h1, h2⟩ := List.nodup_cons.1 hn
    have hx : x ∈ l' := hs x (by simp)
    have := ih (l'.erase x) h2 fun y hy => by
      have hne : y ≠ x := fun e => h1 (by rw [← e]; exact hy)
      exact (List.mem_erase_of_ne hne).2 (hs y (by simp [hy]))
    rw [List.length_erase_of_mem hx] at this
    have hp : 0 < l'.length := List.length_pos_of_mem hx
    simp only [List.length_cons]
    omega
end Go.Proofs.Ytinngnckojbpnaa
