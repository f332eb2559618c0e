import Derived.Test.YtinngnckojbpnaaPm12
/-! pagemap: a map to which spots of a few are put. -/
namespace Go.Proofs.Ytinngnckojbpnaa
open Go.Nep Go.Sort Go.Shelf Go.Proofs
set_option maxRecDepth 100000
set_option linter.unusedVariables false
set_option linter.unusedSimpArgs false
set_option maxHeartbeats 800000

/-- does a spot speak of a sector of a namespace of so many? -/
def cov (N j : Nat) (s : Spot) : Prop := ((s.head.kind = 1 ∨ s.head.kind = 2) ∧ 1 ≤ s.head.count ∧ s.head.count ≤ N ∧ s.head.lba ≤ N - s.head.count) ∧ s.head.lba ≤ j ∧ j < s.head.lba + s.head.count
instance (N j : Nat) : DecidablePred (cov N j) := fun s => by unfold cov; infer_instance

structure MapI (m : PMx) (N : Nat) (xs : List Spot) : Prop where
  small : N ≤ 40
  l1 : (m.l 1).length = N
  l0 : ∀ k, k < 4 → k ≠ 1 → m.l k = []
  best : ∀ j c, (m.l 1)[j]? = some c → Best (cov N j) xs c
  ref : REF m.E m.clock (cnt m.l)

theorem cntL_some {l : List (Option Spot)} {q : Pl} (h : cntL l q ≠ 0) : ∃ (i : Nat) (s : Spot), l[i]? = some (some s) ∧ s.place = q := by
  unfold cntL at h
  induction l with
  | nil => simp at h
  | cons c r ih =>
    simp only [List.map_cons, List.sum_cons] at h
    by_cases hc : plOf c q = 0
    · obtain ⟨i, s, h1, h2⟩ := ih (by omega)
      exact ⟨i + 1, s, by simpa using h1, h2⟩
    · cases c with
      | none => exact absurd rfl hc
      | some s =>
        unfold plOf at hc
        by_cases e : q = s.place
        · exact ⟨0, s, rfl, e.symm⟩
        · simp [e] at hc

theorem MapI.size {m : PMx} {N : Nat} {xs : List Spot} (h : MapI m N xs) : sizeOf_ m 1 = N := by
  unfold sizeOf_
  rw [if_pos (by omega)]
  exact h.l1
theorem MapI.len {m : PMx} {N : Nat} {xs : List Spot} (h : MapI m N xs) (k : Nat) (hk : k < 4) : (m.l k).length ≤ 65535 := by
  have h1 := h.small
  by_cases e : k = 1
  · subst e; rw [h.l1]; omega
  · rw [h.l0 k hk e]; simp

theorem Put_own {m : PMx} {N : Nat} {own xs : List Spot} (hI : MapI m N xs) (hu : Unlike own) (h12 : own.length ≤ 12) (hx : ∀ t ∈ xs, t ∈ own) {s : Spot} (hs : s ∈ own) (hok : s.head.ok) (hns : s.head.ns = 1) {w0 w : World} {L : List Asn} (H : St w0 w (m.at_ ++ L)) :
    Calls Try.prog 14 #[pt m.p 0, .agg s.enc.toArray] w (After fun v w' => ∃ m', m'.p = m.p ∧ MapI m' N (xs ++ [s]) ∧ St w0 w' (m'.at_ ++ L)) := by
  have hN := hI.small
  have hsz := hI.size
  by_cases hr : rightS m s
  · have hr' := hr
    unfold rightS at hr'
    rw [hns, hsz] at hr'
    obtain ⟨hk, c1, c2, c3⟩ := hr'
    obtain ⟨hl0, hl1⟩ := hok
    have h1 : s.head.ns.toNat = 1 := by rw [hns]; rfl
    have hlm : ∀ n j, (m.mid s n).l j = if j = 1 then putL s s.head.lba.toNat n (m.l 1) else m.l j := by
      intro n j
      show atK _ _ _ j = _
      unfold atK
      rw [h1]
    have hfew : ∀ outs, OutsOK (cnt m.l) (cnt (m.mid s s.head.count.toNat).l) s.place outs → outs.length ≤ 12 := by
      intro outs hO
      have hsub : ∀ q ∈ outs, q ∈ own.map (·.place) := by
        intro q hq
        have h0 := ((hO.mem q).1 hq).1
        have e0 := hI.l0 0 (by omega) (by omega)
        have e2 := hI.l0 2 (by omega) (by omega)
        have e3 := hI.l0 3 (by omega) (by omega)
        unfold cnt at h0
        rw [e0, e2, e3] at h0
        have hz : cntL [] q = 0 := rfl
        obtain ⟨i, t, ht1, ht2⟩ := cntL_some (l := m.l 1) (q := q) (by omega)
        have hb := hI.best i _ ht1
        exact List.mem_map.2 ⟨t, hx t hb.1, ht2⟩
      have := nodup_sub outs _ hO.nodup hsub
      simp at this
      omega
    refine calls_to (Put_spec m s ⟨hl0, hl1⟩ hr hI.len hI.ref sortS (fun outs hO _ v w0 w L H => told_small outs (hfew outs hO) H) H) ?_
    rintro v w' ⟨u, E, clock, outs, rfl, hR, hO, _, H⟩
    refine ⟨(m.mid s s.head.count.toNat).withE E clock, rfl, ⟨hN, ?_, ?_, ?_, hR⟩, H.cut⟩
    · show ((m.mid s _).l 1).length = N
      rw [hlm, if_pos rfl, putL_len]; exact hI.l1
    · intro k hk hk1
      show (m.mid s _).l k = []
      rw [hlm, if_neg hk1]; exact hI.l0 k hk hk1
    · intro j c hj
      have hj2 : ((m.mid s s.head.count.toNat).l 1)[j]? = some c := hj
      rw [hlm, if_pos rfl, putL_get] at hj2
      obtain ⟨c0, hc0⟩ : ∃ c0, (m.l 1)[j]? = some c0 := by
        cases h : (m.l 1)[j]? with
        | none => rw [h] at hj2; simp at hj2
        | some c0 => exact ⟨c0, rfl⟩
      have hjl : j < N := by rw [← hI.l1]; exact (List.getElem?_eq_some_iff.1 hc0).1
      have hb := (hI.best j c0 hc0).step hu hx hs
      have hiff : cov N j s ↔ s.head.lba.toNat ≤ j ∧ j < s.head.lba.toNat + s.head.count.toNat := by
        unfold cov
        omega
      by_cases hcv : cov N j s
      · rw [if_pos (hiff.1 hcv), hc0] at hj2
        simp at hj2
        rw [if_pos hcv, hj2] at hb
        exact hb
      · rw [if_neg (fun h => hcv (hiff.2 h)), hc0] at hj2
        simp at hj2
        rw [if_neg hcv, hj2] at hb
        exact hb
  · refine calls_to (Put_bad m s hok hr (by rw [hns, hsz]; omega) H) ?_
    rintro v w' ⟨rfl, H⟩
    refine ⟨m, rfl, ⟨hN, hI.l1, hI.l0, fun j c hj => ?_, hI.ref⟩, H⟩
    have hb := (hI.best j c hj).step hu hx hs
    have hcv : ¬ cov N j s := by
      intro h
      unfold rightS at hr
      rw [hns, hsz] at hr
      exact hr h.1
    rwa [if_neg hcv] at hb

/-- a new map of one namespace -/
theorem MapI.new (p r b N : Nat) (hN : N ≤ 40) : MapI ((newM p r).grown 1 b N) N [] := by
  refine ⟨hN, ?_, ?_, ?_, ?_⟩
  · show (List.replicate N (none : Option Spot)).length = N
    simp
  · intro k _ hk
    show (if k = 1 then _ else _) = _
    rw [if_neg hk]; rfl
  · intro j c hj
    have hj2 : (List.replicate N (none : Option Spot))[j]? = some c := hj
    rw [List.getElem?_replicate] at hj2
    split at hj2
    · cases hj2
      intro t ht
      simp at ht
    · simp at hj2
  · have : cnt ((newM p r).grown 1 b N).l = fun _ => 0 := by
      funext q
      have : ∀ n, cntL (List.replicate n (none : Option Spot)) q = 0 := by
        intro n
        unfold cntL
        induction n with
        | zero => rfl
        | succ n ih => rw [List.replicate_succ, List.map_cons, List.sum_cons, ih]; rfl
      have e1 : cntL (((newM p r).grown 1 b N).l 1) q = 0 := this N
      unfold cnt
      rw [e1]
      rfl
    rw [this]
    exact REF.nil

/-- what both tell of a sector is one -/
theorem MapI.same {m m' : PMx} {N : Nat} {own xs ys : List Spot} (hu : Unlike own) (hx : ∀ t, t ∈ xs ↔ t ∈ own) (hy : ∀ t, t ∈ ys ↔ t ∈ own) (h : MapI m N xs) (h' : MapI m' N ys) (lba : Int) : getV m 1 lba = getV m' 1 lba := by
  unfold getV
  rw [h.size, h'.size]
  by_cases hl : 0 ≤ lba ∧ lba < N
  · rw [if_pos hl, if_pos hl]
    show (m.l 1)[lba.toNat]?.join = (m'.l 1)[lba.toNat]?.join
    have b1 : lba.toNat < (m.l 1).length := by rw [h.l1]; omega
    have b2 : lba.toNat < (m'.l 1).length := by rw [h'.l1]; omega
    have e1 : (m.l 1)[lba.toNat]? = some (m.l 1)[lba.toNat] := List.getElem?_eq_getElem (by rw [h.l1]; omega)
    have e2 : (m'.l 1)[lba.toNat]? = some (m'.l 1)[lba.toNat] := List.getElem?_eq_getElem (by rw [h'.l1]; omega)
    rw [e1, e2, Best.one hu hx hy (h.best _ _ e1) (h'.best _ _ e2)]
  · rw [if_neg hl, if_neg hl]
end Go.Proofs.Ytinngnckojbpnaa
