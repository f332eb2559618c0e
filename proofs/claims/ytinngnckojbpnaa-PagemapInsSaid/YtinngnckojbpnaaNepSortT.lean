import Derived.Test.YtinngnckojbpnaaNepTab
import Derived.Test.YtinngnckojbpnaaNepSort
/-! Rows of structs, sorted by the library, whatever their number. -/
namespace Go.Nep
set_option linter.unusedVariables false
set_option linter.unusedSimpArgs false
open Go.Sort Go.Shelf Go.Proofs

theorem sort_tab {P : Program} {ρ : Ren} (Ly : SlLaysF0.n6 P ρ) {α : Type} (R : α → Prop) (enc : α → List Value) (k : Nat) (hk0 : 0 < k) (aE : ∀ w, (isAgg (ρ.t 24)).run P w = .ok true w) (zE : ∀ w, (Go.sizeOf (ρ.t 24)).run P w = .ok k w)
    (hk : ∀ x, (enc x).length = k) (h1 : ∀ x, ∀ v ∈ enc x, v.oneCell' = true) (cf : α → α → Int) (hirr : ∀ x, R x → ¬ cf x x < 0) (htr : ∀ x y z, R x → R y → R z → cf x y < 0 → cf y z < 0 → cf x z < 0) (hnt : ∀ x y z, R x → R y → R z → ¬ cf x y < 0 → ¬ cf y z < 0 → ¬ cf x z < 0)
    (f : Nat) (eg : ∀ args w, (callFunc f args).run P w = .ok (.enter f args) w)
    (hcmp : ∀ x y w, R x → R y → Calls P f #[.agg (enc x).toArray, .agg (enc y).toArray] w (After fun v w' => v = i64 (cf x y) ∧ ∃ q os, w' = grow (w.drewN q) os))
    {v : Value} {e : TypeId} {xs : List α} (hR : ∀ x ∈ xs, R x) (hlen : xs.length < 4611686018427387904) {w0 w : World} {L : List Asn} (H : St w0 w (Tab v e k enc xs :: L)) :
    Calls P (ρ.f 6) #[v, .func (.func f) #[] #[]] w (After fun r w' => r = .tuple #[] ∧ ∃ ys : List α, ys.Perm xs ∧ ys.Pairwise (fun a b => ¬ cf b a < 0) ∧ St w0 w' (Tab v e k enc ys :: L)) := by
  rcases Nat.eq_zero_or_pos xs.length with h0 | h0
  · obtain rfl : xs = [] := List.length_eq_zero_iff.1 h0
    obtain ⟨ad, cap, rfl, _⟩ := H.tabVal
    refine (AnyF.slices_SortFunc_none Ly ad cap _ _).mono ?_
    rintro e w ⟨rfl, rfl⟩
    exact ⟨rfl, [], .refl _, .nil, H⟩
  · obtain ⟨g, cap, rfl, hle, hmax⟩ := H.tabPos' 0 rfl h0
    have hne : ∃ x, R x := ⟨xs[0], hR _ (List.getElem_mem h0)⟩
    let β := { x : α // R x }
    haveI : Inhabited β := ⟨⟨hne.choose, hne.choose_spec⟩⟩
    let d : List β := xs.pmap (fun x h => ⟨x, h⟩) hR
    have hd : d.map Subtype.val = xs := by simp only [d, List.map_pmap]; simp
    have hdl : d.length = xs.length := by rw [← hd]; simp
    let encB : β → List Value := fun x => enc x.1
    have hfl : ∀ l : List β, l.flatMap encB = (l.map Subtype.val).flatMap enc := fun l => by
      rw [List.flatMap_map]
    let cfB : β → β → Int := fun x y => cf x.1 y.1
    have hO : SWO (ltOf cfB) := ⟨fun x => decide_eq_false (hirr x.1 x.2), fun x y z a b => decide_eq_true (htr _ _ _ x.2 y.2 z.2 (of_decide_eq_true a) (of_decide_eq_true b)),
      fun x y z a b => decide_eq_false (hnt _ _ _ x.2 y.2 z.2 (of_decide_eq_false a) (of_decide_eq_false b))⟩
    obtain ⟨_, _, cur, hcs, htk, H', back⟩ := H.tabBlk
    have hcmpB : CmpLays P f #[] encB k cfB g 0 d.toArray.size w := fun m os dk _ x y => (hcmp x.1 y.1 _ x.2 y.2).mono fun e w' he => by
      cases e with
      | returned v => obtain ⟨rfl, q, os', hw⟩ := he; exact ⟨rfl, q, os', hw⟩
      | _ => exact he.elim
    have hsz : d.toArray.size = xs.length := by simp [hdl]
    have hcon := AnyQ.slices_SortFunc Ly k aE zE encB (fun x => hk x.1) (fun x => h1 x.1) cfB hO f #[] g 0 cap d.toArray w eg hcmpB
      (holdsK_of (enc := encB) (k := k) (fun x => hk x.1) d.toArray H' (by rw [hsz, htk, hfl, hd])) H'.lt (by rw [hsz]; exact hlen)
    rw [hsz] at hcon
    refine hcon.mono ?_
    rintro e w' ⟨rfl, d', n, os, ⟨hps, _, hpp⟩, hso, rfl⟩
    rw [hsz] at hps
    have hp2 : d'.toList.Perm d := by
      have e1 : d'.extract 0 xs.length = d' := by rw [← hps]; exact Array.extract_size
      have e2 : d.toArray.extract 0 xs.length = d.toArray := by rw [← hsz]; exact Array.extract_size
      rw [e1, e2] at hpp
      simpa using hpp
    have hyl : (d'.toList.map Subtype.val).length = xs.length := by simp [hps]
    refine ⟨rfl, d'.toList.map Subtype.val, by rw [← hd]; exact hp2.map _, ?_, ?_⟩
    · rw [List.pairwise_map, List.pairwise_iff_getElem]
      intro i j hi hj hij
      have := hso i j (Nat.zero_le _) hij (by simp at hj; omega)
      simp at hi hj
      rw [getElem!_pos d' i hi, getElem!_pos d' j hj] at this
      simpa using of_decide_eq_false this
    · have h3 := St_sorted (enc := encB) (k := k) H' n d' os
      have hfs : (flatK encB k d').size = xs.length * k := by rw [size_flatK, hps]
      have hcap : xs.length * k ≤ cap * k := Nat.mul_le_mul_right k hle
      refine back (d'.toList.map Subtype.val) _ _ (by simp [putCells, hcs]) hyl ?_ (by rw [flat_len enc hk, hyl]) _ h3
      rw [← hfs, put_take (by rw [hfs, hcs]; exact hcap), flatK_eq (enc := encB) (fun x => hk x.1)]
      simp [hfl]
end Go.Nep
