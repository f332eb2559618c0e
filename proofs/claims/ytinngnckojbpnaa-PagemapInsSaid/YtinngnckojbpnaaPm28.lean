import Derived.Test.YtinngnckojbpnaaPm26
/-! pagemap: In. -/
namespace Go.Proofs.Ytinngnckojbpnaa
open Go.Nep Go.Sort Go.Shelf Go.Proofs
set_option maxRecDepth 100000
set_option linter.unusedVariables false
set_option linter.unusedSimpArgs false
set_option maxHeartbeats 1600000

/-- a block's live places, so far: each once, and each of a cell -/
structure Seen (P : Option Spot → Prop) (block : Int) (out : List Spot) : Prop where
  nodup : (out.map (·.place)).Nodup
  mem : ∀ q, q ∈ out.map (·.place) ↔ q.b = block ∧ ∃ s, P (some s) ∧ s.place = q
  cell : ∀ s ∈ out, P (some s)
theorem Seen.old {P P' : Option Spot → Prop} {block : Int} {out : List Spot} (h : Seen P block out) {c : Option Spot} (hP : ∀ x, P' x ↔ P x ∨ x = c) (hc : ∀ s, c = some s → s.place.b = block → s.place ∈ out.map (·.place)) : Seen P' block out := by
  refine ⟨h.nodup, fun q => ?_, fun s hs => (hP _).2 (.inl (h.cell s hs))⟩
  constructor
  · intro hq
    obtain ⟨h1, s, h2, h3⟩ := (h.mem q).1 hq
    exact ⟨h1, s, (hP _).2 (.inl h2), h3⟩
  · rintro ⟨h1, s, h2, h3⟩
    rcases (hP _).1 h2 with h4 | h4
    · exact (h.mem q).2 ⟨h1, s, h4, h3⟩
    · have := hc s h4.symm (by rw [h3]; exact h1)
      rw [h3] at this
      exact this
theorem Seen.add {P P' : Option Spot → Prop} {block : Int} {out : List Spot} (h : Seen P block out) {s : Spot} (hP : ∀ x, P' x ↔ P x ∨ x = some s) (hb : s.place.b = block) (hn : s.place ∉ out.map (·.place)) : Seen P' block (out ++ [s]) := by
  refine ⟨?_, fun q => ?_, fun t ht => ?_⟩
  · rw [List.map_append]
    refine List.nodup_append.2 ⟨h.nodup, by simp, fun x hx y hy e => ?_⟩
    simp at hy
    subst hy; subst e
    exact hn hx
  · rw [List.map_append, List.mem_append, h.mem]
    simp only [List.map_cons, List.map_nil, List.mem_singleton]
    constructor
    · rintro (⟨h1, t, h2, h3⟩ | rfl)
      · exact ⟨h1, t, (hP _).2 (.inl h2), h3⟩
      · exact ⟨hb, s, (hP _).2 (.inr rfl), rfl⟩
    · rintro ⟨h1, t, h2, h3⟩
      rcases (hP _).1 h2 with h4 | h4
      · exact .inl ⟨h1, t, h4, h3⟩
      · cases h4; exact .inr h3.symm
  · rcases List.mem_append.1 ht with h1 | h1
    · exact (hP _).2 (.inl (h.cell t h1))
    · rw [List.mem_singleton.1 h1]; exact (hP _).2 (.inr rfl)

/-- the cells gone over: of the first namespaces all, of the next one so many -/
def Over (f : Nat → List (Option Spot)) (k i : Nat) (x : Option Spot) : Prop := (∃ j, j < k ∧ x ∈ f j) ∨ ∃ j, j < i ∧ (f k)[j]? = some x
theorem over_step {f : Nat → List (Option Spot)} {k i : Nat} {c : Option Spot} (h : (f k)[i]? = some c) (x : Option Spot) : Over f k (i + 1) x ↔ Over f k i x ∨ x = c := by
  unfold Over
  constructor
  · rintro (h1 | ⟨j, h1, h2⟩)
    · exact .inl (.inl h1)
    · rcases Nat.lt_or_ge j i with h3 | h3
      · exact .inl (.inr ⟨j, h3, h2⟩)
      · obtain rfl : j = i := by omega
        rw [h] at h2; cases h2; exact .inr rfl
  · rintro ((h1 | ⟨j, h1, h2⟩) | rfl)
    · exact .inl h1
    · exact .inr ⟨j, by omega, h2⟩
    · exact .inr ⟨i, by omega, h⟩
theorem over_next (f : Nat → List (Option Spot)) (k : Nat) : Over f k (f k).length = Over f (k + 1) 0 := by
  funext x
  apply propext
  unfold Over
  constructor
  · rintro (⟨j, h1, h2⟩ | ⟨j, h1, h2⟩)
    · exact .inl ⟨j, by omega, h2⟩
    · exact .inl ⟨k, by omega, List.mem_of_getElem? h2⟩
  · rintro (⟨j, h1, h2⟩ | ⟨j, h1, h2⟩)
    · by_cases e : j = k
      · subst e
        obtain ⟨i, hi⟩ := List.mem_iff_getElem?.1 h2
        exact .inr ⟨i, (List.getElem?_eq_some_iff.1 hi).1, hi⟩
      · exact .inl ⟨j, by omega, h2⟩
    · omega
theorem over_zero (f : Nat → List (Option Spot)) (x : Option Spot) : ¬ Over f 0 0 x := by
  unfold Over
  rintro (⟨j, h, _⟩ | ⟨j, h, _⟩) <;> omega

/-- the indicator of what was seen -/
def seenF (out : List Spot) (q : Pl) : Int := if q ∈ out.map (·.place) then 1 else 0
theorem isAggSp (w : World) : (isAgg 29).run Try.prog w = .ok true w := tyB_agg T.ty29 w
theorem sizeSp (w : World) : (Go.sizeOf 29).run Try.prog w = .ok 14 w := tyB_size T.ty29 w
theorem spEnc_one (x : Spot) : ∀ v ∈ x.enc, v.oneCell' = true := by
  intro v hv
  simp [Spot.enc] at hv
  rcases hv with rfl | rfl | rfl | rfl | rfl | rfl | rfl | rfl | rfl | rfl | rfl | rfl | rfl | rfl <;> rfl
theorem eg_In1 : ∀ args w, (callFunc 41 args).run Try.prog w = .ok (.enter 41 args) w := enters_of Try.func41 (by kernel_rfl) rfl

theorem In_spec (m : PMx) (block : Int) (hlen : ∀ k, k < 4 → (m.l k).length ≤ 65535) (hrng : ∀ q, cnt m.l q ≠ 0 → Rng q) {w0 w : World} {L : List Asn} (H : St w0 w (m.at_ ++ L)) :
    Calls Try.prog 21 #[pt m.p 0, i64 block] w (After fun u w' => ∃ ys : List Spot, Asc (ys.map (·.place)) ∧ Seen (Over m.l 4 0) block ys ∧ St w0 w' (m.at_ ++ Tab u 29 14 Spot.enc ys :: L)) := by
  refine calls_of_W (N := 58) (args := [pt m.p 0, i64 block]) Try.func21 rfl Try.ntmps21 (by simp) ?_
  refine W_seq_k fun K1 hK1 => ?_
  refine W_reg rfl ?_
  refine RL_some ?_; (refine X_assign rfl ?_)
  refine hK1 _ _ (W_keep (Keep.cons 0 rfl (Keep.cons 1 rfl Keep.nil)) ?_)
  refine W_seq_k fun K2 hK2 => ?_
  refine W_reg rfl ?_
  refine RL_some ?_; (refine X_assign rfl ?_)
  refine hK2 _ _ (W_keep (Keep.cons 0 rfl (Keep.cons 1 rfl (Keep.cons 5 rfl Keep.nil))) ?_)
  refine W_seq_k fun K3 hK3 => ?_
  refine W_reg rfl ?_
  refine RL_some ?_; (refine S_makeMap H pk ?_; intro r w H)
  refine RL_some ?_; (refine X_assign rfl ?_)
  refine hK3 _ _ (W_keep (Keep.cons 0 rfl (Keep.cons 1 rfl (Keep.cons 5 rfl (Keep.cons 6 rfl Keep.nil)))) ?_)
  replace H : St w0 w (m.at_ ++ Tab nilS 29 14 Spot.enc ([] : List Spot) :: Gm pk r [] 0 :: L) := (H.perm (List.perm_middle (l₁ := m.at_)).symm |> fun H => (St.tabNil H).perm (List.perm_middle (l₁ := m.at_)).symm)
  refine W_seq_k fun K4 hK4 => ?_
  refine W_seq_k fun K5 hK5 => ?_
  refine W_reg rfl ?_
  refine RL_some ?_; (refine X_move rfl ?_)
  refine hK5 _ _ (W_keep (Keep.cons 0 rfl (Keep.cons 1 rfl (Keep.cons 5 rfl (Keep.cons 6 rfl (Keep.cons 11 rfl Keep.nil))))) ?_)
  refine W_block ?_
  refine W_loop (fun left pf w => ∃ (k : Nat) (out : List Spot) (E : Ents Pl) (clock : Nat) (v : Value), k + left = 4 ∧ Seen (Over m.l k 0) block out ∧ out.length ≤ 65535 * k ∧ REF E clock (seenF out) ∧ Keep pf [(0, pt m.p 0), (1, i64 block), (5, v), (6, .map (some r)), (11, i64 k)] ∧ St w0 w (m.at_ ++ Tab v 29 14 Spot.enc out :: Gm pk r E clock :: L)) (4) ?_ ?_
  · skip
    refine ⟨0, [], [], 0, nilS, by omega, ⟨by simp, fun q => ⟨by simp, fun ⟨_, s, h, _⟩ => absurd h (over_zero _ _)⟩, by simp⟩, by simp, ?_, (Keep.cons 0 rfl (Keep.cons 1 rfl (Keep.cons 5 rfl (Keep.cons 6 rfl (Keep.cons 11 rfl Keep.nil))))), H⟩
    have : seenF [] = fun _ => 0 := by funext q; simp [seenF]
    rw [this]
    exact REF.nil
  clear H
  rintro left pf w ⟨k, out, E, clock, v, hk, hS, hol, hR, hpf, H⟩
  refine W_keep hpf ?_
  clear hpf
  refine W_seq_k fun K6 hK6 => ?_
  refine W_reg rfl ?_
  refine RL_some ?_; (first | refine X_cmp_t rfl rfl rfl (by first | assumption | omega) ?_ | refine X_cmp_f rfl rfl rfl (by first | assumption | omega) ?_ | refine X_bin rfl rfl rfl ?_)
  refine hK6 _ _ (W_keep (Keep.cons 0 rfl (Keep.cons 1 rfl (Keep.cons 5 rfl (Keep.cons 6 rfl (Keep.cons 11 rfl (Keep.cons 12 rfl Keep.nil)))))) ?_)
  refine W_seq_k fun K7 hK7 => ?_
  refine W_if rfl (fun c => ?_) (fun c => ?_)
  · skip
    refine W_skip ?_
    refine hK7 _ _ (W_keep (Keep.cons 0 rfl (Keep.cons 1 rfl (Keep.cons 5 rfl (Keep.cons 6 rfl (Keep.cons 11 rfl (Keep.cons 12 rfl Keep.nil)))))) ?_)
    refine W_seq_k fun K8 hK8 => ?_
    refine W_block ?_
    refine W_seq_k fun K9 hK9 => ?_
    have c := of_decide_eq_true c
    have hk4 : k < 4 := by omega
    obtain ⟨ad, had⟩ := own_val H (k : Int)
    have hco : cellsOf m (k : Int) = m.l k := by unfold cellsOf; rw [if_pos (by omega), Int.toNat_natCast]
    have hlk := hlen k hk4
    rw [hco] at had
    refine W_reg rfl ?_
    refine RL_some ?_; (refine X_move rfl ?_)
    refine RL_some ?_; (refine X_assign rfl ?_)
    refine hK9 _ _ (W_keep (Keep.cons 0 rfl (Keep.cons 1 rfl (Keep.cons 5 rfl (Keep.cons 6 rfl (Keep.cons 7 rfl (Keep.cons 11 rfl Keep.nil)))))) ?_)
    refine W_seq_k fun K10 hK10 => ?_
    refine W_reg rfl ?_
    refine RL_some ?_; (refine X_move rfl ?_)
    refine RL_some ?_; (refine X_move rfl ?_)
    refine RL_some ?_; (refine X_call T.ent31 rfl (calls_to (own_spec m (k : Int) H) ?_); rintro v w ⟨rfl, rfl⟩; rw [had])
    refine RL_some ?_; (refine X_len T.sl70 rfl ?_)
    refine RL_some ?_; (refine X_move rfl ?_)
    refine hK10 _ _ (W_keep (Keep.cons 0 rfl (Keep.cons 1 rfl (Keep.cons 5 rfl (Keep.cons 6 rfl (Keep.cons 11 rfl (Keep.cons 16 rfl (Keep.cons 17 rfl (Keep.cons 18 rfl Keep.nil)))))))) ?_)
    refine W_block ?_
    refine W_loop (fun left2 pf w => ∃ (i : Nat) (out : List Spot) (E : Ents Pl) (clock : Nat) (v : Value), i + left2 = (m.l k).length ∧ Seen (Over m.l k i) block out ∧ out.length ≤ 65535 * k + i ∧ REF E clock (seenF out) ∧ Keep pf [(0, pt m.p 0), (1, i64 block), (5, v), (6, .map (some r)), (11, i64 k), (16, .slice ad (m.l k).length (m.l k).length), (17, i64 (m.l k).length), (18, i64 i)] ∧ St w0 w (m.at_ ++ Tab v 29 14 Spot.enc out :: Gm pk r E clock :: L)) ((m.l k).length) ?_ ?_
    · skip
      exact ⟨0, out, E, clock, v, by omega, hS, by omega, hR, (Keep.cons 0 rfl (Keep.cons 1 rfl (Keep.cons 5 rfl (Keep.cons 6 rfl (Keep.cons 11 rfl (Keep.cons 16 rfl (Keep.cons 17 rfl (Keep.cons 18 rfl Keep.nil)))))))), H⟩
    clear H hR hS hol
    rintro left2 pf w ⟨i, out, E, clock, v, hi, hS, hol, hR, hpf, H⟩
    refine W_keep hpf ?_
    clear hpf
    refine W_seq_k fun K11 hK11 => ?_
    refine W_reg rfl ?_
    refine RL_some ?_; (first | refine X_cmp_t rfl rfl rfl (by first | assumption | omega) ?_ | refine X_cmp_f rfl rfl rfl (by first | assumption | omega) ?_ | refine X_bin rfl rfl rfl ?_)
    refine hK11 _ _ (W_keep (Keep.cons 0 rfl (Keep.cons 1 rfl (Keep.cons 5 rfl (Keep.cons 6 rfl (Keep.cons 11 rfl (Keep.cons 16 rfl (Keep.cons 17 rfl (Keep.cons 18 rfl (Keep.cons 19 rfl Keep.nil))))))))) ?_)
    refine W_seq_k fun K12 hK12 => ?_
    refine W_if rfl (fun c2 => ?_) (fun c2 => ?_)
    · skip
      refine W_skip ?_
      refine hK12 _ _ (W_keep (Keep.cons 0 rfl (Keep.cons 1 rfl (Keep.cons 5 rfl (Keep.cons 6 rfl (Keep.cons 11 rfl (Keep.cons 16 rfl (Keep.cons 17 rfl (Keep.cons 18 rfl (Keep.cons 19 rfl Keep.nil))))))))) ?_)
      refine W_seq_k fun K13 hK13 => ?_
      refine W_block ?_
      refine W_seq_k fun K14 hK14 => ?_
      have c2 := of_decide_eq_true c2
      obtain ⟨x, hx⟩ : ∃ x, (m.l k)[i]? = some x := ⟨_, List.getElem?_eq_getElem (by omega)⟩
      obtain ⟨_, _, hx2, _, b', hov, hb', hrow⟩ := own_row (ns := (k : Int)) H (by rw [hco]; exact hx)
      rw [hco, had] at hov
      simp only [Value.slice.injEq] at hov
      obtain ⟨rfl, _⟩ := hov
      have hPst := over_step (f := m.l) hx
      refine W_reg rfl ?_
      refine RL_some ?_; (refine X_idx T.sl70 rfl rfl (by omega) (by omega) ?_)
      refine RL_some ?_; (refine S_load H (2 + (k : Int).toNat) T.ty76 rfl hrow (l := encC x) (row_seg hx2).1 (row_seg hx2).2 ?_)
      refine RL_some ?_; (refine S_alloc H T.ze76 ?_; intro b9 w H)
      refine RL_none ?_; (refine S_store H 0 T.ty76 rfl rfl rfl (encC_len x) (Nat.le_of_ble_eq_true rfl) (encC_one x) (c' := (encC x).toArray) (by cases x <;> rfl) ?_; intro w H)
      refine hK14 _ _ (W_keep (Keep.cons 0 rfl (Keep.cons 1 rfl (Keep.cons 5 rfl (Keep.cons 6 rfl (Keep.cons 9 rfl (Keep.cons 11 rfl (Keep.cons 16 rfl (Keep.cons 17 rfl (Keep.cons 18 rfl Keep.nil))))))))) ?_)
      refine W_seq_k fun K15 hK15 => ?_
      have hcs : x = none ∨ (∃ s, x = some s ∧ ¬ s.place.b = block) ∨ (∃ s, x = some s ∧ s.place.b = block ∧ s.place ∈ out.map (·.place)) ∨ (∃ s, x = some s ∧ s.place.b = block ∧ s.place ∉ out.map (·.place)) := by
        rcases x with _ | s
        · exact .inl rfl
        · by_cases e : s.place.b = block
          · by_cases e2 : s.place ∈ out.map (·.place)
            · exact .inr (.inr (.inl ⟨s, rfl, e, e2⟩))
            · exact .inr (.inr (.inr ⟨s, rfl, e, e2⟩))
          · exact .inr (.inl ⟨s, rfl, e⟩)
      refine W_boolR 39 (∃ s, x = some s ∧ s.place.b = block ∧ s.place ∉ out.map (·.place)) [0, 1, 5, 6, 9, 11, 16, 17, 18] H ?_ ?_
      · rcases hcs with rfl | ⟨s, rfl, e⟩ | ⟨s, rfl, e, e2⟩ | ⟨s, rfl, e, e2⟩
        all_goals
          refine W_reg rfl ?_
          refine RL_some ?_; (refine X_fieldAddr T.fd76_0 rfl ?_)
          refine RL_some ?_; ((first | refine S_load1 H 0 T.ty4 rfl rfl rfl ?_ | refine S_load1 H 1 T.ty4 rfl rfl rfl ?_ | refine S_load1 H 2 T.ty4 rfl rfl rfl ?_ | refine S_load1 H 3 T.ty4 rfl rfl rfl ?_ | refine S_load1 H 4 T.ty4 rfl rfl rfl ?_ | refine S_load1 H 5 T.ty4 rfl rfl rfl ?_ | refine S_load1 H 6 T.ty4 rfl rfl rfl ?_ | refine S_load1 H 7 T.ty4 rfl rfl rfl ?_ | refine S_load1 H 8 T.ty4 rfl rfl rfl ?_ | refine S_load1 H 9 T.ty4 rfl rfl rfl ?_))
          refine RL_some ?_; (refine X_move rfl ?_)
          (first | refine RL_off rfl rfl ?_ | refine RL_off' rfl rfl ?_ | (refine RL_on rfl rfl ?_; (refine X_fieldAddr T.fd76_1 rfl ?_)))
          (first | refine RL_off rfl rfl ?_ | refine RL_off' rfl rfl ?_ | (refine RL_on rfl rfl ?_; (refine X_fieldAddr T.fd29_0 rfl ?_)))
          (first | refine RL_off rfl rfl ?_ | refine RL_off' rfl rfl ?_ | (refine RL_on rfl rfl ?_; (refine X_fieldAddr T.fd23_0 rfl ?_)))
          (first | refine RL_off rfl rfl ?_ | refine RL_off' rfl rfl ?_ | (refine RL_on rfl rfl ?_; (refine S_load1 H 0 T.ty3 rfl rfl (v := i64 s.place.b) rfl ?_)))
          (first | refine RL_off rfl rfl ?_ | refine RL_off' rfl rfl ?_ | (refine RL_on rfl rfl ?_; (refine X_move rfl ?_)))
          (first | refine RL_off rfl rfl ?_ | refine RL_off' rfl rfl ?_ | (refine RL_on rfl rfl ?_; (first | refine X_cmp_t rfl rfl rfl (by first | assumption | omega) ?_ | refine X_cmp_f rfl rfl rfl (by first | assumption | omega) ?_ | refine X_bin rfl rfl rfl ?_)))
          refine RL_some ?_; (refine X_pick rfl rfl ?_)
          refine RL_some ?_; (refine X_move rfl ?_)
          (first | refine RL_off rfl rfl ?_ | refine RL_off' rfl rfl ?_ | (refine RL_on rfl rfl ?_; (refine X_move rfl ?_)))
          (first | refine RL_off rfl rfl ?_ | refine RL_off' rfl rfl ?_ | (refine RL_on rfl rfl ?_; (refine X_fieldAddr T.fd76_1 rfl ?_)))
          (first | refine RL_off rfl rfl ?_ | refine RL_off' rfl rfl ?_ | (refine RL_on rfl rfl ?_; (refine X_fieldAddr T.fd29_0 rfl ?_)))
          (first | refine RL_off rfl rfl ?_ | refine RL_off' rfl rfl ?_ | (refine RL_on rfl rfl ?_; (refine S_load H 0 T.ty23 rfl rfl (l := s.place.enc) rfl (Nat.le_of_ble_eq_true rfl) ?_)))
          (first | refine RL_off rfl rfl ?_ | refine RL_off' rfl rfl ?_ | (refine RL_on rfl rfl ?_; (refine S_lookup (a := s.place) H 8 pl_law T.mp69 T.ze3 rfl rfl rfl ?_; rw [hR.val, seenF]; first | rw [if_pos e2] | rw [if_neg e2])))
          (first | refine RL_off rfl rfl ?_ | refine RL_off' rfl rfl ?_ | (refine RL_on rfl rfl ?_; (first | refine X_cmp_t rfl rfl rfl (by first | assumption | omega) ?_ | refine X_cmp_f rfl rfl rfl (by first | assumption | omega) ?_ | refine X_bin rfl rfl rfl ?_)))
          refine RL_some ?_; (refine X_pick rfl rfl ?_)
          exact ⟨_, by first | (simp; done) | (simp [e]; done) | (constructor <;> intro h <;> first | exact Bool.noConfusion h | (obtain ⟨t, h1, _, h3⟩ := h; cases h1; first | exact absurd e2 h3 | rfl) | exact ⟨s, rfl, e, e2⟩), rfl, ⟨rfl, rfl, rfl, rfl, rfl, rfl, rfl, rfl, rfl, trivial⟩, H⟩
      intro q w hq H
      skip
      refine hK15 _ _ (W_keep (Keep.cons 0 rfl (Keep.cons 1 rfl (Keep.cons 5 rfl (Keep.cons 6 rfl (Keep.cons 9 rfl (Keep.cons 11 rfl (Keep.cons 16 rfl (Keep.cons 17 rfl (Keep.cons 18 rfl (Keep.cons 39 rfl Keep.nil)))))))))) ?_)
      refine W_if rfl (fun d => ?_) (fun d => ?_)
      · skip
        refine W_seq_k fun K16 hK16 => ?_
        obtain ⟨s, rfl, e, e2⟩ := hq.1 d
        have h0 : seenF out s.place = 0 := by unfold seenF; rw [if_neg e2]
        have hp := hR.push h0 (v := 1) (by decide)
        have hv0 : valE E s.place = 0 := by rw [hR.val, h0]
        have e1 : E ++ [(s.place, (1 : Int), clock)] = List.modify (E ++ [(s.place, (0 : Int), clock)]) E.length fun x => (x.1, valE E s.place + 1, x.2.2) := by rw [push_modify, hv0]; rfl
        refine W_draw (.p 0 (.p 1 (.p 2 (.p 3 (.p 4 (.p 5 (.e 6 [4, 5] (.p 7 (.e 8 [] .nil .none)) .none))))))) T.mixed rfl ?_
        replace H := H.drew
        apply DD_pure rfl rfl; next => (intro _; refine X_move rfl ⟨rfl, rfl⟩)
        apply DD_pure rfl rfl; next => (intro _; refine X_fieldAddr T.fd76_1 rfl ⟨rfl, rfl⟩)
        apply DD_pure rfl rfl; next => (intro _; refine X_fieldAddr T.fd29_0 rfl ⟨rfl, rfl⟩)
        apply DD_read rfl rfl; next => (refine S_load H 0 T.ty23 rfl rfl (l := s.place.enc) rfl (Nat.le_of_ble_eq_true rfl) ⟨rfl, rfl⟩)
        apply DD_read rfl rfl; next => (refine S_lookup (a := s.place) H 8 pl_law T.mp69 T.ze3 rfl rfl rfl ⟨rfl, rfl⟩)
        apply DD_pure rfl rfl; next => (intro _; refine X_int (e := valE E s.place + 1) rfl rfl rfl ⟨by omega, by omega⟩ ⟨rfl, rfl⟩)
        refine DD_eff rfl rfl ?_; (refine S_entry (a := s.place) H 8 pl_law T.mp69 T.ze3 rfl rfl rfl (fun j hj hidx _ => absurd (hR.idx_none.2 h0) (by have h2 : idxE E s.place = some j := hidx; rw [h2]; simp)) ?_; intro hidx w H)
        refine ⟨?_, ?_⟩; next => (repeat (first | exact rc_nil | refine rc_skip rfl ?_ | refine rc_true ?_ | (refine rc_read ?_ ?_; next => (refine S_lookup (a := s.place) H 8 pl_law T.mp69 T.ze3 rfl rfl rfl ?_; exact ⟨by rw [val_push0 hidx], rfl⟩))))
        apply DD_pure rfl rfl; next => (intro _; refine X_extract rfl rfl ⟨rfl, rfl⟩)
        refine DD_eff rfl rfl ?_; (refine S_entryStore H 8 rfl rfl rfl rfl (push_stamp hR s.place) ?_; intro w H)
        refine ⟨by repeat (first | exact rc_nil | refine rc_skip rfl ?_ | refine rc_true ?_), ?_⟩
        refine hK16 _ _ (W_keep (Keep.cons 0 rfl (Keep.cons 1 rfl (Keep.cons 5 rfl (Keep.cons 6 rfl (Keep.cons 9 rfl (Keep.cons 11 rfl (Keep.cons 16 rfl (Keep.cons 17 rfl (Keep.cons 18 rfl Keep.nil))))))))) ?_)
        replace H : St w0 w (Cs b9 (encC (some s)).toArray 76 :: (m.at_ ++ Tab v 29 14 Spot.enc out :: Gm pk r (E ++ [(s.place, 1, clock)]) (clock + 1) :: L)) := by rw [e1]; exact H
        replace H := (H.foc 7 rfl)
        refine W_reg rfl ?_
        refine RL_some ?_; (refine X_move rfl ?_)
        refine RL_some ?_; (refine X_fieldAddr T.fd76_1 rfl ?_)
        refine RL_some ?_; (refine S_load H 1 T.ty29 rfl rfl (l := s.enc) rfl (Nat.le_of_ble_eq_true rfl) ?_)
        refine RL_some ?_; (refine S_lit1T (enc := Spot.enc) (a := s) H T.sl35 T.ze29 rfl rfl rfl rfl (by decide) (by decide) ?_; intro bl w H)
        refine RL_some ?_; (refine S_appendTT H 1 0 T.sl35 T.ze29 rfl (by decide) rfl rfl rfl rfl (spots_one _) (by simp; omega) (by simp; omega) ?_; intro vn w H)
        refine RL_some ?_; (refine X_assign rfl ?_)
        refine hK13 _ _ (W_keep (Keep.cons 0 rfl (Keep.cons 1 rfl (Keep.cons 5 rfl (Keep.cons 6 rfl (Keep.cons 11 rfl (Keep.cons 16 rfl (Keep.cons 17 rfl (Keep.cons 18 rfl Keep.nil)))))))) ?_)
        refine W_reg rfl ?_
        refine RL_some ?_; (first | refine X_int rfl rfl rfl (by omega) ?_ | refine X_bin rfl rfl rfl ?_)
        refine RL_some ?_; (refine X_move rfl ?_)
        refine ⟨left2 - 1, by omega, i + 1, out ++ [s], E ++ [(s.place, 1, clock)], clock + 1, vn, by omega, hS.add hPst e e2, by simp; omega, ?_, (Keep.cons 0 rfl (Keep.cons 1 rfl (Keep.cons 5 rfl (Keep.cons 6 rfl (Keep.cons 11 rfl (Keep.cons 16 rfl (Keep.cons 17 rfl (Keep.cons 18 rfl Keep.nil)))))))), ?_⟩
        · refine cast (congrArg (REF _ _) ?_) hp
          funext q
          unfold seenF
          simp only [List.map_append, List.mem_append, List.map_cons, List.map_nil, List.mem_singleton]
          by_cases e3 : q = s.place
          · simp [e3]
          · simp [e3]
        · exact (H.dropAt 1).dropAt 1 |>.perm (List.perm_middle (l₁ := m.at_)).symm
      refine W_skip ?_
      refine hK13 _ _ (W_keep (Keep.cons 0 rfl (Keep.cons 1 rfl (Keep.cons 5 rfl (Keep.cons 6 rfl (Keep.cons 9 rfl (Keep.cons 11 rfl (Keep.cons 16 rfl (Keep.cons 17 rfl (Keep.cons 18 rfl (Keep.cons 39 rfl Keep.nil)))))))))) ?_)
      refine W_reg rfl ?_
      refine RL_some ?_; (first | refine X_int rfl rfl rfl (by omega) ?_ | refine X_bin rfl rfl rfl ?_)
      refine RL_some ?_; (refine X_move rfl ?_)
      refine ⟨left2 - 1, by omega, i + 1, out, E, clock, v, by omega, hS.old hPst (fun s hs hb => ?_), by omega, hR, (Keep.cons 0 rfl (Keep.cons 1 rfl (Keep.cons 5 rfl (Keep.cons 6 rfl (Keep.cons 11 rfl (Keep.cons 16 rfl (Keep.cons 17 rfl (Keep.cons 18 rfl Keep.nil)))))))), H.drop⟩
      exact Classical.byContradiction fun h => by rw [hq.2 ⟨s, hs, hb, h⟩] at d; cases d
    refine W_exit ?_
    refine hK8 _ _ (W_keep (Keep.cons 0 rfl (Keep.cons 1 rfl (Keep.cons 5 rfl (Keep.cons 6 rfl (Keep.cons 11 rfl (Keep.cons 16 rfl (Keep.cons 17 rfl (Keep.cons 18 rfl (Keep.cons 19 rfl Keep.nil))))))))) ?_)
    have c2 := of_decide_eq_false c2
    obtain rfl : i = (m.l k).length := by omega
    rw [over_next] at hS
    refine W_reg rfl ?_
    refine RL_some ?_; (first | refine X_int rfl rfl rfl (by omega) ?_ | refine X_bin rfl rfl rfl ?_)
    refine RL_some ?_; (refine X_move rfl ?_)
    exact ⟨left - 1, by omega, k + 1, out, E, clock, v, by omega, hS, by omega, hR, (Keep.cons 0 rfl (Keep.cons 1 rfl (Keep.cons 5 rfl (Keep.cons 6 rfl (Keep.cons 11 rfl Keep.nil))))), H⟩
  refine W_exit ?_
  refine hK4 _ _ (W_keep (Keep.cons 0 rfl (Keep.cons 1 rfl (Keep.cons 5 rfl (Keep.cons 6 rfl (Keep.cons 11 rfl (Keep.cons 12 rfl Keep.nil)))))) ?_)
  refine W_seq_k fun K17 hK17 => ?_
  have c := of_decide_eq_false c
  obtain rfl : k = 4 := by omega
  have hcell : ∀ s ∈ out, Rng s.place := by
    intro s hs
    have h1 := hS.cell s hs
    refine hrng _ ?_
    rcases h1 with ⟨j, hj, hm⟩ | ⟨j, hj, _⟩
    · obtain ⟨i, hi⟩ := List.mem_iff_getElem?.1 hm
      have h2 := cntL_get _ _ hi
      have h3 := cntL_cnt m.l j hj s.place
      omega
    · omega
  have hcon := sort_tab Try.sortSp (fun s : Spot => Rng s.place) Spot.enc 14 (by decide) isAggSp sizeSp spot_len spEnc_one (fun x y => cmpW x.place y.place) (fun x h => by show ¬ cmpW x.place x.place < 0; rw [cmpW_lt h h, ahead_irr]; simp)
    (fun x y z hx hy hz a b => by rw [cmpW_lt hx hy] at a; rw [cmpW_lt hy hz] at b; rw [cmpW_lt hx hz]; exact ahead_tr a b)
    (fun x y z hx hy hz a b => by rw [cmpW_lt hx hy] at a; rw [cmpW_lt hy hz] at b; rw [cmpW_lt hx hz]; exact ahead_nt a b)
    41 eg_In1 (fun x y w _ _ => In1_exact x y w) hcell (by omega) (H.perm (List.perm_middle (l₁ := m.at_)))
  refine W_reg rfl ?_
  refine RL_some ?_; (refine X_move rfl ?_)
  refine RL_some ?_; (refine X_call T.ent40 rfl (calls_to hcon ?_); rintro r w ⟨rfl, ys, hp, hs, H⟩)
  refine hK17 _ _ (W_keep (Keep.cons 5 rfl Keep.nil) ?_)
  refine W_seq_k fun K18 hK18 => ?_
  refine W_reg rfl ?_
  refine RL_some ?_; (refine X_move rfl ?_)
  refine RL_some ?_; (refine X_assign rfl ?_)
  refine hK18 _ _ (W_keep (Keep.cons 4 rfl Keep.nil) ?_)
  refine W_ret ?_
  (try simp only [thenQ, blockQ, noGotoQ])
  refine body_tmp (.inr rfl) rfl rfl ?_
  refine ⟨ys, asc_of (by rw [List.pairwise_map]; exact hs) (fun q hq => ?_) ((hp.map (·.place)).nodup_iff.2 hS.nodup), ⟨(hp.map (·.place)).nodup_iff.2 hS.nodup, fun q => by rw [(hp.map (·.place)).mem_iff, hS.mem], fun s hs => hS.cell s (hp.mem_iff.1 hs)⟩, ((show St w0 _ (Tab _ _ _ _ ys :: (m.at_ ++ L)) from H.dropAt 7).perm (List.perm_middle (l₁ := m.at_)).symm)⟩
  obtain ⟨s, h1, h2⟩ := List.mem_map.1 hq
  rw [← h2]
  exact hcell s (hp.mem_iff.1 h1)
end Go.Proofs.Ytinngnckojbpnaa
