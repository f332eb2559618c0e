import Derived.Test.YtinngnckojbpnaaPm19
import Derived.Test.YtinngnckojbpnaaNepSortT
/-! pagemap: places and spots in order, whatever their number. -/
namespace Go.Proofs.Ytinngnckojbpnaa
open Go.Nep Go.Sort Go.Shelf Go.Proofs
set_option maxRecDepth 100000
set_option linter.unusedVariables false
set_option linter.unusedSimpArgs false
set_option maxHeartbeats 1600000

def Rng (p : Pl) : Prop := -1000000000 ≤ p.b ∧ p.b ≤ 1000000000 ∧ -1000000000 ≤ p.p ∧ p.p ≤ 1000000000
theorem cmpW_in {x y : Pl} (hx : Rng x) (hy : Rng y) : cmpW x y = if x.b = y.b then x.p - y.p else x.b - y.b := by
  obtain ⟨a1, a2, a3, a4⟩ := hx
  obtain ⟨b1, b2, b3, b4⟩ := hy
  unfold cmpW
  split <;> rw [wrap64_in ⟨by omega, by omega⟩]
/-- strictly ahead -/
theorem cmpW_lt {x y : Pl} (hx : Rng x) (hy : Rng y) : cmpW x y < 0 ↔ aheadP x y = true := by
  rw [cmpW_in hx hy]
  unfold aheadP
  rw [decide_eq_true_iff]
  split <;> omega
theorem ahead_irr (x : Pl) : aheadP x x = false := by unfold aheadP; rw [decide_eq_false_iff_not]; omega
theorem ahead_tr {x y z : Pl} (h1 : aheadP x y = true) (h2 : aheadP y z = true) : aheadP x z = true := by unfold aheadP at *; rw [decide_eq_true_iff] at *; omega
theorem ahead_nt {x y z : Pl} (h1 : ¬ aheadP x y = true) (h2 : ¬ aheadP y z = true) : ¬ aheadP x z = true := by unfold aheadP at *; rw [decide_eq_true_iff] at *; omega
theorem ahead_or {x y : Pl} (h : ¬ aheadP x y = true) : x = y ∨ aheadP y x = true := by
  unfold aheadP at *
  rw [decide_eq_true_iff] at *
  by_cases e : x.b = y.b ∧ x.p = y.p
  · left; cases x; cases y; simp_all
  · right; omega

theorem eg_less : ∀ args w, (callFunc 42 args).run Try.prog w = .ok (.enter 42 args) w := enters_of Try.func42 (by kernel_rfl) rfl

/-- places in order, each once -/
def Asc (l : List Pl) : Prop := l.Pairwise fun a b => aheadP a b = true

theorem asc_of {ys : List Pl} (h : ys.Pairwise fun a b => ¬ cmpW b a < 0) (hr : ∀ x ∈ ys, Rng x) (hn : ys.Nodup) : Asc ys := by
  unfold Asc
  have h2 := h.and hn
  refine h2.imp_of_mem ?_
  intro a b ha hb ⟨h3, h4⟩
  rw [cmpW_lt (hr b hb) (hr a ha)] at h3
  rcases ahead_or h3 with h5 | h5
  · exact absurd h5.symm h4
  · exact h5

theorem told_any (outs : List Pl) (hr : ∀ x ∈ outs, Rng x) (hn : outs.Nodup) (hlen : outs.length ≤ 1000000) {v : Value} {w0 w : World} {L : List Asn} (H : St w0 w (PT v outs :: L)) :
    Calls Try.prog 30 #[v] w (After fun u w' => ∃ ys, ys.Perm outs ∧ Asc ys ∧ St w0 w' (PT u ys :: L)) := by
  have hcon := sort_tab Try.sortPl Rng Pl.enc 2 (by decide) isAggPl sizePl pl_len plEnc_one cmpW (fun x h => by rw [cmpW_lt h h, ahead_irr]; simp)
    (fun x y z hx hy hz a b => by rw [cmpW_lt hx hy] at a; rw [cmpW_lt hy hz] at b; rw [cmpW_lt hx hz]; exact ahead_tr a b)
    (fun x y z hx hy hz a b => by rw [cmpW_lt hx hy] at a; rw [cmpW_lt hy hz] at b; rw [cmpW_lt hx hz]; exact ahead_nt a b)
    42 eg_less (fun x y w _ _ => (less_exact x y w).mono fun e w' he => by
      cases e with
      | returned v => obtain ⟨rfl, os, hw⟩ := he; exact ⟨rfl, 0, os, hw⟩
      | _ => exact he.elim) hr (by omega) H
  obtain ⟨ad, cap, rfl, _⟩ := H.tabVal
  refine calls_of_W (N := 6) (args := [.slice ad outs.length cap]) Try.func30 rfl Try.ntmps30 (by simp) ?_
  refine W_seq_k fun K1 hK1 => ?_
  refine W_reg rfl ?_
  refine RL_some ?_; (refine X_assign rfl ?_)
  refine hK1 _ _ (W_keep (Keep.cons 0 rfl Keep.nil) ?_)
  refine W_seq_k fun K2 hK2 => ?_
  refine W_reg rfl ?_
  refine RL_some ?_; (refine X_move rfl ?_)
  refine RL_some ?_; (refine X_call T.ent43 rfl (calls_to hcon ?_); rintro r w ⟨rfl, ys, hp, hs, H⟩)
  refine hK2 _ _ (W_keep (Keep.cons 0 rfl Keep.nil) ?_)
  refine W_seq_k fun K3 hK3 => ?_
  refine W_reg rfl ?_
  refine RL_some ?_; (refine X_move rfl ?_)
  refine RL_some ?_; (refine X_assign rfl ?_)
  refine hK3 _ _ (W_keep (Keep.cons 2 rfl Keep.nil) ?_)
  refine W_ret ?_
  (try simp only [thenQ, blockQ, noGotoQ])
  refine body_tmp (.inr rfl) rfl rfl ?_
  exact ⟨ys, hp, asc_of hs (fun x hx => hr x (hp.mem_iff.1 hx)) (hp.nodup_iff.2 hn), H⟩

theorem In1_exact (x y : Spot) (w0 : World) : Calls Try.prog 41 #[.agg x.enc.toArray, .agg y.enc.toArray] w0 (After fun v w' => v = i64 (cmpW x.place y.place) ∧ ∃ q os, w' = grow (w0.drewN q) os) := by
  have h0 : ((w0.alloc (.cells (Value.agg x.enc.toArray).cells 29)).alloc (.cells (Value.agg y.enc.toArray).cells 29)).heap[w0.heap.size]? = some (.cells x.enc.toArray 29 (0, 0)) := by
    rw [alloc_heap, if_neg (by show ¬ _ = (w0.heap.push _).size; simp), alloc_heap, if_pos rfl]
    rfl
  have h1 : ((w0.alloc (.cells (Value.agg x.enc.toArray).cells 29)).alloc (.cells (Value.agg y.enc.toArray).cells 29)).heap[(w0.alloc (.cells (Value.agg x.enc.toArray).cells 29)).heap.size]? = some (.cells y.enc.toArray 29 (0, 0)) := by
    rw [alloc_heap, if_pos rfl]
    rfl
  have hg : ∃ os, (w0.alloc (.cells (Value.agg x.enc.toArray).cells 29)).alloc (.cells (Value.agg y.enc.toArray).cells 29) = grow w0 os := ⟨_, by rw [alloc_eq_grow, alloc_eq_grow, grow_grow]⟩
  refine calls_of_W (N := 10) (args := [.agg x.enc.toArray, .agg y.enc.toArray]) Try.func41 rfl Try.ntmps41 (by simp) ?_
  refine W_seq_k fun K1 hK1 => ?_
  refine W_reg rfl ?_
  refine RL_some ?_; (refine X_box rfl ?_)
  refine RL_some ?_; (refine X_box rfl ?_)
  refine RL_some ?_; (refine X_assign rfl ?_)
  refine hK1 _ _ (W_keep (Keep.cons 2 rfl (Keep.cons 3 rfl Keep.nil)) ?_)
  generalize (w0.alloc (.cells (Value.agg x.enc.toArray).cells 29)).alloc (.cells (Value.agg y.enc.toArray).cells 29) = w2 at *
  generalize (w0.alloc (.cells (Value.agg x.enc.toArray).cells 29)).heap.size = b2 at *
  refine W_seq_k fun K2 hK2 => ?_
  refine W_reg rfl ?_
  refine RL_some ?_; (refine X_fieldAddr T.fd29_0 rfl ?_)
  refine RL_some ?_; (refine X_load T.ty23 rfl (l := x.place.enc) (by unfold rdN; rw [h0]; exact if_pos ⟨rfl, Nat.le_of_ble_eq_true rfl⟩) ?_)
  refine RL_some ?_; (refine X_fieldAddr T.fd29_0 rfl ?_)
  refine RL_some ?_; (refine X_load T.ty23 rfl (l := y.place.enc) (by unfold rdN; rw [h1]; exact if_pos ⟨rfl, Nat.le_of_ble_eq_true rfl⟩) ?_)
  refine RL_some ?_; (refine X_call T.ent42 rfl (calls_to (less_exact x.place y.place w2) ?_); rintro v w ⟨rfl, os, rfl⟩)
  refine RL_some ?_; (refine X_assign rfl ?_)
  refine hK2 _ _ (W_keep (Keep.cons 4 rfl Keep.nil) ?_)
  refine W_ret ?_
  (try simp only [thenQ, blockQ, noGotoQ])
  refine body_tmp (.inr rfl) rfl rfl ?_
  obtain ⟨os2, rfl⟩ := hg
  exact ⟨rfl, 0, _, by rw [grow_grow]; rfl⟩
end Go.Proofs.Ytinngnckojbpnaa
