import Derived.Test.YtinngnckojbpnaaPm24
/-! pagemap: the walks of add, step, light. -/
namespace Go.Proofs.Ytinngnckojbpnaa
open Go.Nep
set_option maxRecDepth 100000
set_option linter.unusedVariables false
set_option linter.unusedSimpArgs false
set_option maxHeartbeats 3200000

/-- may a change be played? -/
def lightP (s : StepT) : Prop := (s.size ≤ 40 ∨ 65535 < s.size) ∧ -1000 < s.s.place.b ∧ s.s.place.b < 1000 ∧ -1000 < s.s.place.p ∧ s.s.place.p < 1000 ∧ -1000 < s.to.b ∧ s.to.b < 1000 ∧ -1000 < s.to.p ∧ s.to.p < 1000
instance (s : StepT) : Decidable (lightP s) := by unfold lightP; infer_instance

theorem light_spec (s : StepT) {w0 w : World} {L : List Asn} (H : St w0 w L) :
    Calls Try.prog 16 #[.agg s.enc.toArray] w (After fun r w' => r = .bool (decide (lightP s)) ∧ St w0 w' L) := by
  have hcs : (40 < s.size ∧ s.size ≤ 65535) ∨ (65535 < s.size ∧ ¬ s.size ≤ 40) ∨ s.size ≤ 40 := by omega
  have hc2 : ¬ -1000 < s.s.place.b ∨ (-1000 < s.s.place.b ∧ ¬ s.s.place.b < 1000) ∨ (-1000 < s.s.place.b ∧ s.s.place.b < 1000 ∧ ¬ -1000 < s.s.place.p) ∨ (-1000 < s.s.place.b ∧ s.s.place.b < 1000 ∧ -1000 < s.s.place.p ∧ ¬ s.s.place.p < 1000) ∨ (-1000 < s.s.place.b ∧ s.s.place.b < 1000 ∧ -1000 < s.s.place.p ∧ s.s.place.p < 1000) := by omega
  have hc3 : ¬ -1000 < s.to.b ∨ (-1000 < s.to.b ∧ ¬ s.to.b < 1000) ∨ (-1000 < s.to.b ∧ s.to.b < 1000 ∧ ¬ -1000 < s.to.p) ∨ (-1000 < s.to.b ∧ s.to.b < 1000 ∧ -1000 < s.to.p) := by omega
  refine calls_of_W (N := 63) (args := [.agg s.enc.toArray]) Try.func16 rfl Try.ntmps16 (by simp) ?_
  refine W_seq_k fun K1 hK1 => ?_
  refine W_reg rfl ?_
  refine RL_some ?_; (refine S_box H rfl ?_; intro b1 w H)
  refine RL_some ?_; (refine X_assign rfl ?_)
  refine hK1 _ _ (W_keep (Keep.cons 1 rfl Keep.nil) ?_)
  refine W_seq_k fun K2 hK2 => ?_
  refine W_boolR 2 (lightP s) [] H ?_ ?_
  · rcases hcs with e | e | e <;> rcases hc2 with f | f | f | f | f <;> rcases hc3 with g | g | g | g
    all_goals
      refine W_reg rfl ?_
      refine RL_some ?_; (refine X_fieldAddr T.fd54_2 rfl ?_)
      refine RL_some ?_; (refine S_load1 H 0 T.ty3 rfl rfl (v := i64 s.size) rfl ?_)
      refine RL_some ?_; (first | refine X_cmp_t rfl rfl rfl (by first | assumption | omega) ?_ | refine X_cmp_f rfl rfl rfl (by first | assumption | omega) ?_ | refine X_bin rfl rfl rfl ?_)
      refine RL_some ?_; (refine X_move rfl ?_)
      (first | refine RL_off rfl rfl ?_ | refine RL_off' rfl rfl ?_ | (refine RL_on rfl rfl ?_; (refine X_fieldAddr T.fd54_2 rfl ?_)))
      (first | refine RL_off rfl rfl ?_ | refine RL_off' rfl rfl ?_ | (refine RL_on rfl rfl ?_; (refine S_load1 H 0 T.ty3 rfl rfl (v := i64 s.size) rfl ?_)))
      (first | refine RL_off rfl rfl ?_ | refine RL_off' rfl rfl ?_ | (refine RL_on rfl rfl ?_; (first | refine X_cmp_t rfl rfl rfl (by first | assumption | omega) ?_ | refine X_cmp_f rfl rfl rfl (by first | assumption | omega) ?_ | refine X_bin rfl rfl rfl ?_)))
      refine RL_some ?_; (refine X_pick rfl rfl ?_)
      refine RL_some ?_; (refine X_move rfl ?_)
      (first | refine RL_off rfl rfl ?_ | refine RL_off' rfl rfl ?_ | (refine RL_on rfl rfl ?_; (refine X_fieldAddr T.fd54_3 rfl ?_)))
      (first | refine RL_off rfl rfl ?_ | refine RL_off' rfl rfl ?_ | (refine RL_on rfl rfl ?_; (refine X_fieldAddr T.fd29_0 rfl ?_)))
      (first | refine RL_off rfl rfl ?_ | refine RL_off' rfl rfl ?_ | (refine RL_on rfl rfl ?_; (refine X_fieldAddr T.fd23_0 rfl ?_)))
      (first | refine RL_off rfl rfl ?_ | refine RL_off' rfl rfl ?_ | (refine RL_on rfl rfl ?_; (refine S_load1 H 0 T.ty3 rfl rfl (v := i64 s.s.place.b) rfl ?_)))
      (first | refine RL_off rfl rfl ?_ | refine RL_off' rfl rfl ?_ | (refine RL_on rfl rfl ?_; (first | refine X_cmp_t rfl rfl rfl (by first | assumption | omega) ?_ | refine X_cmp_f rfl rfl rfl (by first | assumption | omega) ?_ | refine X_bin rfl rfl rfl ?_)))
      refine RL_some ?_; (refine X_pick rfl rfl ?_)
      refine RL_some ?_; (refine X_move rfl ?_)
      (first | refine RL_off rfl rfl ?_ | refine RL_off' rfl rfl ?_ | (refine RL_on rfl rfl ?_; (refine X_fieldAddr T.fd54_3 rfl ?_)))
      (first | refine RL_off rfl rfl ?_ | refine RL_off' rfl rfl ?_ | (refine RL_on rfl rfl ?_; (refine X_fieldAddr T.fd29_0 rfl ?_)))
      (first | refine RL_off rfl rfl ?_ | refine RL_off' rfl rfl ?_ | (refine RL_on rfl rfl ?_; (refine X_fieldAddr T.fd23_0 rfl ?_)))
      (first | refine RL_off rfl rfl ?_ | refine RL_off' rfl rfl ?_ | (refine RL_on rfl rfl ?_; (refine S_load1 H 0 T.ty3 rfl rfl (v := i64 s.s.place.b) rfl ?_)))
      (first | refine RL_off rfl rfl ?_ | refine RL_off' rfl rfl ?_ | (refine RL_on rfl rfl ?_; (first | refine X_cmp_t rfl rfl rfl (by first | assumption | omega) ?_ | refine X_cmp_f rfl rfl rfl (by first | assumption | omega) ?_ | refine X_bin rfl rfl rfl ?_)))
      refine RL_some ?_; (refine X_pick rfl rfl ?_)
      refine RL_some ?_; (refine X_move rfl ?_)
      (first | refine RL_off rfl rfl ?_ | refine RL_off' rfl rfl ?_ | (refine RL_on rfl rfl ?_; (refine X_fieldAddr T.fd54_3 rfl ?_)))
      (first | refine RL_off rfl rfl ?_ | refine RL_off' rfl rfl ?_ | (refine RL_on rfl rfl ?_; (refine X_fieldAddr T.fd29_0 rfl ?_)))
      (first | refine RL_off rfl rfl ?_ | refine RL_off' rfl rfl ?_ | (refine RL_on rfl rfl ?_; (refine X_fieldAddr T.fd23_1 rfl ?_)))
      (first | refine RL_off rfl rfl ?_ | refine RL_off' rfl rfl ?_ | (refine RL_on rfl rfl ?_; (refine S_load1 H 0 T.ty3 rfl rfl (v := i64 s.s.place.p) rfl ?_)))
      (first | refine RL_off rfl rfl ?_ | refine RL_off' rfl rfl ?_ | (refine RL_on rfl rfl ?_; (first | refine X_cmp_t rfl rfl rfl (by first | assumption | omega) ?_ | refine X_cmp_f rfl rfl rfl (by first | assumption | omega) ?_ | refine X_bin rfl rfl rfl ?_)))
      refine RL_some ?_; (refine X_pick rfl rfl ?_)
      refine RL_some ?_; (refine X_move rfl ?_)
      (first | refine RL_off rfl rfl ?_ | refine RL_off' rfl rfl ?_ | (refine RL_on rfl rfl ?_; (refine X_fieldAddr T.fd54_3 rfl ?_)))
      (first | refine RL_off rfl rfl ?_ | refine RL_off' rfl rfl ?_ | (refine RL_on rfl rfl ?_; (refine X_fieldAddr T.fd29_0 rfl ?_)))
      (first | refine RL_off rfl rfl ?_ | refine RL_off' rfl rfl ?_ | (refine RL_on rfl rfl ?_; (refine X_fieldAddr T.fd23_1 rfl ?_)))
      (first | refine RL_off rfl rfl ?_ | refine RL_off' rfl rfl ?_ | (refine RL_on rfl rfl ?_; (refine S_load1 H 0 T.ty3 rfl rfl (v := i64 s.s.place.p) rfl ?_)))
      (first | refine RL_off rfl rfl ?_ | refine RL_off' rfl rfl ?_ | (refine RL_on rfl rfl ?_; (first | refine X_cmp_t rfl rfl rfl (by first | assumption | omega) ?_ | refine X_cmp_f rfl rfl rfl (by first | assumption | omega) ?_ | refine X_bin rfl rfl rfl ?_)))
      refine RL_some ?_; (refine X_pick rfl rfl ?_)
      refine RL_some ?_; (refine X_move rfl ?_)
      (first | refine RL_off rfl rfl ?_ | refine RL_off' rfl rfl ?_ | (refine RL_on rfl rfl ?_; (refine X_fieldAddr T.fd54_4 rfl ?_)))
      (first | refine RL_off rfl rfl ?_ | refine RL_off' rfl rfl ?_ | (refine RL_on rfl rfl ?_; (refine X_fieldAddr T.fd23_0 rfl ?_)))
      (first | refine RL_off rfl rfl ?_ | refine RL_off' rfl rfl ?_ | (refine RL_on rfl rfl ?_; (refine S_load1 H 0 T.ty3 rfl rfl (v := i64 s.to.b) rfl ?_)))
      (first | refine RL_off rfl rfl ?_ | refine RL_off' rfl rfl ?_ | (refine RL_on rfl rfl ?_; (first | refine X_cmp_t rfl rfl rfl (by first | assumption | omega) ?_ | refine X_cmp_f rfl rfl rfl (by first | assumption | omega) ?_ | refine X_bin rfl rfl rfl ?_)))
      refine RL_some ?_; (refine X_pick rfl rfl ?_)
      refine RL_some ?_; (refine X_move rfl ?_)
      (first | refine RL_off rfl rfl ?_ | refine RL_off' rfl rfl ?_ | (refine RL_on rfl rfl ?_; (refine X_fieldAddr T.fd54_4 rfl ?_)))
      (first | refine RL_off rfl rfl ?_ | refine RL_off' rfl rfl ?_ | (refine RL_on rfl rfl ?_; (refine X_fieldAddr T.fd23_0 rfl ?_)))
      (first | refine RL_off rfl rfl ?_ | refine RL_off' rfl rfl ?_ | (refine RL_on rfl rfl ?_; (refine S_load1 H 0 T.ty3 rfl rfl (v := i64 s.to.b) rfl ?_)))
      (first | refine RL_off rfl rfl ?_ | refine RL_off' rfl rfl ?_ | (refine RL_on rfl rfl ?_; (first | refine X_cmp_t rfl rfl rfl (by first | assumption | omega) ?_ | refine X_cmp_f rfl rfl rfl (by first | assumption | omega) ?_ | refine X_bin rfl rfl rfl ?_)))
      refine RL_some ?_; (refine X_pick rfl rfl ?_)
      refine RL_some ?_; (refine X_move rfl ?_)
      (first | refine RL_off rfl rfl ?_ | refine RL_off' rfl rfl ?_ | (refine RL_on rfl rfl ?_; (refine X_fieldAddr T.fd54_4 rfl ?_)))
      (first | refine RL_off rfl rfl ?_ | refine RL_off' rfl rfl ?_ | (refine RL_on rfl rfl ?_; (refine X_fieldAddr T.fd23_1 rfl ?_)))
      (first | refine RL_off rfl rfl ?_ | refine RL_off' rfl rfl ?_ | (refine RL_on rfl rfl ?_; (refine S_load1 H 0 T.ty3 rfl rfl (v := i64 s.to.p) rfl ?_)))
      (first | refine RL_off rfl rfl ?_ | refine RL_off' rfl rfl ?_ | (refine RL_on rfl rfl ?_; (first | refine X_cmp_t rfl rfl rfl (by first | assumption | omega) ?_ | refine X_cmp_f rfl rfl rfl (by first | assumption | omega) ?_ | refine X_bin rfl rfl rfl ?_)))
      refine RL_some ?_; (refine X_pick rfl rfl ?_)
      refine RL_some ?_; (refine X_move rfl ?_)
      (first | refine RL_off rfl rfl ?_ | refine RL_off' rfl rfl ?_ | (refine RL_on rfl rfl ?_; (refine X_fieldAddr T.fd54_4 rfl ?_)))
      (first | refine RL_off rfl rfl ?_ | refine RL_off' rfl rfl ?_ | (refine RL_on rfl rfl ?_; (refine X_fieldAddr T.fd23_1 rfl ?_)))
      (first | refine RL_off rfl rfl ?_ | refine RL_off' rfl rfl ?_ | (refine RL_on rfl rfl ?_; (refine S_load1 H 0 T.ty3 rfl rfl (v := i64 s.to.p) rfl ?_)))
      (first | refine RL_off rfl rfl ?_ | refine RL_off' rfl rfl ?_ | (refine RL_on rfl rfl ?_; (first | refine X_cmp_t rfl rfl rfl (by first | assumption | omega) ?_ | refine X_cmp_f rfl rfl rfl (by first | assumption | omega) ?_ | refine X_bin rfl rfl rfl ?_)))
      refine RL_some ?_; (refine X_pick rfl rfl ?_)
      refine RL_some ?_; (refine X_assign rfl ?_)
      exact ⟨_, by unfold lightP; first | (simp; omega) | simp, rfl, trivial, H⟩
  intro q w hq H
  skip
  refine hK2 _ _ (W_keep (Keep.cons 2 rfl Keep.nil) ?_)
  refine W_ret ?_
  (try simp only [thenQ, blockQ, noGotoQ])
  refine body_tmp (.inr rfl) rfl rfl ?_
  exact ⟨by rw [show q = decide (lightP s) by rw [Bool.eq_iff_iff, hq, decide_eq_true_iff]], H.drop⟩

theorem RelM.grow {m : PMx} {z : Z4} {cs : List Cell} (h : RelM m z cs) {ns n : Int} (hns : 0 ≤ ns ∧ ns < 4) (hn : 1 ≤ n ∧ n ≤ 40) (h0 : (m.l ns.toNat).length = 0) (b : Nat) : RelM (m.grown ns.toNat b n.toNat) (z.set ns.toNat n) cs := by
  have hlk : ∀ k, (m.grown ns.toNat b n.toNat).l k = if k = ns.toNat then List.replicate n.toNat none else m.l k := fun k => rfl
  have hnil : m.l ns.toNat = [] := List.length_eq_zero_iff.1 h0
  have hcnt : cnt (m.grown ns.toNat b n.toNat).l = cnt m.l := by
    funext q
    have e : ∀ k, cntL ((m.grown ns.toNat b n.toNat).l k) q = cntL (m.l k) q := by
      intro k
      rw [hlk]
      split
      · rename_i e; rw [e, hnil]
        have : ∀ n, cntL (List.replicate n (none : Option Spot)) q = 0 := by
          intro n
          unfold cntL
          induction n with
          | zero => rfl
          | succ n ih => rw [List.replicate_succ, List.map_cons, List.sum_cons, ih]; rfl
        rw [this]; rfl
      · rfl
    unfold cnt
    rw [e, e, e, e]
  refine ⟨⟨h.rel.keys, fun c => ?_⟩, by rw [hcnt]; exact h.ref, fun k hk => ?_, fun k hk => ?_, fun q hq => h.rng q (by rw [hcnt] at hq; exact hq)⟩
  · rw [h.rel.mem]
    unfold InM
    rw [hlk]
    constructor
    · rintro ⟨a1, a2, a3, a4⟩
      refine ⟨a1, a2, a3, ?_⟩
      split
      · rename_i e; rw [e, hnil] at a4; simp at a4
      · exact a4
    · rintro ⟨a1, a2, a3, a4⟩
      refine ⟨a1, a2, a3, ?_⟩
      split at a4
      · rw [List.getElem?_replicate] at a4
        split at a4 <;> simp at a4
      · exact a4
  · rw [z_set z ns.toNat k hk (by omega), hlk]
    split
    · simp; omega
    · exact h.size k hk
  · rw [hlk]
    split
    · simp; omega
    · exact h.small k hk

theorem Add_pm {m : PMx} {z : Z4} {cs : List Cell} (h : RelM m z cs) (ns n : Int) (hn : n ≤ 40 ∨ 65535 < n) {w0 w : World} {L : List Asn} (H : St w0 w (PM m :: L)) :
    Calls Try.prog 13 #[pt m.p 0, i64 ns, i64 n] w (After fun v w' => ((ns < 0 ∨ 3 < ns ∨ n < 1 ∨ 65535 < n) ∧ v = i64 2 ∧ St w0 w' (PM m :: L)) ∨
      ((0 ≤ ns ∧ ns ≤ 3 ∧ 1 ≤ n ∧ n ≤ 40) ∧ 0 < z.get ns.toNat ∧ v = i64 11 ∧ St w0 w' (PM m :: L)) ∨ ((0 ≤ ns ∧ ns ≤ 3 ∧ 1 ≤ n ∧ n ≤ 40) ∧ ¬ 0 < z.get ns.toNat ∧ v = i64 0 ∧ ∃ m', m'.p = m.p ∧ RelM m' (z.set ns.toNat n) cs ∧ St w0 w' (PM m' :: L))) := by
  refine calls_to (Add_spec m ns n H.open_) ?_
  rintro v w' ⟨rfl, h1, h2⟩
  unfold addE at *
  by_cases e : ns < 0 ∨ 4 ≤ ns ∨ n < 1 ∨ 65535 < n
  · rw [if_pos e] at h1 ⊢
    exact .inl ⟨by omega, rfl, by rw [h1 (by decide)]; exact H⟩
  · rw [if_neg e] at h1 h2 ⊢
    have hz := h.size ns.toNat (by omega)
    by_cases e2 : 0 < (m.l ns.toNat).length
    · rw [if_pos e2] at h1 ⊢
      exact .inr (.inl ⟨by omega, by omega, rfl, by rw [h1 (by decide)]; exact H⟩)
    · rw [if_neg e2] at h2 ⊢
      obtain ⟨b, H2⟩ := h2 rfl
      exact .inr (.inr ⟨by omega, by omega, rfl, m.grown ns.toNat b n.toNat, rfl, h.grow (by omega) (by omega) (by omega) b, H2.shut⟩)

theorem add_spec {m : PMx} {z : Z4} {cs : List Cell} (h : RelM m z cs) (v : Value) (s : StepT) (hl : lightP s) {w0 w : World} {L : List Asn} (H : St w0 w (PM m :: CT v cs :: L)) :
    Calls Try.prog 32 #[pt m.p 0, .agg (dmc z v), .agg s.enc.toArray] w (After fun r w' => ∃ m' z', r = .tuple #[.agg (dmc z' v), .bool true] ∧ m'.p = m.p ∧ RelM m' z' cs ∧ St w0 w' (PM m' :: CT v cs :: L)) := by
  have hv := (H.swap.tabSl).2
  refine calls_of_W (N := 54) (args := [pt m.p 0, .agg (dmc z v), .agg s.enc.toArray]) Try.func32 rfl Try.ntmps32 (by simp) ?_
  refine W_seq_k fun K1 hK1 => ?_
  refine W_reg rfl ?_
  refine RL_some ?_; (refine S_box H rfl ?_; intro b4 w H)
  refine RL_some ?_; (refine S_box H rfl ?_; intro b5 w H)
  refine RL_some ?_; (refine S_alloc H T.ze51 ?_; intro b6 w H)
  refine RL_some ?_; (refine X_assign rfl ?_)
  refine hK1 _ _ (W_keep (Keep.cons 0 rfl (Keep.cons 4 rfl (Keep.cons 5 rfl (Keep.cons 6 rfl Keep.nil)))) ?_)
  refine W_seq_k fun K2 hK2 => ?_
  refine W_reg rfl ?_
  refine RL_some ?_; (refine X_move rfl ?_)
  refine RL_some ?_; (refine X_fieldAddr T.fd54_1 rfl ?_)
  refine RL_some ?_; (refine S_load1 H 1 T.ty3 rfl rfl (v := i64 s.ns) rfl ?_)
  refine RL_some ?_; (refine X_fieldAddr T.fd54_2 rfl ?_)
  refine RL_some ?_; (refine S_load1 H 1 T.ty3 rfl rfl (v := i64 s.size) rfl ?_)
  refine RL_some ?_; (refine X_call T.ent13 rfl (calls_to (Add_pm h s.ns s.size hl.1 (H.foc 3 rfl)) ?_); intro r w hr)
  refine RL_some ?_; (refine X_assign rfl ?_)
  refine hK2 _ _ (W_keep (Keep.cons 4 rfl (Keep.cons 5 rfl (Keep.cons 6 rfl (Keep.cons 8 rfl Keep.nil)))) ?_)
  refine W_seq_k fun K3 hK3 => ?_
  refine W_seq_k fun K4 hK4 => ?_
  rcases hr with ⟨hc, rfl, H⟩ | ⟨hc, hz, rfl, H⟩ | ⟨hc, hz, rfl, m', hp, h', H⟩
  · skip
    refine W_boolR 32 (True) [4, 5, 6, 8] H ?_ ?_
    · rcases (by omega : s.ns < 0 ∨ (¬ s.ns < 0 ∧ 3 < s.ns) ∨ (¬ s.ns < 0 ∧ ¬ 3 < s.ns ∧ s.size < 1) ∨ (¬ s.ns < 0 ∧ ¬ 3 < s.ns ∧ ¬ s.size < 1 ∧ 65535 < s.size)) with e | e | e | e
      all_goals
        refine W_reg rfl ?_
        refine RL_some ?_; (refine X_fieldAddr T.fd54_1 rfl ?_)
        refine RL_some ?_; (refine S_load1 H 2 T.ty3 rfl rfl (v := i64 s.ns) rfl ?_)
        refine RL_some ?_; (first | refine X_cmp_t rfl rfl rfl (by first | assumption | omega) ?_ | refine X_cmp_f rfl rfl rfl (by first | assumption | omega) ?_ | refine X_bin rfl rfl rfl ?_)
        refine RL_some ?_; (refine X_move rfl ?_)
        (first | refine RL_off rfl rfl ?_ | refine RL_off' rfl rfl ?_ | (refine RL_on rfl rfl ?_; (refine X_fieldAddr T.fd54_1 rfl ?_)))
        (first | refine RL_off rfl rfl ?_ | refine RL_off' rfl rfl ?_ | (refine RL_on rfl rfl ?_; (refine S_load1 H 2 T.ty3 rfl rfl (v := i64 s.ns) rfl ?_)))
        (first | refine RL_off rfl rfl ?_ | refine RL_off' rfl rfl ?_ | (refine RL_on rfl rfl ?_; (first | refine X_cmp_t rfl rfl rfl (by first | assumption | omega) ?_ | refine X_cmp_f rfl rfl rfl (by first | assumption | omega) ?_ | refine X_bin rfl rfl rfl ?_)))
        refine RL_some ?_; (refine X_pick rfl rfl ?_)
        refine RL_some ?_; (refine X_move rfl ?_)
        (first | refine RL_off rfl rfl ?_ | refine RL_off' rfl rfl ?_ | (refine RL_on rfl rfl ?_; (refine X_fieldAddr T.fd54_2 rfl ?_)))
        (first | refine RL_off rfl rfl ?_ | refine RL_off' rfl rfl ?_ | (refine RL_on rfl rfl ?_; (refine S_load1 H 2 T.ty3 rfl rfl (v := i64 s.size) rfl ?_)))
        (first | refine RL_off rfl rfl ?_ | refine RL_off' rfl rfl ?_ | (refine RL_on rfl rfl ?_; (first | refine X_cmp_t rfl rfl rfl (by first | assumption | omega) ?_ | refine X_cmp_f rfl rfl rfl (by first | assumption | omega) ?_ | refine X_bin rfl rfl rfl ?_)))
        refine RL_some ?_; (refine X_pick rfl rfl ?_)
        refine RL_some ?_; (refine X_move rfl ?_)
        (first | refine RL_off rfl rfl ?_ | refine RL_off' rfl rfl ?_ | (refine RL_on rfl rfl ?_; (refine X_fieldAddr T.fd54_2 rfl ?_)))
        (first | refine RL_off rfl rfl ?_ | refine RL_off' rfl rfl ?_ | (refine RL_on rfl rfl ?_; (refine S_load1 H 2 T.ty3 rfl rfl (v := i64 s.size) rfl ?_)))
        (first | refine RL_off rfl rfl ?_ | refine RL_off' rfl rfl ?_ | (refine RL_on rfl rfl ?_; (first | refine X_cmp_t rfl rfl rfl (by first | assumption | omega) ?_ | refine X_cmp_f rfl rfl rfl (by first | assumption | omega) ?_ | refine X_bin rfl rfl rfl ?_)))
        refine RL_some ?_; (refine X_pick rfl rfl ?_)
        exact ⟨_, by simp, rfl, ⟨rfl, rfl, rfl, rfl, trivial⟩, H⟩
    intro q w hq H
    skip
    refine hK4 _ _ (W_keep (Keep.cons 4 rfl (Keep.cons 5 rfl (Keep.cons 6 rfl (Keep.cons 8 rfl (Keep.cons 32 rfl Keep.nil))))) ?_)
    obtain rfl : q = true := hq.2 trivial
    refine W_true rfl ?_
    refine W_seq_k fun K5 hK5 => ?_
    refine W_reg rfl ?_
    refine RL_some ?_; (refine S_load H 3 T.ty51 rfl rfl (l := zl z v) rfl (Nat.le_of_ble_eq_true rfl) ?_)
    refine RL_some ?_; (refine X_move rfl ?_)
    refine RL_some ?_; (first | refine X_cmp_t rfl rfl rfl (by first | assumption | omega) ?_ | refine X_cmp_f rfl rfl rfl (by first | assumption | omega) ?_ | refine X_bin rfl rfl rfl ?_)
    refine RL_none ?_; (refine S_store (c' := dmc z v) H 1 T.ty51 rfl rfl rfl rfl (Nat.le_of_ble_eq_true rfl) (by show (Nep.one v && true) = true; simp [hv]) rfl ?_; intro w H)
    refine RL_some ?_; (refine X_assign rfl ?_)
    refine hK5 _ _ (W_keep (Keep.cons 6 rfl (Keep.cons 7 rfl Keep.nil)) ?_)
    refine W_ret ?_
    (try simp only [thenQ, blockQ, noGotoQ])
    exact body_list (.inr rfl) rfl (.cell rfl (loadV_agg H 1 T.ty51 rfl (l := zl z v) rfl (Nat.le_of_ble_eq_true rfl)) (.tmp rfl .nil)) (by simp) ⟨m, z, rfl, rfl, h, (H.dropAt 3).dropAt 2 |>.dropAt 1⟩
  · skip
    refine W_reg rfl ?_
    refine RL_some ?_; (refine X_fieldAddr T.fd54_1 rfl ?_)
    refine RL_some ?_; (refine S_load1 H 2 T.ty3 rfl rfl (v := i64 s.ns) rfl ?_)
    refine RL_some ?_; (first | refine X_cmp_t rfl rfl rfl (by first | assumption | omega) ?_ | refine X_cmp_f rfl rfl rfl (by first | assumption | omega) ?_ | refine X_bin rfl rfl rfl ?_)
    refine RL_some ?_; (refine X_move rfl ?_)
    (first | refine RL_off rfl rfl ?_ | refine RL_off' rfl rfl ?_ | (refine RL_on rfl rfl ?_; (refine X_fieldAddr T.fd54_1 rfl ?_)))
    (first | refine RL_off rfl rfl ?_ | refine RL_off' rfl rfl ?_ | (refine RL_on rfl rfl ?_; (refine S_load1 H 2 T.ty3 rfl rfl (v := i64 s.ns) rfl ?_)))
    (first | refine RL_off rfl rfl ?_ | refine RL_off' rfl rfl ?_ | (refine RL_on rfl rfl ?_; (first | refine X_cmp_t rfl rfl rfl (by first | assumption | omega) ?_ | refine X_cmp_f rfl rfl rfl (by first | assumption | omega) ?_ | refine X_bin rfl rfl rfl ?_)))
    refine RL_some ?_; (refine X_pick rfl rfl ?_)
    refine RL_some ?_; (refine X_move rfl ?_)
    (first | refine RL_off rfl rfl ?_ | refine RL_off' rfl rfl ?_ | (refine RL_on rfl rfl ?_; (refine X_fieldAddr T.fd54_2 rfl ?_)))
    (first | refine RL_off rfl rfl ?_ | refine RL_off' rfl rfl ?_ | (refine RL_on rfl rfl ?_; (refine S_load1 H 2 T.ty3 rfl rfl (v := i64 s.size) rfl ?_)))
    (first | refine RL_off rfl rfl ?_ | refine RL_off' rfl rfl ?_ | (refine RL_on rfl rfl ?_; (first | refine X_cmp_t rfl rfl rfl (by first | assumption | omega) ?_ | refine X_cmp_f rfl rfl rfl (by first | assumption | omega) ?_ | refine X_bin rfl rfl rfl ?_)))
    refine RL_some ?_; (refine X_pick rfl rfl ?_)
    refine RL_some ?_; (refine X_move rfl ?_)
    (first | refine RL_off rfl rfl ?_ | refine RL_off' rfl rfl ?_ | (refine RL_on rfl rfl ?_; (refine X_fieldAddr T.fd54_2 rfl ?_)))
    (first | refine RL_off rfl rfl ?_ | refine RL_off' rfl rfl ?_ | (refine RL_on rfl rfl ?_; (refine S_load1 H 2 T.ty3 rfl rfl (v := i64 s.size) rfl ?_)))
    (first | refine RL_off rfl rfl ?_ | refine RL_off' rfl rfl ?_ | (refine RL_on rfl rfl ?_; (first | refine X_cmp_t rfl rfl rfl (by first | assumption | omega) ?_ | refine X_cmp_f rfl rfl rfl (by first | assumption | omega) ?_ | refine X_bin rfl rfl rfl ?_)))
    refine RL_some ?_; (refine X_pick rfl rfl ?_)
    refine hK4 _ _ (W_keep (Keep.cons 4 rfl (Keep.cons 5 rfl (Keep.cons 6 rfl (Keep.cons 8 rfl (Keep.cons 32 rfl Keep.nil))))) ?_)
    skip
    refine W_false rfl ?_
    refine W_skip ?_
    refine hK3 _ _ (W_keep (Keep.cons 4 rfl (Keep.cons 5 rfl (Keep.cons 6 rfl (Keep.cons 8 rfl (Keep.cons 32 rfl Keep.nil))))) ?_)
    refine W_seq_k fun K6 hK6 => ?_
    refine W_seq_k fun K7 hK7 => ?_
    refine W_reg rfl ?_
    refine RL_some ?_; (refine X_fieldAddr T.fd54_1 rfl ?_)
    refine RL_some ?_; (refine S_load1 H 2 T.ty3 rfl rfl (v := i64 s.ns) rfl ?_)
    refine RL_some ?_; (refine X_fieldAddr T.fd51_0 rfl ?_)
    refine RL_some ?_; (refine X_idxA T.ar48 rfl rfl (by omega) (by omega) ?_)
    refine RL_some ?_; (refine S_load1 (v := i64 (z.get s.ns.toNat)) H 3 T.ty3 rfl rfl (by rw [Nat.mul_one, Nat.zero_add]; exact dmc_get z v (by omega)) ?_)
    refine RL_some ?_; (first | refine X_cmp_t rfl rfl rfl (by first | assumption | omega) ?_ | refine X_cmp_f rfl rfl rfl (by first | assumption | omega) ?_ | refine X_bin rfl rfl rfl ?_)
    refine hK7 _ _ (W_keep (Keep.cons 4 rfl (Keep.cons 5 rfl (Keep.cons 6 rfl (Keep.cons 8 rfl (Keep.cons 41 rfl Keep.nil))))) ?_)
    refine W_true rfl ?_
    refine W_seq_k fun K8 hK8 => ?_
    refine W_reg rfl ?_
    refine RL_some ?_; (refine S_load H 3 T.ty51 rfl rfl (l := zl z v) rfl (Nat.le_of_ble_eq_true rfl) ?_)
    refine RL_some ?_; (refine X_move rfl ?_)
    refine RL_some ?_; (first | refine X_cmp_t rfl rfl rfl (by first | assumption | omega) ?_ | refine X_cmp_f rfl rfl rfl (by first | assumption | omega) ?_ | refine X_bin rfl rfl rfl ?_)
    refine RL_none ?_; (refine S_store (c' := dmc z v) H 1 T.ty51 rfl rfl rfl rfl (Nat.le_of_ble_eq_true rfl) (by show (Nep.one v && true) = true; simp [hv]) rfl ?_; intro w H)
    refine RL_some ?_; (refine X_assign rfl ?_)
    refine hK8 _ _ (W_keep (Keep.cons 6 rfl (Keep.cons 7 rfl Keep.nil)) ?_)
    refine W_ret ?_
    (try simp only [thenQ, blockQ, noGotoQ])
    exact body_list (.inr rfl) rfl (.cell rfl (loadV_agg H 1 T.ty51 rfl (l := zl z v) rfl (Nat.le_of_ble_eq_true rfl)) (.tmp rfl .nil)) (by simp) ⟨m, z, rfl, rfl, h, (H.dropAt 3).dropAt 2 |>.dropAt 1⟩
  · skip
    refine W_reg rfl ?_
    refine RL_some ?_; (refine X_fieldAddr T.fd54_1 rfl ?_)
    refine RL_some ?_; (refine S_load1 H 2 T.ty3 rfl rfl (v := i64 s.ns) rfl ?_)
    refine RL_some ?_; (first | refine X_cmp_t rfl rfl rfl (by first | assumption | omega) ?_ | refine X_cmp_f rfl rfl rfl (by first | assumption | omega) ?_ | refine X_bin rfl rfl rfl ?_)
    refine RL_some ?_; (refine X_move rfl ?_)
    (first | refine RL_off rfl rfl ?_ | refine RL_off' rfl rfl ?_ | (refine RL_on rfl rfl ?_; (refine X_fieldAddr T.fd54_1 rfl ?_)))
    (first | refine RL_off rfl rfl ?_ | refine RL_off' rfl rfl ?_ | (refine RL_on rfl rfl ?_; (refine S_load1 H 2 T.ty3 rfl rfl (v := i64 s.ns) rfl ?_)))
    (first | refine RL_off rfl rfl ?_ | refine RL_off' rfl rfl ?_ | (refine RL_on rfl rfl ?_; (first | refine X_cmp_t rfl rfl rfl (by first | assumption | omega) ?_ | refine X_cmp_f rfl rfl rfl (by first | assumption | omega) ?_ | refine X_bin rfl rfl rfl ?_)))
    refine RL_some ?_; (refine X_pick rfl rfl ?_)
    refine RL_some ?_; (refine X_move rfl ?_)
    (first | refine RL_off rfl rfl ?_ | refine RL_off' rfl rfl ?_ | (refine RL_on rfl rfl ?_; (refine X_fieldAddr T.fd54_2 rfl ?_)))
    (first | refine RL_off rfl rfl ?_ | refine RL_off' rfl rfl ?_ | (refine RL_on rfl rfl ?_; (refine S_load1 H 2 T.ty3 rfl rfl (v := i64 s.size) rfl ?_)))
    (first | refine RL_off rfl rfl ?_ | refine RL_off' rfl rfl ?_ | (refine RL_on rfl rfl ?_; (first | refine X_cmp_t rfl rfl rfl (by first | assumption | omega) ?_ | refine X_cmp_f rfl rfl rfl (by first | assumption | omega) ?_ | refine X_bin rfl rfl rfl ?_)))
    refine RL_some ?_; (refine X_pick rfl rfl ?_)
    refine RL_some ?_; (refine X_move rfl ?_)
    (first | refine RL_off rfl rfl ?_ | refine RL_off' rfl rfl ?_ | (refine RL_on rfl rfl ?_; (refine X_fieldAddr T.fd54_2 rfl ?_)))
    (first | refine RL_off rfl rfl ?_ | refine RL_off' rfl rfl ?_ | (refine RL_on rfl rfl ?_; (refine S_load1 H 2 T.ty3 rfl rfl (v := i64 s.size) rfl ?_)))
    (first | refine RL_off rfl rfl ?_ | refine RL_off' rfl rfl ?_ | (refine RL_on rfl rfl ?_; (first | refine X_cmp_t rfl rfl rfl (by first | assumption | omega) ?_ | refine X_cmp_f rfl rfl rfl (by first | assumption | omega) ?_ | refine X_bin rfl rfl rfl ?_)))
    refine RL_some ?_; (refine X_pick rfl rfl ?_)
    refine hK4 _ _ (W_keep (Keep.cons 4 rfl (Keep.cons 5 rfl (Keep.cons 6 rfl (Keep.cons 8 rfl (Keep.cons 32 rfl Keep.nil))))) ?_)
    skip
    refine W_false rfl ?_
    refine W_skip ?_
    refine hK3 _ _ (W_keep (Keep.cons 4 rfl (Keep.cons 5 rfl (Keep.cons 6 rfl (Keep.cons 8 rfl (Keep.cons 32 rfl Keep.nil))))) ?_)
    refine W_seq_k fun K9 hK9 => ?_
    refine W_seq_k fun K10 hK10 => ?_
    refine W_reg rfl ?_
    refine RL_some ?_; (refine X_fieldAddr T.fd54_1 rfl ?_)
    refine RL_some ?_; (refine S_load1 H 2 T.ty3 rfl rfl (v := i64 s.ns) rfl ?_)
    refine RL_some ?_; (refine X_fieldAddr T.fd51_0 rfl ?_)
    refine RL_some ?_; (refine X_idxA T.ar48 rfl rfl (by omega) (by omega) ?_)
    refine RL_some ?_; (refine S_load1 (v := i64 (z.get s.ns.toNat)) H 3 T.ty3 rfl rfl (by rw [Nat.mul_one, Nat.zero_add]; exact dmc_get z v (by omega)) ?_)
    refine RL_some ?_; (first | refine X_cmp_t rfl rfl rfl (by first | assumption | omega) ?_ | refine X_cmp_f rfl rfl rfl (by first | assumption | omega) ?_ | refine X_bin rfl rfl rfl ?_)
    refine hK10 _ _ (W_keep (Keep.cons 4 rfl (Keep.cons 5 rfl (Keep.cons 6 rfl (Keep.cons 8 rfl (Keep.cons 41 rfl Keep.nil))))) ?_)
    refine W_false rfl ?_
    refine W_skip ?_
    refine hK9 _ _ (W_keep (Keep.cons 4 rfl (Keep.cons 5 rfl (Keep.cons 6 rfl (Keep.cons 8 rfl (Keep.cons 41 rfl Keep.nil))))) ?_)
    refine W_seq_k fun K11 hK11 => ?_
    refine W_reg rfl ?_
    refine RL_some ?_; (refine X_fieldAddr T.fd54_1 rfl ?_)
    refine RL_some ?_; (refine S_load1 H 2 T.ty3 rfl rfl (v := i64 s.ns) rfl ?_)
    refine RL_some ?_; (refine X_fieldAddr T.fd54_2 rfl ?_)
    refine RL_some ?_; (refine S_load1 H 2 T.ty3 rfl rfl (v := i64 s.size) rfl ?_)
    refine RL_some ?_; (refine X_fieldAddr T.fd51_0 rfl ?_)
    refine RL_some ?_; (refine X_idxA T.ar48 rfl rfl (by omega) (by omega) ?_)
    refine RL_none ?_; (refine S_store (c' := dmc (z.set s.ns.toNat s.size) v) H 3 T.ty3 rfl rfl rfl rfl (by rw [Nat.mul_one, Nat.zero_add]; show _ ≤ 5; omega) rfl (by rw [Nat.mul_one, Nat.zero_add]; exact dmc_set z v s.size (by omega)) ?_; intro w H)
    refine hK11 _ _ (W_keep (Keep.cons 4 rfl (Keep.cons 6 rfl (Keep.cons 8 rfl Keep.nil))) ?_)
    refine W_seq_k fun K12 hK12 => ?_
    refine W_reg rfl ?_
    refine RL_some ?_; (refine S_load H 3 T.ty51 rfl rfl (l := zl (z.set s.ns.toNat s.size) v) rfl (Nat.le_of_ble_eq_true rfl) ?_)
    refine RL_some ?_; (refine X_move rfl ?_)
    refine RL_some ?_; (first | refine X_cmp_t rfl rfl rfl (by first | assumption | omega) ?_ | refine X_cmp_f rfl rfl rfl (by first | assumption | omega) ?_ | refine X_bin rfl rfl rfl ?_)
    refine RL_none ?_; (refine S_store (c' := dmc (z.set s.ns.toNat s.size) v) H 1 T.ty51 rfl rfl rfl rfl (Nat.le_of_ble_eq_true rfl) (by show (Nep.one v && true) = true; simp [hv]) rfl ?_; intro w H)
    refine RL_some ?_; (refine X_assign rfl ?_)
    refine hK12 _ _ (W_keep (Keep.cons 6 rfl (Keep.cons 7 rfl Keep.nil)) ?_)
    refine W_ret ?_
    (try simp only [thenQ, blockQ, noGotoQ])
    exact body_list (.inr rfl) rfl (.cell rfl (loadV_agg H 1 T.ty51 rfl (l := zl (z.set s.ns.toNat s.size) v) rfl (Nat.le_of_ble_eq_true rfl)) (.tmp rfl .nil)) (by simp) ⟨m', _, rfl, hp, h', (H.dropAt 3).dropAt 2 |>.dropAt 1⟩

theorem step_spec {m : PMx} {z : Z4} {cs : List Cell} (h : RelM m z cs) (v : Value) (s : StepT) (hl : lightP s) (hok : s.s.ok) {w0 w : World} {L : List Asn} (H : St w0 w (PM m :: CT v cs :: L)) :
    Calls Try.prog 17 #[pt m.p 0, .agg (dmc z v), .agg s.enc.toArray] w (After fun r w' => ∃ m' z' v' cs', r = .tuple #[.agg (dmc z' v'), .bool true] ∧ m'.p = m.p ∧ RelM m' z' cs' ∧ ∃ L', St w0 w' (PM m' :: CT v' cs' :: L' ++ L)) := by
  have hv := (H.swap.tabSl).2
  have hlen := h.len
  have hgl : ∀ cb, (goneL cb cs).length ≤ 1000000 := fun cb => by have := goneL_len cb cs; omega
  have hrgP : Rng s.s.place := by obtain ⟨_, a1, a2, a3, a4, _⟩ := hl; exact ⟨by omega, by omega, by omega, by omega⟩
  have hrgT : Rng s.to := by obtain ⟨_, _, _, _, _, a1, a2, a3, a4⟩ := hl; exact ⟨by omega, by omega, by omega, by omega⟩
  have hsn : sizeOf_ m s.s.head.ns ≤ 65535 := by unfold sizeOf_; split; have := h.big s.s.head.ns.toNat (by omega); omega; omega
  have hsz4 : ∀ {w L}, St w0 w (CT v cs :: L) → ∃ ad c, v = .slice ad cs.length c := fun H => by obtain ⟨ad, c, h, _⟩ := H.tabVal; exact ⟨ad, c, h⟩
  refine calls_of_W (N := 152) (args := [pt m.p 0, .agg (dmc z v), .agg s.enc.toArray]) Try.func17 rfl Try.ntmps17 (by simp) ?_
  refine W_seq_k fun K1 hK1 => ?_
  refine W_reg rfl ?_
  refine RL_some ?_; (refine S_box H rfl ?_; intro b4 w H)
  refine RL_some ?_; (refine S_box H rfl ?_; intro b5 w H)
  refine RL_some ?_; (refine S_alloc H T.ze51 ?_; intro b6 w H)
  refine RL_some ?_; (refine X_assign rfl ?_)
  refine hK1 _ _ (W_keep (Keep.cons 0 rfl (Keep.cons 4 rfl (Keep.cons 5 rfl (Keep.cons 6 rfl Keep.nil)))) ?_)
  refine W_seq_k fun K2 hK2 => ?_
  refine W_seq_k fun K3 hK3 => ?_
  refine W_reg rfl ?_
  refine RL_some ?_; (refine X_fieldAddr T.fd54_0 rfl ?_)
  refine RL_some ?_; (refine S_load1 H 1 T.ty3 rfl rfl (v := i64 s.kind) rfl ?_)
  refine hK3 _ _ (W_keep (Keep.cons 0 rfl (Keep.cons 4 rfl (Keep.cons 5 rfl (Keep.cons 6 rfl (Keep.cons 18 rfl Keep.nil))))) ?_)
  refine W_block ?_
  refine W_seq_k fun K4 hK4 => ?_
  refine W_reg rfl ?_
  refine RL_some ?_; (first | refine X_cmp_t rfl rfl rfl (by first | assumption | omega) ?_ | refine X_cmp_f rfl rfl rfl (by first | assumption | omega) ?_ | refine X_bin rfl rfl rfl ?_)
  refine RL_some ?_; (refine X_assign rfl ?_)
  refine hK4 _ _ (W_keep (Keep.cons 0 rfl (Keep.cons 4 rfl (Keep.cons 5 rfl (Keep.cons 6 rfl (Keep.cons 18 rfl (Keep.cons 19 rfl Keep.nil)))))) ?_)
  refine W_if rfl (fun k1 => ?_) (fun k1 => ?_)
  · skip
    refine W_seq_k fun K5 hK5 => ?_
    refine W_reg rfl ?_
    refine RL_some ?_; (refine X_move rfl ?_)
    refine RL_some ?_; (refine S_load H 2 T.ty51 rfl rfl (l := zl z v) rfl (Nat.le_of_ble_eq_true rfl) ?_)
    refine RL_some ?_; (refine S_load H 1 T.ty54 rfl rfl (l := s.enc) rfl (Nat.le_of_ble_eq_true rfl) ?_)
    refine RL_some ?_; (refine X_call T.ent32 rfl (calls_to (add_spec h v s hl (H.foc 4 rfl |>.foc 4 rfl)) ?_); rintro r w ⟨m', z', rfl, hp, h', H⟩)
    refine RL_some ?_; (refine X_extract rfl rfl ?_)
    refine RL_some ?_; (refine X_extract rfl rfl ?_)
    refine RL_none ?_; (refine S_store (c' := dmc z' v) H 2 T.ty51 rfl rfl rfl rfl (Nat.le_of_ble_eq_true rfl) (by show (Nep.one v && true) = true; simp [hv]) rfl ?_; intro w H)
    refine RL_some ?_; (refine X_assign rfl ?_)
    refine hK5 _ _ (W_keep (Keep.cons 6 rfl (Keep.cons 7 rfl Keep.nil)) ?_)
    refine W_ret ?_
    (try simp only [thenQ, blockQ, noGotoQ])
    exact body_list (.inr rfl) rfl (.cell rfl (loadV_agg H 2 T.ty51 rfl (l := zl z' v) rfl (Nat.le_of_ble_eq_true rfl)) (.tmp rfl .nil)) (by simp) ⟨m', z', v, cs, rfl, hp, h', [_, _, _], H⟩
  refine W_seq_k fun K6 hK6 => ?_
  refine W_reg rfl ?_
  refine RL_some ?_; (first | refine X_cmp_t rfl rfl rfl (by first | assumption | omega) ?_ | refine X_cmp_f rfl rfl rfl (by first | assumption | omega) ?_ | refine X_bin rfl rfl rfl ?_)
  refine RL_some ?_; (refine X_assign rfl ?_)
  refine hK6 _ _ (W_keep (Keep.cons 0 rfl (Keep.cons 4 rfl (Keep.cons 5 rfl (Keep.cons 6 rfl (Keep.cons 18 rfl (Keep.cons 27 rfl Keep.nil)))))) ?_)
  refine W_if rfl (fun k2 => ?_) (fun k2 => ?_)
  · skip
    refine W_seq_k fun K7 hK7 => ?_
    by_cases hc : cellsOf m s.ns = []
    · skip
      refine W_reg rfl ?_
      refine RL_some ?_; (refine X_move rfl ?_)
      refine RL_some ?_; (refine X_fieldAddr T.fd54_1 rfl ?_)
      refine RL_some ?_; (refine S_load1 H 1 T.ty3 rfl rfl (v := i64 s.ns) rfl ?_)
      refine RL_some ?_; (refine X_call T.ent22 rfl (calls_to (Drop_pmNone m s.ns hc (H.foc 3 rfl)) ?_); rintro r w ⟨rfl, H⟩)
      refine RL_some ?_; (refine X_move rfl ?_)
      refine RL_some ?_; (refine X_extract rfl rfl ?_)
      refine RL_some ?_; (refine X_extract rfl rfl ?_)
      refine RL_some ?_; (refine X_assign rfl ?_)
      refine RL_some ?_; (refine X_assign rfl ?_)
      refine hK7 _ _ (W_keep (Keep.cons 4 rfl (Keep.cons 5 rfl (Keep.cons 6 rfl (Keep.cons 8 rfl (Keep.cons 9 rfl Keep.nil))))) ?_)
      refine W_seq_k fun K8 hK8 => ?_
      refine W_seq_k fun K9 hK9 => ?_
      have hcs : s.ns < 0 ∨ (¬ s.ns < 0 ∧ 3 < s.ns) ∨ (¬ s.ns < 0 ∧ ¬ 3 < s.ns ∧ z.get s.ns.toNat = 0) := by have := (h.empty s.ns).1 hc; omega
      refine W_boolR 51 (True) [4, 5, 6, 8, 9] H ?_ ?_
      · rcases hcs with e | e | e
        all_goals
          refine W_reg rfl ?_
          refine RL_some ?_; (refine X_fieldAddr T.fd54_1 rfl ?_)
          refine RL_some ?_; (refine S_load1 H 2 T.ty3 rfl rfl (v := i64 s.ns) rfl ?_)
          refine RL_some ?_; (first | refine X_cmp_t rfl rfl rfl (by first | assumption | omega) ?_ | refine X_cmp_f rfl rfl rfl (by first | assumption | omega) ?_ | refine X_bin rfl rfl rfl ?_)
          refine RL_some ?_; (refine X_move rfl ?_)
          (first | refine RL_off rfl rfl ?_ | refine RL_off' rfl rfl ?_ | (refine RL_on rfl rfl ?_; (refine X_fieldAddr T.fd54_1 rfl ?_)))
          (first | refine RL_off rfl rfl ?_ | refine RL_off' rfl rfl ?_ | (refine RL_on rfl rfl ?_; (refine S_load1 H 2 T.ty3 rfl rfl (v := i64 s.ns) rfl ?_)))
          (first | refine RL_off rfl rfl ?_ | refine RL_off' rfl rfl ?_ | (refine RL_on rfl rfl ?_; (first | refine X_cmp_t rfl rfl rfl (by first | assumption | omega) ?_ | refine X_cmp_f rfl rfl rfl (by first | assumption | omega) ?_ | refine X_bin rfl rfl rfl ?_)))
          refine RL_some ?_; (refine X_pick rfl rfl ?_)
          refine RL_some ?_; (refine X_move rfl ?_)
          (first | refine RL_off rfl rfl ?_ | refine RL_off' rfl rfl ?_ | (refine RL_on rfl rfl ?_; (refine X_fieldAddr T.fd54_1 rfl ?_)))
          (first | refine RL_off rfl rfl ?_ | refine RL_off' rfl rfl ?_ | (refine RL_on rfl rfl ?_; (refine S_load1 H 2 T.ty3 rfl rfl (v := i64 s.ns) rfl ?_)))
          (first | refine RL_off rfl rfl ?_ | refine RL_off' rfl rfl ?_ | (refine RL_on rfl rfl ?_; (refine X_fieldAddr T.fd51_0 rfl ?_)))
          (first | refine RL_off rfl rfl ?_ | refine RL_off' rfl rfl ?_ | (refine RL_on rfl rfl ?_; (refine X_idxA T.ar48 rfl rfl (by omega) (by omega) ?_)))
          (first | refine RL_off rfl rfl ?_ | refine RL_off' rfl rfl ?_ | (refine RL_on rfl rfl ?_; (refine S_load1 (v := i64 (z.get s.ns.toNat)) H 3 T.ty3 rfl rfl (by rw [Nat.mul_one, Nat.zero_add]; exact dmc_get z v (by omega)) ?_)))
          (first | refine RL_off rfl rfl ?_ | refine RL_off' rfl rfl ?_ | (refine RL_on rfl rfl ?_; (first | refine X_cmp_t rfl rfl rfl (by first | assumption | omega) ?_ | refine X_cmp_f rfl rfl rfl (by first | assumption | omega) ?_ | refine X_bin rfl rfl rfl ?_)))
          refine RL_some ?_; (refine X_pick rfl rfl ?_)
          exact ⟨_, by simp, rfl, ⟨rfl, rfl, rfl, rfl, rfl, trivial⟩, H⟩
      intro q w hq H
      skip
      refine hK9 _ _ (W_keep (Keep.cons 4 rfl (Keep.cons 5 rfl (Keep.cons 6 rfl (Keep.cons 8 rfl (Keep.cons 9 rfl (Keep.cons 51 rfl Keep.nil)))))) ?_)
      obtain rfl : q = true := hq.2 trivial
      refine W_true rfl ?_
      refine W_seq_k fun K10 hK10 => ?_
      refine W_reg rfl ?_
      refine RL_some ?_; (refine S_load H 3 T.ty51 rfl rfl (l := zl z v) rfl (Nat.le_of_ble_eq_true rfl) ?_)
      refine RL_some ?_; (refine X_move rfl ?_)
      refine RL_some ?_; (first | refine X_cmp_t rfl rfl rfl (by first | assumption | omega) ?_ | refine X_cmp_f rfl rfl rfl (by first | assumption | omega) ?_ | refine X_bin rfl rfl rfl ?_)
      refine RL_some ?_; (refine X_move rfl ?_)
      (first | refine RL_off rfl rfl ?_ | refine RL_off' rfl rfl ?_ | (refine RL_on rfl rfl ?_; (refine X_move rfl ?_)))
      (first | refine RL_off rfl rfl ?_ | refine RL_off' rfl rfl ?_ | (refine RL_on rfl rfl ?_; (refine X_len T.sl41 rfl ?_)))
      (first | refine RL_off rfl rfl ?_ | refine RL_off' rfl rfl ?_ | (refine RL_on rfl rfl ?_; (first | refine X_cmp_t rfl rfl rfl (by first | assumption | omega) ?_ | refine X_cmp_f rfl rfl rfl (by first | assumption | omega) ?_ | refine X_bin rfl rfl rfl ?_)))
      refine RL_some ?_; (refine X_pick rfl rfl ?_)
      refine RL_none ?_; (refine S_store (c' := dmc z v) H 1 T.ty51 rfl rfl rfl rfl (Nat.le_of_ble_eq_true rfl) (by show (Nep.one v && true) = true; simp [hv]) rfl ?_; intro w H)
      refine RL_some ?_; (refine X_assign rfl ?_)
      refine hK10 _ _ (W_keep (Keep.cons 6 rfl (Keep.cons 7 rfl Keep.nil)) ?_)
      refine W_ret ?_
      (try simp only [thenQ, blockQ, noGotoQ])
      exact body_list (.inr rfl) rfl (.cell rfl (loadV_agg H 1 T.ty51 rfl (l := zl z v) rfl (Nat.le_of_ble_eq_true rfl)) (.tmp rfl .nil)) (by simp) ⟨m, z, v, cs, rfl, rfl, h, [], (H.dropAt 3).dropAt 2 |>.dropAt 1⟩
    · skip
      refine W_reg rfl ?_
      refine RL_some ?_; (refine X_move rfl ?_)
      refine RL_some ?_; (refine X_fieldAddr T.fd54_1 rfl ?_)
      refine RL_some ?_; (refine S_load1 H 1 T.ty3 rfl rfl (v := i64 s.ns) rfl ?_)
      refine RL_some ?_; (refine X_call T.ent22 rfl (calls_to (h.drop hc (H.foc 3 rfl)) ?_); rintro r w ⟨u, m', rfl, hp, h', H⟩)
      refine RL_some ?_; (refine X_move rfl ?_)
      refine RL_some ?_; (refine X_extract rfl rfl ?_)
      refine RL_some ?_; (refine X_extract rfl rfl ?_)
      refine RL_some ?_; (refine X_assign rfl ?_)
      refine RL_some ?_; (refine X_assign rfl ?_)
      refine hK7 _ _ (W_keep (Keep.cons 4 rfl (Keep.cons 5 rfl (Keep.cons 6 rfl (Keep.cons 8 rfl (Keep.cons 9 rfl Keep.nil))))) ?_)
      refine W_seq_k fun K11 hK11 => ?_
      refine W_seq_k fun K12 hK12 => ?_
      have hne : ¬ (s.ns < 0 ∨ 3 < s.ns ∨ z.get s.ns.toNat = 0) := fun e => hc ((h.empty s.ns).2 e)
      refine W_reg rfl ?_
      refine RL_some ?_; (refine X_fieldAddr T.fd54_1 rfl ?_)
      refine RL_some ?_; (refine S_load1 H 3 T.ty3 rfl rfl (v := i64 s.ns) rfl ?_)
      refine RL_some ?_; (first | refine X_cmp_t rfl rfl rfl (by first | assumption | omega) ?_ | refine X_cmp_f rfl rfl rfl (by first | assumption | omega) ?_ | refine X_bin rfl rfl rfl ?_)
      refine RL_some ?_; (refine X_move rfl ?_)
      (first | refine RL_off rfl rfl ?_ | refine RL_off' rfl rfl ?_ | (refine RL_on rfl rfl ?_; (refine X_fieldAddr T.fd54_1 rfl ?_)))
      (first | refine RL_off rfl rfl ?_ | refine RL_off' rfl rfl ?_ | (refine RL_on rfl rfl ?_; (refine S_load1 H 3 T.ty3 rfl rfl (v := i64 s.ns) rfl ?_)))
      (first | refine RL_off rfl rfl ?_ | refine RL_off' rfl rfl ?_ | (refine RL_on rfl rfl ?_; (first | refine X_cmp_t rfl rfl rfl (by first | assumption | omega) ?_ | refine X_cmp_f rfl rfl rfl (by first | assumption | omega) ?_ | refine X_bin rfl rfl rfl ?_)))
      refine RL_some ?_; (refine X_pick rfl rfl ?_)
      refine RL_some ?_; (refine X_move rfl ?_)
      (first | refine RL_off rfl rfl ?_ | refine RL_off' rfl rfl ?_ | (refine RL_on rfl rfl ?_; (refine X_fieldAddr T.fd54_1 rfl ?_)))
      (first | refine RL_off rfl rfl ?_ | refine RL_off' rfl rfl ?_ | (refine RL_on rfl rfl ?_; (refine S_load1 H 3 T.ty3 rfl rfl (v := i64 s.ns) rfl ?_)))
      (first | refine RL_off rfl rfl ?_ | refine RL_off' rfl rfl ?_ | (refine RL_on rfl rfl ?_; (refine X_fieldAddr T.fd51_0 rfl ?_)))
      (first | refine RL_off rfl rfl ?_ | refine RL_off' rfl rfl ?_ | (refine RL_on rfl rfl ?_; (refine X_idxA T.ar48 rfl rfl (by omega) (by omega) ?_)))
      (first | refine RL_off rfl rfl ?_ | refine RL_off' rfl rfl ?_ | (refine RL_on rfl rfl ?_; (refine S_load1 (v := i64 (z.get s.ns.toNat)) H 4 T.ty3 rfl rfl (by rw [Nat.mul_one, Nat.zero_add]; exact dmc_get z v (by omega)) ?_)))
      (first | refine RL_off rfl rfl ?_ | refine RL_off' rfl rfl ?_ | (refine RL_on rfl rfl ?_; (first | refine X_cmp_t rfl rfl rfl (by first | assumption | omega) ?_ | refine X_cmp_f rfl rfl rfl (by first | assumption | omega) ?_ | refine X_bin rfl rfl rfl ?_)))
      refine RL_some ?_; (refine X_pick rfl rfl ?_)
      refine hK12 _ _ (W_keep (Keep.cons 4 rfl (Keep.cons 5 rfl (Keep.cons 6 rfl (Keep.cons 8 rfl (Keep.cons 9 rfl (Keep.cons 51 rfl Keep.nil)))))) ?_)
      skip
      refine W_false rfl ?_
      refine W_skip ?_
      refine hK11 _ _ (W_keep (Keep.cons 4 rfl (Keep.cons 5 rfl (Keep.cons 6 rfl (Keep.cons 8 rfl (Keep.cons 9 rfl (Keep.cons 51 rfl Keep.nil)))))) ?_)
      refine W_seq_k fun K13 hK13 => ?_
      refine W_reg rfl ?_
      refine RL_some ?_; (refine S_load H 4 T.ty51 rfl rfl (l := zl z v) rfl (Nat.le_of_ble_eq_true rfl) ?_)
      refine RL_some ?_; (refine X_fieldAddr T.fd54_1 rfl ?_)
      refine RL_some ?_; (refine S_load1 H 3 T.ty3 rfl rfl (v := i64 s.ns) rfl ?_)
      refine RL_some ?_; (refine X_call T.ent33 rfl (calls_to (rDrop_spec z v cs s.ns ⟨by omega, by omega⟩ (by omega) (H.foc 5 rfl)) ?_); rintro r w ⟨v', u2, rfl, H⟩; have hv' := (H.swap.tabSl).2)
      refine RL_some ?_; (refine X_move rfl ?_)
      refine RL_some ?_; (refine X_extract rfl rfl ?_)
      refine RL_some ?_; (refine X_extract rfl rfl ?_)
      refine RL_some ?_; (refine S_alloc H T.ze51 ?_; intro b10 w H)
      refine RL_none ?_; (refine S_store (c' := dmc (z.set s.ns.toNat 0) v') H 0 T.ty51 rfl rfl rfl rfl (Nat.le_of_ble_eq_true rfl) (by show (Nep.one v' && true) = true; simp [hv']) rfl ?_; intro w H)
      refine RL_some ?_; (refine X_assign rfl ?_)
      refine hK13 _ _ (W_keep (Keep.cons 6 rfl (Keep.cons 8 rfl (Keep.cons 9 rfl (Keep.cons 10 rfl (Keep.cons 11 rfl Keep.nil))))) ?_)
      refine W_seq_k fun K14 hK14 => ?_
      refine W_draw (.p 0 (.p 1 (.p 2 (.p 3 (.p 4 (.p 5 (.e 6 [0] (.p 7 (.e 8 [7] (.p 9 .nil) .none)) .none))))))) T.mixed rfl ?_
      replace H := H.drew
      apply DD_read rfl rfl; next => ((first | refine S_load H 0 T.ty51 rfl rfl (l := zl (z.set s.ns.toNat 0) v') rfl (Nat.le_of_ble_eq_true rfl) ⟨rfl, rfl⟩ | refine S_load H 1 T.ty51 rfl rfl (l := zl (z.set s.ns.toNat 0) v') rfl (Nat.le_of_ble_eq_true rfl) ⟨rfl, rfl⟩ | refine S_load H 2 T.ty51 rfl rfl (l := zl (z.set s.ns.toNat 0) v') rfl (Nat.le_of_ble_eq_true rfl) ⟨rfl, rfl⟩ | refine S_load H 3 T.ty51 rfl rfl (l := zl (z.set s.ns.toNat 0) v') rfl (Nat.le_of_ble_eq_true rfl) ⟨rfl, rfl⟩ | refine S_load H 4 T.ty51 rfl rfl (l := zl (z.set s.ns.toNat 0) v') rfl (Nat.le_of_ble_eq_true rfl) ⟨rfl, rfl⟩ | refine S_load H 5 T.ty51 rfl rfl (l := zl (z.set s.ns.toNat 0) v') rfl (Nat.le_of_ble_eq_true rfl) ⟨rfl, rfl⟩ | refine S_load H 6 T.ty51 rfl rfl (l := zl (z.set s.ns.toNat 0) v') rfl (Nat.le_of_ble_eq_true rfl) ⟨rfl, rfl⟩ | refine S_load H 7 T.ty51 rfl rfl (l := zl (z.set s.ns.toNat 0) v') rfl (Nat.le_of_ble_eq_true rfl) ⟨rfl, rfl⟩ | refine S_load H 8 T.ty51 rfl rfl (l := zl (z.set s.ns.toNat 0) v') rfl (Nat.le_of_ble_eq_true rfl) ⟨rfl, rfl⟩ | refine S_load H 9 T.ty51 rfl rfl (l := zl (z.set s.ns.toNat 0) v') rfl (Nat.le_of_ble_eq_true rfl) ⟨rfl, rfl⟩))
      apply DD_pure rfl rfl; next => (intro _; refine X_move rfl ⟨rfl, rfl⟩)
      apply DD_pure rfl rfl; next => (intro _; first | refine X_cmp_t rfl rfl rfl (by first | assumption | omega) ⟨rfl, rfl⟩ | refine X_cmp_f rfl rfl rfl (by first | assumption | omega) ⟨rfl, rfl⟩ | refine X_bin rfl rfl rfl ⟨rfl, rfl⟩)
      apply DD_pure rfl rfl; next => (intro _; refine X_move rfl ⟨rfl, rfl⟩)
      (first | refine DD_off rfl rfl rfl rfl ?_ | refine DD_off' rfl rfl rfl rfl ?_ | (apply DD_on rfl rfl rfl rfl; next => (intro _; refine X_move rfl ⟨rfl, rfl⟩)))
      (first | refine DD_off rfl rfl rfl rfl ?_ | refine DD_off' rfl rfl rfl rfl ?_ | (apply DD_on rfl rfl rfl rfl; next => (intro _; refine X_move rfl ⟨rfl, rfl⟩)))
      (first | refine DD_eff_off rfl rfl rfl rfl ?_ | (refine DD_eff_on rfl rfl rfl rfl ?_; (refine X_call T.ent34 rfl (calls_to (places_same _ (hgl _) (H.foc 1 rfl |>.foc 5 rfl)) ?_); rintro r w ⟨rfl, H⟩)))
      refine ⟨?_, ?_⟩; next => (repeat (first | exact rc_nil | refine rc_skip rfl ?_ | refine rc_true ?_ | (refine rc_read ?_ ?_; next => (first | ((first | refine S_load H 0 T.ty51 rfl rfl (l := zl (z.set s.ns.toNat 0) v') rfl (Nat.le_of_ble_eq_true rfl) ⟨rfl, rfl⟩ | refine S_load H 1 T.ty51 rfl rfl (l := zl (z.set s.ns.toNat 0) v') rfl (Nat.le_of_ble_eq_true rfl) ⟨rfl, rfl⟩ | refine S_load H 2 T.ty51 rfl rfl (l := zl (z.set s.ns.toNat 0) v') rfl (Nat.le_of_ble_eq_true rfl) ⟨rfl, rfl⟩ | refine S_load H 3 T.ty51 rfl rfl (l := zl (z.set s.ns.toNat 0) v') rfl (Nat.le_of_ble_eq_true rfl) ⟨rfl, rfl⟩ | refine S_load H 4 T.ty51 rfl rfl (l := zl (z.set s.ns.toNat 0) v') rfl (Nat.le_of_ble_eq_true rfl) ⟨rfl, rfl⟩ | refine S_load H 5 T.ty51 rfl rfl (l := zl (z.set s.ns.toNat 0) v') rfl (Nat.le_of_ble_eq_true rfl) ⟨rfl, rfl⟩ | refine S_load H 6 T.ty51 rfl rfl (l := zl (z.set s.ns.toNat 0) v') rfl (Nat.le_of_ble_eq_true rfl) ⟨rfl, rfl⟩ | refine S_load H 7 T.ty51 rfl rfl (l := zl (z.set s.ns.toNat 0) v') rfl (Nat.le_of_ble_eq_true rfl) ⟨rfl, rfl⟩ | refine S_load H 8 T.ty51 rfl rfl (l := zl (z.set s.ns.toNat 0) v') rfl (Nat.le_of_ble_eq_true rfl) ⟨rfl, rfl⟩ | refine S_load H 9 T.ty51 rfl rfl (l := zl (z.set s.ns.toNat 0) v') rfl (Nat.le_of_ble_eq_true rfl) ⟨rfl, rfl⟩))))))
      apply DD_pure rfl rfl; next => (intro _; refine X_pick rfl rfl ⟨rfl, rfl⟩)
      refine DD_eff rfl rfl ?_; (refine S_store (c' := dmc (z.set s.ns.toNat 0) v') H 6 T.ty51 rfl rfl rfl rfl (Nat.le_of_ble_eq_true rfl) (by show (Nep.one v' && true) = true; simp [hv']) rfl ?_; intro w H)
      refine ⟨by repeat (first | exact rc_nil | refine rc_skip rfl ?_ | refine rc_true ?_), ?_⟩
      apply DD_pure rfl rfl; next => (intro _; refine X_assign rfl ⟨rfl, rfl⟩)
      refine hK14 _ _ (W_keep (Keep.cons 6 rfl (Keep.cons 7 rfl Keep.nil)) ?_)
      refine W_ret ?_
      (try simp only [thenQ, blockQ, noGotoQ])
      exact body_list (.inr rfl) rfl (.cell rfl (loadV_agg H 6 T.ty51 rfl (l := zl (z.set s.ns.toNat 0) v') rfl (Nat.le_of_ble_eq_true rfl)) (.tmp rfl .nil)) (by simp) ⟨m', _, v', _, rfl, hp, h', [_, _, _, _, _, _, _], H.foc 3 rfl |>.foc 5 rfl⟩
  refine W_seq_k fun K15 hK15 => ?_
  refine W_reg rfl ?_
  refine RL_some ?_; (first | refine X_cmp_t rfl rfl rfl (by first | assumption | omega) ?_ | refine X_cmp_f rfl rfl rfl (by first | assumption | omega) ?_ | refine X_bin rfl rfl rfl ?_)
  refine RL_some ?_; (refine X_assign rfl ?_)
  refine hK15 _ _ (W_keep (Keep.cons 0 rfl (Keep.cons 4 rfl (Keep.cons 5 rfl (Keep.cons 6 rfl (Keep.cons 75 rfl Keep.nil))))) ?_)
  refine W_if rfl (fun k3 => ?_) (fun k3 => ?_)
  · skip
    refine W_seq_k fun K16 hK16 => ?_
    by_cases hr : rightS m s.s
    · skip
      refine W_reg rfl ?_
      refine RL_some ?_; (refine X_move rfl ?_)
      refine RL_some ?_; (refine X_fieldAddr T.fd54_3 rfl ?_)
      refine RL_some ?_; (refine S_load H 1 T.ty29 rfl rfl (l := s.s.enc) rfl (Nat.le_of_ble_eq_true rfl) ?_)
      refine RL_some ?_; (refine X_call T.ent14 rfl (calls_to (h.put hok.head hr hrgP (H.foc 3 rfl)) ?_); rintro r w ⟨u, m', rfl, hp, h', H⟩)
      refine RL_some ?_; (refine X_move rfl ?_)
      refine RL_some ?_; (refine X_extract rfl rfl ?_)
      refine RL_some ?_; (refine X_extract rfl rfl ?_)
      refine RL_some ?_; (refine X_assign rfl ?_)
      refine RL_some ?_; (refine X_assign rfl ?_)
      refine hK16 _ _ (W_keep (Keep.cons 4 rfl (Keep.cons 5 rfl (Keep.cons 6 rfl (Keep.cons 12 rfl (Keep.cons 13 rfl Keep.nil))))) ?_)
      refine W_seq_k fun K17 hK17 => ?_
      refine W_seq_k fun K18 hK18 => ?_
      refine W_draw (.p 0 (.p 1 (.p 2 (.e 3 [0] (.e 4 [] (.p 5 .nil) .none) .none)))) T.mixed rfl ?_
      replace H := H.drew
      apply DD_read rfl rfl; next => ((first | refine S_load H 0 T.ty51 rfl rfl (l := zl z v) rfl (Nat.le_of_ble_eq_true rfl) ⟨rfl, rfl⟩ | refine S_load H 1 T.ty51 rfl rfl (l := zl z v) rfl (Nat.le_of_ble_eq_true rfl) ⟨rfl, rfl⟩ | refine S_load H 2 T.ty51 rfl rfl (l := zl z v) rfl (Nat.le_of_ble_eq_true rfl) ⟨rfl, rfl⟩ | refine S_load H 3 T.ty51 rfl rfl (l := zl z v) rfl (Nat.le_of_ble_eq_true rfl) ⟨rfl, rfl⟩ | refine S_load H 4 T.ty51 rfl rfl (l := zl z v) rfl (Nat.le_of_ble_eq_true rfl) ⟨rfl, rfl⟩ | refine S_load H 5 T.ty51 rfl rfl (l := zl z v) rfl (Nat.le_of_ble_eq_true rfl) ⟨rfl, rfl⟩ | refine S_load H 6 T.ty51 rfl rfl (l := zl z v) rfl (Nat.le_of_ble_eq_true rfl) ⟨rfl, rfl⟩ | refine S_load H 7 T.ty51 rfl rfl (l := zl z v) rfl (Nat.le_of_ble_eq_true rfl) ⟨rfl, rfl⟩ | refine S_load H 8 T.ty51 rfl rfl (l := zl z v) rfl (Nat.le_of_ble_eq_true rfl) ⟨rfl, rfl⟩ | refine S_load H 9 T.ty51 rfl rfl (l := zl z v) rfl (Nat.le_of_ble_eq_true rfl) ⟨rfl, rfl⟩))
      apply DD_pure rfl rfl; next => (intro _; refine X_fieldAddr T.fd54_3 rfl ⟨rfl, rfl⟩)
      apply DD_read rfl rfl; next => ((first | refine S_load H 0 T.ty29 rfl rfl (l := s.s.enc) rfl (Nat.le_of_ble_eq_true rfl) ⟨rfl, rfl⟩ | refine S_load H 1 T.ty29 rfl rfl (l := s.s.enc) rfl (Nat.le_of_ble_eq_true rfl) ⟨rfl, rfl⟩ | refine S_load H 2 T.ty29 rfl rfl (l := s.s.enc) rfl (Nat.le_of_ble_eq_true rfl) ⟨rfl, rfl⟩ | refine S_load H 3 T.ty29 rfl rfl (l := s.s.enc) rfl (Nat.le_of_ble_eq_true rfl) ⟨rfl, rfl⟩ | refine S_load H 4 T.ty29 rfl rfl (l := s.s.enc) rfl (Nat.le_of_ble_eq_true rfl) ⟨rfl, rfl⟩ | refine S_load H 5 T.ty29 rfl rfl (l := s.s.enc) rfl (Nat.le_of_ble_eq_true rfl) ⟨rfl, rfl⟩ | refine S_load H 6 T.ty29 rfl rfl (l := s.s.enc) rfl (Nat.le_of_ble_eq_true rfl) ⟨rfl, rfl⟩ | refine S_load H 7 T.ty29 rfl rfl (l := s.s.enc) rfl (Nat.le_of_ble_eq_true rfl) ⟨rfl, rfl⟩ | refine S_load H 8 T.ty29 rfl rfl (l := s.s.enc) rfl (Nat.le_of_ble_eq_true rfl) ⟨rfl, rfl⟩ | refine S_load H 9 T.ty29 rfl rfl (l := s.s.enc) rfl (Nat.le_of_ble_eq_true rfl) ⟨rfl, rfl⟩))
      refine DD_eff rfl rfl ?_; (refine X_call T.ent10 rfl ?_; refine of_calls s.s H rfl ?_; intro w H)
      refine ⟨?_, ?_⟩; next => (repeat (first | exact rc_nil | refine rc_skip rfl ?_ | refine rc_true ?_ | (refine rc_read ?_ ?_; next => (first | ((first | refine S_load H 0 T.ty51 rfl rfl (l := zl z v) rfl (Nat.le_of_ble_eq_true rfl) ⟨rfl, rfl⟩ | refine S_load H 1 T.ty51 rfl rfl (l := zl z v) rfl (Nat.le_of_ble_eq_true rfl) ⟨rfl, rfl⟩ | refine S_load H 2 T.ty51 rfl rfl (l := zl z v) rfl (Nat.le_of_ble_eq_true rfl) ⟨rfl, rfl⟩ | refine S_load H 3 T.ty51 rfl rfl (l := zl z v) rfl (Nat.le_of_ble_eq_true rfl) ⟨rfl, rfl⟩ | refine S_load H 4 T.ty51 rfl rfl (l := zl z v) rfl (Nat.le_of_ble_eq_true rfl) ⟨rfl, rfl⟩ | refine S_load H 5 T.ty51 rfl rfl (l := zl z v) rfl (Nat.le_of_ble_eq_true rfl) ⟨rfl, rfl⟩ | refine S_load H 6 T.ty51 rfl rfl (l := zl z v) rfl (Nat.le_of_ble_eq_true rfl) ⟨rfl, rfl⟩ | refine S_load H 7 T.ty51 rfl rfl (l := zl z v) rfl (Nat.le_of_ble_eq_true rfl) ⟨rfl, rfl⟩ | refine S_load H 8 T.ty51 rfl rfl (l := zl z v) rfl (Nat.le_of_ble_eq_true rfl) ⟨rfl, rfl⟩ | refine S_load H 9 T.ty51 rfl rfl (l := zl z v) rfl (Nat.le_of_ble_eq_true rfl) ⟨rfl, rfl⟩))))))
      refine DD_eff rfl rfl ?_; (refine X_call T.ent35 rfl (calls_to (rRight_spec z v s.s h.zok hok.head H) ?_); rintro r w ⟨rfl, H⟩; rw [decide_eq_true ((h.right s.s).2 hr)])
      refine ⟨by repeat (first | exact rc_nil | refine rc_skip rfl ?_ | refine rc_true ?_), ?_⟩
      apply DD_pure rfl rfl; next => (intro _; refine X_not rfl ⟨rfl, rfl⟩)
      refine hK18 _ _ (W_keep (Keep.cons 4 rfl (Keep.cons 5 rfl (Keep.cons 6 rfl (Keep.cons 12 rfl (Keep.cons 13 rfl (Keep.cons 89 rfl Keep.nil)))))) ?_)
      refine W_false rfl ?_
      refine W_skip ?_
      refine hK17 _ _ (W_keep (Keep.cons 4 rfl (Keep.cons 5 rfl (Keep.cons 6 rfl (Keep.cons 12 rfl (Keep.cons 13 rfl (Keep.cons 89 rfl Keep.nil)))))) ?_)
      refine W_seq_k fun K19 hK19 => ?_
      refine W_thenR (fun pf w => ∃ v' u2 b14, Nep.one v' = true ∧ Keep pf [(6, pt b6 0), (12, u), (13, i64 0), (14, pt b14 0), (15, u2)] ∧ St w0 w (Cs b14 (dmc z v') 51 :: PT u2 (goneL (putD cs s.s) cs) :: CT v' (putD cs s.s) :: CT v cs :: PM m' :: PT u (goneL (putD cs s.s) cs) :: Cs b6 (dmc z0 nilS) 51 :: Cs b5 s.enc.toArray 54 :: Cs b4 (dmc z v) 51 :: L)) ?_ ?_
      · skip
        refine W_draw (.p 0 (.p 1 (.p 2 (.e 3 [0] (.e 4 [] (.p 5 (.p 6 (.p 7 (.e 8 [0, 1, 2, 5, 6, 7] (.e 9 [7] (.p 10 .nil) .none) .none)))) (.e 8 [0, 1, 2] (.e 4 [] (.p 5 (.p 6 (.p 7 (.e 9 [7] (.p 10 .nil) .none)))) .none) .none)) (.e 8 [0, 1, 2] (.e 3 [0] (.e 4 [] (.p 5 (.p 6 (.p 7 (.e 9 [7] (.p 10 .nil) .none)))) .none) .none) .none))))) T.mixed rfl ?_
        replace H := H.drew
        apply DD_read rfl rfl; next => ((first | refine S_load H 0 T.ty51 rfl rfl (l := zl z v) rfl (Nat.le_of_ble_eq_true rfl) ⟨rfl, rfl⟩ | refine S_load H 1 T.ty51 rfl rfl (l := zl z v) rfl (Nat.le_of_ble_eq_true rfl) ⟨rfl, rfl⟩ | refine S_load H 2 T.ty51 rfl rfl (l := zl z v) rfl (Nat.le_of_ble_eq_true rfl) ⟨rfl, rfl⟩ | refine S_load H 3 T.ty51 rfl rfl (l := zl z v) rfl (Nat.le_of_ble_eq_true rfl) ⟨rfl, rfl⟩ | refine S_load H 4 T.ty51 rfl rfl (l := zl z v) rfl (Nat.le_of_ble_eq_true rfl) ⟨rfl, rfl⟩ | refine S_load H 5 T.ty51 rfl rfl (l := zl z v) rfl (Nat.le_of_ble_eq_true rfl) ⟨rfl, rfl⟩ | refine S_load H 6 T.ty51 rfl rfl (l := zl z v) rfl (Nat.le_of_ble_eq_true rfl) ⟨rfl, rfl⟩ | refine S_load H 7 T.ty51 rfl rfl (l := zl z v) rfl (Nat.le_of_ble_eq_true rfl) ⟨rfl, rfl⟩ | refine S_load H 8 T.ty51 rfl rfl (l := zl z v) rfl (Nat.le_of_ble_eq_true rfl) ⟨rfl, rfl⟩ | refine S_load H 9 T.ty51 rfl rfl (l := zl z v) rfl (Nat.le_of_ble_eq_true rfl) ⟨rfl, rfl⟩))
        apply DD_pure rfl rfl; next => (intro _; refine X_fieldAddr T.fd54_3 rfl ⟨rfl, rfl⟩)
        apply DD_read rfl rfl; next => ((first | refine S_load H 0 T.ty29 rfl rfl (l := s.s.enc) rfl (Nat.le_of_ble_eq_true rfl) ⟨rfl, rfl⟩ | refine S_load H 1 T.ty29 rfl rfl (l := s.s.enc) rfl (Nat.le_of_ble_eq_true rfl) ⟨rfl, rfl⟩ | refine S_load H 2 T.ty29 rfl rfl (l := s.s.enc) rfl (Nat.le_of_ble_eq_true rfl) ⟨rfl, rfl⟩ | refine S_load H 3 T.ty29 rfl rfl (l := s.s.enc) rfl (Nat.le_of_ble_eq_true rfl) ⟨rfl, rfl⟩ | refine S_load H 4 T.ty29 rfl rfl (l := s.s.enc) rfl (Nat.le_of_ble_eq_true rfl) ⟨rfl, rfl⟩ | refine S_load H 5 T.ty29 rfl rfl (l := s.s.enc) rfl (Nat.le_of_ble_eq_true rfl) ⟨rfl, rfl⟩ | refine S_load H 6 T.ty29 rfl rfl (l := s.s.enc) rfl (Nat.le_of_ble_eq_true rfl) ⟨rfl, rfl⟩ | refine S_load H 7 T.ty29 rfl rfl (l := s.s.enc) rfl (Nat.le_of_ble_eq_true rfl) ⟨rfl, rfl⟩ | refine S_load H 8 T.ty29 rfl rfl (l := s.s.enc) rfl (Nat.le_of_ble_eq_true rfl) ⟨rfl, rfl⟩ | refine S_load H 9 T.ty29 rfl rfl (l := s.s.enc) rfl (Nat.le_of_ble_eq_true rfl) ⟨rfl, rfl⟩))
        refine DD_alt ?_ ?_
        · skip
          refine DD_eff rfl rfl ?_; (refine X_call T.ent10 rfl ?_; refine of_calls s.s H rfl ?_; intro w H)
          refine ⟨?_, ?_⟩; next => (repeat (first | exact rc_nil | refine rc_skip rfl ?_ | refine rc_true ?_ | (refine rc_read ?_ ?_; next => (first | ((first | refine S_load H 0 T.ty51 rfl rfl (l := zl z v) rfl (Nat.le_of_ble_eq_true rfl) ⟨rfl, rfl⟩ | refine S_load H 1 T.ty51 rfl rfl (l := zl z v) rfl (Nat.le_of_ble_eq_true rfl) ⟨rfl, rfl⟩ | refine S_load H 2 T.ty51 rfl rfl (l := zl z v) rfl (Nat.le_of_ble_eq_true rfl) ⟨rfl, rfl⟩ | refine S_load H 3 T.ty51 rfl rfl (l := zl z v) rfl (Nat.le_of_ble_eq_true rfl) ⟨rfl, rfl⟩ | refine S_load H 4 T.ty51 rfl rfl (l := zl z v) rfl (Nat.le_of_ble_eq_true rfl) ⟨rfl, rfl⟩ | refine S_load H 5 T.ty51 rfl rfl (l := zl z v) rfl (Nat.le_of_ble_eq_true rfl) ⟨rfl, rfl⟩ | refine S_load H 6 T.ty51 rfl rfl (l := zl z v) rfl (Nat.le_of_ble_eq_true rfl) ⟨rfl, rfl⟩ | refine S_load H 7 T.ty51 rfl rfl (l := zl z v) rfl (Nat.le_of_ble_eq_true rfl) ⟨rfl, rfl⟩ | refine S_load H 8 T.ty51 rfl rfl (l := zl z v) rfl (Nat.le_of_ble_eq_true rfl) ⟨rfl, rfl⟩ | refine S_load H 9 T.ty51 rfl rfl (l := zl z v) rfl (Nat.le_of_ble_eq_true rfl) ⟨rfl, rfl⟩))))))
          refine DD_alt ?_ ?_
          · skip
            refine DD_eff rfl rfl ?_; (refine X_call T.ent36 rfl (calls_to (rPut_spec z v cs s.s h.zok hok.head ((h.right s.s).2 hr) (by omega) (by first | exact H.foc 0 rfl | exact H.foc 1 rfl | exact H.foc 2 rfl | exact H.foc 3 rfl | exact H.foc 4 rfl | exact H.foc 5 rfl | exact H.foc 6 rfl | exact H.foc 7 rfl | exact H.foc 8 rfl | exact H.foc 9 rfl | exact H.foc 10 rfl | exact H.foc 11 rfl | exact H.foc 12 rfl | exact H.foc 13 rfl)) ?_); rintro r w ⟨v', u2, rfl, H⟩; have hv' := (H.swap.tabSl).2)
            refine ⟨by repeat (first | exact rc_nil | refine rc_skip rfl ?_ | refine rc_true ?_), ?_⟩
            apply DD_pure rfl rfl; next => (intro _; refine X_move rfl ⟨rfl, rfl⟩)
            apply DD_pure rfl rfl; next => (intro _; refine X_extract rfl rfl ⟨rfl, rfl⟩)
            apply DD_pure rfl rfl; next => (intro _; refine X_extract rfl rfl ⟨rfl, rfl⟩)
            refine DD_eff rfl rfl ?_; (refine S_alloc H T.ze51 ?_; intro b14 w H)
            refine ⟨?_, ?_⟩; next => (repeat (first | exact rc_nil | refine rc_skip rfl ?_ | refine rc_true ?_ | (refine rc_read ?_ ?_; next => (first | ((first | refine S_load H 0 T.ty51 rfl rfl (l := zl z v) rfl (Nat.le_of_ble_eq_true rfl) ⟨rfl, rfl⟩ | refine S_load H 1 T.ty51 rfl rfl (l := zl z v) rfl (Nat.le_of_ble_eq_true rfl) ⟨rfl, rfl⟩ | refine S_load H 2 T.ty51 rfl rfl (l := zl z v) rfl (Nat.le_of_ble_eq_true rfl) ⟨rfl, rfl⟩ | refine S_load H 3 T.ty51 rfl rfl (l := zl z v) rfl (Nat.le_of_ble_eq_true rfl) ⟨rfl, rfl⟩ | refine S_load H 4 T.ty51 rfl rfl (l := zl z v) rfl (Nat.le_of_ble_eq_true rfl) ⟨rfl, rfl⟩ | refine S_load H 5 T.ty51 rfl rfl (l := zl z v) rfl (Nat.le_of_ble_eq_true rfl) ⟨rfl, rfl⟩ | refine S_load H 6 T.ty51 rfl rfl (l := zl z v) rfl (Nat.le_of_ble_eq_true rfl) ⟨rfl, rfl⟩ | refine S_load H 7 T.ty51 rfl rfl (l := zl z v) rfl (Nat.le_of_ble_eq_true rfl) ⟨rfl, rfl⟩ | refine S_load H 8 T.ty51 rfl rfl (l := zl z v) rfl (Nat.le_of_ble_eq_true rfl) ⟨rfl, rfl⟩ | refine S_load H 9 T.ty51 rfl rfl (l := zl z v) rfl (Nat.le_of_ble_eq_true rfl) ⟨rfl, rfl⟩)) | ((first | refine S_load H 0 T.ty29 rfl rfl (l := s.s.enc) rfl (Nat.le_of_ble_eq_true rfl) ⟨rfl, rfl⟩ | refine S_load H 1 T.ty29 rfl rfl (l := s.s.enc) rfl (Nat.le_of_ble_eq_true rfl) ⟨rfl, rfl⟩ | refine S_load H 2 T.ty29 rfl rfl (l := s.s.enc) rfl (Nat.le_of_ble_eq_true rfl) ⟨rfl, rfl⟩ | refine S_load H 3 T.ty29 rfl rfl (l := s.s.enc) rfl (Nat.le_of_ble_eq_true rfl) ⟨rfl, rfl⟩ | refine S_load H 4 T.ty29 rfl rfl (l := s.s.enc) rfl (Nat.le_of_ble_eq_true rfl) ⟨rfl, rfl⟩ | refine S_load H 5 T.ty29 rfl rfl (l := s.s.enc) rfl (Nat.le_of_ble_eq_true rfl) ⟨rfl, rfl⟩ | refine S_load H 6 T.ty29 rfl rfl (l := s.s.enc) rfl (Nat.le_of_ble_eq_true rfl) ⟨rfl, rfl⟩ | refine S_load H 7 T.ty29 rfl rfl (l := s.s.enc) rfl (Nat.le_of_ble_eq_true rfl) ⟨rfl, rfl⟩ | refine S_load H 8 T.ty29 rfl rfl (l := s.s.enc) rfl (Nat.le_of_ble_eq_true rfl) ⟨rfl, rfl⟩ | refine S_load H 9 T.ty29 rfl rfl (l := s.s.enc) rfl (Nat.le_of_ble_eq_true rfl) ⟨rfl, rfl⟩))))))
            refine DD_eff rfl rfl ?_; (((first | refine S_store H 0 T.ty51 rfl rfl rfl rfl (Nat.le_of_ble_eq_true rfl) (by show (Nep.one v' && true) = true; simp [hv']) (c' := dmc z v') rfl ?_ | refine S_store H 1 T.ty51 rfl rfl rfl rfl (Nat.le_of_ble_eq_true rfl) (by show (Nep.one v' && true) = true; simp [hv']) (c' := dmc z v') rfl ?_ | refine S_store H 2 T.ty51 rfl rfl rfl rfl (Nat.le_of_ble_eq_true rfl) (by show (Nep.one v' && true) = true; simp [hv']) (c' := dmc z v') rfl ?_ | refine S_store H 3 T.ty51 rfl rfl rfl rfl (Nat.le_of_ble_eq_true rfl) (by show (Nep.one v' && true) = true; simp [hv']) (c' := dmc z v') rfl ?_ | refine S_store H 4 T.ty51 rfl rfl rfl rfl (Nat.le_of_ble_eq_true rfl) (by show (Nep.one v' && true) = true; simp [hv']) (c' := dmc z v') rfl ?_ | refine S_store H 5 T.ty51 rfl rfl rfl rfl (Nat.le_of_ble_eq_true rfl) (by show (Nep.one v' && true) = true; simp [hv']) (c' := dmc z v') rfl ?_ | refine S_store H 6 T.ty51 rfl rfl rfl rfl (Nat.le_of_ble_eq_true rfl) (by show (Nep.one v' && true) = true; simp [hv']) (c' := dmc z v') rfl ?_ | refine S_store H 7 T.ty51 rfl rfl rfl rfl (Nat.le_of_ble_eq_true rfl) (by show (Nep.one v' && true) = true; simp [hv']) (c' := dmc z v') rfl ?_ | refine S_store H 8 T.ty51 rfl rfl rfl rfl (Nat.le_of_ble_eq_true rfl) (by show (Nep.one v' && true) = true; simp [hv']) (c' := dmc z v') rfl ?_ | refine S_store H 9 T.ty51 rfl rfl rfl rfl (Nat.le_of_ble_eq_true rfl) (by show (Nep.one v' && true) = true; simp [hv']) (c' := dmc z v') rfl ?_); intro w H))
            refine ⟨by repeat (first | exact rc_nil | refine rc_skip rfl ?_ | refine rc_true ?_), ?_⟩
            apply DD_pure rfl rfl; next => (intro _; refine X_assign rfl ⟨rfl, rfl⟩)
            (exact ⟨v', u2, b14, hv', (Keep.cons 6 rfl (Keep.cons 12 rfl (Keep.cons 13 rfl (Keep.cons 14 rfl (Keep.cons 15 rfl Keep.nil))))), (by (refine H.perm ?_; repeat (first | exact List.Perm.refl _ | refine permStep 0 rfl ?_ | refine permStep 1 rfl ?_ | refine permStep 2 rfl ?_ | refine permStep 3 rfl ?_ | refine permStep 4 rfl ?_ | refine permStep 5 rfl ?_ | refine permStep 6 rfl ?_ | refine permStep 7 rfl ?_ | refine permStep 8 rfl ?_ | refine permStep 9 rfl ?_ | refine permStep 10 rfl ?_ | refine permStep 11 rfl ?_ | refine permStep 12 rfl ?_ | refine permStep 13 rfl ?_)))⟩)
          refine DD_eff rfl rfl ?_; (refine S_alloc H T.ze51 ?_; intro b14 w H)
          refine ⟨?_, ?_⟩; next => (repeat (first | exact rc_nil | refine rc_skip rfl ?_ | refine rc_true ?_ | (refine rc_read ?_ ?_; next => (first | ((first | refine S_load H 0 T.ty51 rfl rfl (l := zl z v) rfl (Nat.le_of_ble_eq_true rfl) ⟨rfl, rfl⟩ | refine S_load H 1 T.ty51 rfl rfl (l := zl z v) rfl (Nat.le_of_ble_eq_true rfl) ⟨rfl, rfl⟩ | refine S_load H 2 T.ty51 rfl rfl (l := zl z v) rfl (Nat.le_of_ble_eq_true rfl) ⟨rfl, rfl⟩ | refine S_load H 3 T.ty51 rfl rfl (l := zl z v) rfl (Nat.le_of_ble_eq_true rfl) ⟨rfl, rfl⟩ | refine S_load H 4 T.ty51 rfl rfl (l := zl z v) rfl (Nat.le_of_ble_eq_true rfl) ⟨rfl, rfl⟩ | refine S_load H 5 T.ty51 rfl rfl (l := zl z v) rfl (Nat.le_of_ble_eq_true rfl) ⟨rfl, rfl⟩ | refine S_load H 6 T.ty51 rfl rfl (l := zl z v) rfl (Nat.le_of_ble_eq_true rfl) ⟨rfl, rfl⟩ | refine S_load H 7 T.ty51 rfl rfl (l := zl z v) rfl (Nat.le_of_ble_eq_true rfl) ⟨rfl, rfl⟩ | refine S_load H 8 T.ty51 rfl rfl (l := zl z v) rfl (Nat.le_of_ble_eq_true rfl) ⟨rfl, rfl⟩ | refine S_load H 9 T.ty51 rfl rfl (l := zl z v) rfl (Nat.le_of_ble_eq_true rfl) ⟨rfl, rfl⟩)) | ((first | refine S_load H 0 T.ty29 rfl rfl (l := s.s.enc) rfl (Nat.le_of_ble_eq_true rfl) ⟨rfl, rfl⟩ | refine S_load H 1 T.ty29 rfl rfl (l := s.s.enc) rfl (Nat.le_of_ble_eq_true rfl) ⟨rfl, rfl⟩ | refine S_load H 2 T.ty29 rfl rfl (l := s.s.enc) rfl (Nat.le_of_ble_eq_true rfl) ⟨rfl, rfl⟩ | refine S_load H 3 T.ty29 rfl rfl (l := s.s.enc) rfl (Nat.le_of_ble_eq_true rfl) ⟨rfl, rfl⟩ | refine S_load H 4 T.ty29 rfl rfl (l := s.s.enc) rfl (Nat.le_of_ble_eq_true rfl) ⟨rfl, rfl⟩ | refine S_load H 5 T.ty29 rfl rfl (l := s.s.enc) rfl (Nat.le_of_ble_eq_true rfl) ⟨rfl, rfl⟩ | refine S_load H 6 T.ty29 rfl rfl (l := s.s.enc) rfl (Nat.le_of_ble_eq_true rfl) ⟨rfl, rfl⟩ | refine S_load H 7 T.ty29 rfl rfl (l := s.s.enc) rfl (Nat.le_of_ble_eq_true rfl) ⟨rfl, rfl⟩ | refine S_load H 8 T.ty29 rfl rfl (l := s.s.enc) rfl (Nat.le_of_ble_eq_true rfl) ⟨rfl, rfl⟩ | refine S_load H 9 T.ty29 rfl rfl (l := s.s.enc) rfl (Nat.le_of_ble_eq_true rfl) ⟨rfl, rfl⟩))))))
          refine DD_eff rfl rfl ?_; (refine X_call T.ent36 rfl (calls_to (rPut_spec z v cs s.s h.zok hok.head ((h.right s.s).2 hr) (by omega) (by first | exact H.foc 0 rfl | exact H.foc 1 rfl | exact H.foc 2 rfl | exact H.foc 3 rfl | exact H.foc 4 rfl | exact H.foc 5 rfl | exact H.foc 6 rfl | exact H.foc 7 rfl | exact H.foc 8 rfl | exact H.foc 9 rfl | exact H.foc 10 rfl | exact H.foc 11 rfl | exact H.foc 12 rfl | exact H.foc 13 rfl)) ?_); rintro r w ⟨v', u2, rfl, H⟩; have hv' := (H.swap.tabSl).2)
          refine ⟨by repeat (first | exact rc_nil | refine rc_skip rfl ?_ | refine rc_true ?_), ?_⟩
          apply DD_pure rfl rfl; next => (intro _; refine X_move rfl ⟨rfl, rfl⟩)
          apply DD_pure rfl rfl; next => (intro _; refine X_extract rfl rfl ⟨rfl, rfl⟩)
          apply DD_pure rfl rfl; next => (intro _; refine X_extract rfl rfl ⟨rfl, rfl⟩)
          refine DD_eff rfl rfl ?_; (((first | refine S_store H 0 T.ty51 rfl rfl rfl rfl (Nat.le_of_ble_eq_true rfl) (by show (Nep.one v' && true) = true; simp [hv']) (c' := dmc z v') rfl ?_ | refine S_store H 1 T.ty51 rfl rfl rfl rfl (Nat.le_of_ble_eq_true rfl) (by show (Nep.one v' && true) = true; simp [hv']) (c' := dmc z v') rfl ?_ | refine S_store H 2 T.ty51 rfl rfl rfl rfl (Nat.le_of_ble_eq_true rfl) (by show (Nep.one v' && true) = true; simp [hv']) (c' := dmc z v') rfl ?_ | refine S_store H 3 T.ty51 rfl rfl rfl rfl (Nat.le_of_ble_eq_true rfl) (by show (Nep.one v' && true) = true; simp [hv']) (c' := dmc z v') rfl ?_ | refine S_store H 4 T.ty51 rfl rfl rfl rfl (Nat.le_of_ble_eq_true rfl) (by show (Nep.one v' && true) = true; simp [hv']) (c' := dmc z v') rfl ?_ | refine S_store H 5 T.ty51 rfl rfl rfl rfl (Nat.le_of_ble_eq_true rfl) (by show (Nep.one v' && true) = true; simp [hv']) (c' := dmc z v') rfl ?_ | refine S_store H 6 T.ty51 rfl rfl rfl rfl (Nat.le_of_ble_eq_true rfl) (by show (Nep.one v' && true) = true; simp [hv']) (c' := dmc z v') rfl ?_ | refine S_store H 7 T.ty51 rfl rfl rfl rfl (Nat.le_of_ble_eq_true rfl) (by show (Nep.one v' && true) = true; simp [hv']) (c' := dmc z v') rfl ?_ | refine S_store H 8 T.ty51 rfl rfl rfl rfl (Nat.le_of_ble_eq_true rfl) (by show (Nep.one v' && true) = true; simp [hv']) (c' := dmc z v') rfl ?_ | refine S_store H 9 T.ty51 rfl rfl rfl rfl (Nat.le_of_ble_eq_true rfl) (by show (Nep.one v' && true) = true; simp [hv']) (c' := dmc z v') rfl ?_); intro w H))
          refine ⟨by repeat (first | exact rc_nil | refine rc_skip rfl ?_ | refine rc_true ?_), ?_⟩
          apply DD_pure rfl rfl; next => (intro _; refine X_assign rfl ⟨rfl, rfl⟩)
          (exact ⟨v', u2, b14, hv', (Keep.cons 6 rfl (Keep.cons 12 rfl (Keep.cons 13 rfl (Keep.cons 14 rfl (Keep.cons 15 rfl Keep.nil))))), (by (refine H.perm ?_; repeat (first | exact List.Perm.refl _ | refine permStep 0 rfl ?_ | refine permStep 1 rfl ?_ | refine permStep 2 rfl ?_ | refine permStep 3 rfl ?_ | refine permStep 4 rfl ?_ | refine permStep 5 rfl ?_ | refine permStep 6 rfl ?_ | refine permStep 7 rfl ?_ | refine permStep 8 rfl ?_ | refine permStep 9 rfl ?_ | refine permStep 10 rfl ?_ | refine permStep 11 rfl ?_ | refine permStep 12 rfl ?_ | refine permStep 13 rfl ?_)))⟩)
        refine DD_eff rfl rfl ?_; (refine S_alloc H T.ze51 ?_; intro b14 w H)
        refine ⟨?_, ?_⟩; next => (repeat (first | exact rc_nil | refine rc_skip rfl ?_ | refine rc_true ?_ | (refine rc_read ?_ ?_; next => (first | ((first | refine S_load H 0 T.ty51 rfl rfl (l := zl z v) rfl (Nat.le_of_ble_eq_true rfl) ⟨rfl, rfl⟩ | refine S_load H 1 T.ty51 rfl rfl (l := zl z v) rfl (Nat.le_of_ble_eq_true rfl) ⟨rfl, rfl⟩ | refine S_load H 2 T.ty51 rfl rfl (l := zl z v) rfl (Nat.le_of_ble_eq_true rfl) ⟨rfl, rfl⟩ | refine S_load H 3 T.ty51 rfl rfl (l := zl z v) rfl (Nat.le_of_ble_eq_true rfl) ⟨rfl, rfl⟩ | refine S_load H 4 T.ty51 rfl rfl (l := zl z v) rfl (Nat.le_of_ble_eq_true rfl) ⟨rfl, rfl⟩ | refine S_load H 5 T.ty51 rfl rfl (l := zl z v) rfl (Nat.le_of_ble_eq_true rfl) ⟨rfl, rfl⟩ | refine S_load H 6 T.ty51 rfl rfl (l := zl z v) rfl (Nat.le_of_ble_eq_true rfl) ⟨rfl, rfl⟩ | refine S_load H 7 T.ty51 rfl rfl (l := zl z v) rfl (Nat.le_of_ble_eq_true rfl) ⟨rfl, rfl⟩ | refine S_load H 8 T.ty51 rfl rfl (l := zl z v) rfl (Nat.le_of_ble_eq_true rfl) ⟨rfl, rfl⟩ | refine S_load H 9 T.ty51 rfl rfl (l := zl z v) rfl (Nat.le_of_ble_eq_true rfl) ⟨rfl, rfl⟩)) | ((first | refine S_load H 0 T.ty29 rfl rfl (l := s.s.enc) rfl (Nat.le_of_ble_eq_true rfl) ⟨rfl, rfl⟩ | refine S_load H 1 T.ty29 rfl rfl (l := s.s.enc) rfl (Nat.le_of_ble_eq_true rfl) ⟨rfl, rfl⟩ | refine S_load H 2 T.ty29 rfl rfl (l := s.s.enc) rfl (Nat.le_of_ble_eq_true rfl) ⟨rfl, rfl⟩ | refine S_load H 3 T.ty29 rfl rfl (l := s.s.enc) rfl (Nat.le_of_ble_eq_true rfl) ⟨rfl, rfl⟩ | refine S_load H 4 T.ty29 rfl rfl (l := s.s.enc) rfl (Nat.le_of_ble_eq_true rfl) ⟨rfl, rfl⟩ | refine S_load H 5 T.ty29 rfl rfl (l := s.s.enc) rfl (Nat.le_of_ble_eq_true rfl) ⟨rfl, rfl⟩ | refine S_load H 6 T.ty29 rfl rfl (l := s.s.enc) rfl (Nat.le_of_ble_eq_true rfl) ⟨rfl, rfl⟩ | refine S_load H 7 T.ty29 rfl rfl (l := s.s.enc) rfl (Nat.le_of_ble_eq_true rfl) ⟨rfl, rfl⟩ | refine S_load H 8 T.ty29 rfl rfl (l := s.s.enc) rfl (Nat.le_of_ble_eq_true rfl) ⟨rfl, rfl⟩ | refine S_load H 9 T.ty29 rfl rfl (l := s.s.enc) rfl (Nat.le_of_ble_eq_true rfl) ⟨rfl, rfl⟩))))))
        refine DD_eff rfl rfl ?_; (refine X_call T.ent10 rfl ?_; refine of_calls s.s H rfl ?_; intro w H)
        refine ⟨?_, ?_⟩; next => (repeat (first | exact rc_nil | refine rc_skip rfl ?_ | refine rc_true ?_ | (refine rc_read ?_ ?_; next => (first | ((first | refine S_load H 0 T.ty51 rfl rfl (l := zl z v) rfl (Nat.le_of_ble_eq_true rfl) ⟨rfl, rfl⟩ | refine S_load H 1 T.ty51 rfl rfl (l := zl z v) rfl (Nat.le_of_ble_eq_true rfl) ⟨rfl, rfl⟩ | refine S_load H 2 T.ty51 rfl rfl (l := zl z v) rfl (Nat.le_of_ble_eq_true rfl) ⟨rfl, rfl⟩ | refine S_load H 3 T.ty51 rfl rfl (l := zl z v) rfl (Nat.le_of_ble_eq_true rfl) ⟨rfl, rfl⟩ | refine S_load H 4 T.ty51 rfl rfl (l := zl z v) rfl (Nat.le_of_ble_eq_true rfl) ⟨rfl, rfl⟩ | refine S_load H 5 T.ty51 rfl rfl (l := zl z v) rfl (Nat.le_of_ble_eq_true rfl) ⟨rfl, rfl⟩ | refine S_load H 6 T.ty51 rfl rfl (l := zl z v) rfl (Nat.le_of_ble_eq_true rfl) ⟨rfl, rfl⟩ | refine S_load H 7 T.ty51 rfl rfl (l := zl z v) rfl (Nat.le_of_ble_eq_true rfl) ⟨rfl, rfl⟩ | refine S_load H 8 T.ty51 rfl rfl (l := zl z v) rfl (Nat.le_of_ble_eq_true rfl) ⟨rfl, rfl⟩ | refine S_load H 9 T.ty51 rfl rfl (l := zl z v) rfl (Nat.le_of_ble_eq_true rfl) ⟨rfl, rfl⟩))))))
        refine DD_eff rfl rfl ?_; (refine X_call T.ent36 rfl (calls_to (rPut_spec z v cs s.s h.zok hok.head ((h.right s.s).2 hr) (by omega) (by first | exact H.foc 0 rfl | exact H.foc 1 rfl | exact H.foc 2 rfl | exact H.foc 3 rfl | exact H.foc 4 rfl | exact H.foc 5 rfl | exact H.foc 6 rfl | exact H.foc 7 rfl | exact H.foc 8 rfl | exact H.foc 9 rfl | exact H.foc 10 rfl | exact H.foc 11 rfl | exact H.foc 12 rfl | exact H.foc 13 rfl)) ?_); rintro r w ⟨v', u2, rfl, H⟩; have hv' := (H.swap.tabSl).2)
        refine ⟨by repeat (first | exact rc_nil | refine rc_skip rfl ?_ | refine rc_true ?_), ?_⟩
        apply DD_pure rfl rfl; next => (intro _; refine X_move rfl ⟨rfl, rfl⟩)
        apply DD_pure rfl rfl; next => (intro _; refine X_extract rfl rfl ⟨rfl, rfl⟩)
        apply DD_pure rfl rfl; next => (intro _; refine X_extract rfl rfl ⟨rfl, rfl⟩)
        refine DD_eff rfl rfl ?_; (((first | refine S_store H 0 T.ty51 rfl rfl rfl rfl (Nat.le_of_ble_eq_true rfl) (by show (Nep.one v' && true) = true; simp [hv']) (c' := dmc z v') rfl ?_ | refine S_store H 1 T.ty51 rfl rfl rfl rfl (Nat.le_of_ble_eq_true rfl) (by show (Nep.one v' && true) = true; simp [hv']) (c' := dmc z v') rfl ?_ | refine S_store H 2 T.ty51 rfl rfl rfl rfl (Nat.le_of_ble_eq_true rfl) (by show (Nep.one v' && true) = true; simp [hv']) (c' := dmc z v') rfl ?_ | refine S_store H 3 T.ty51 rfl rfl rfl rfl (Nat.le_of_ble_eq_true rfl) (by show (Nep.one v' && true) = true; simp [hv']) (c' := dmc z v') rfl ?_ | refine S_store H 4 T.ty51 rfl rfl rfl rfl (Nat.le_of_ble_eq_true rfl) (by show (Nep.one v' && true) = true; simp [hv']) (c' := dmc z v') rfl ?_ | refine S_store H 5 T.ty51 rfl rfl rfl rfl (Nat.le_of_ble_eq_true rfl) (by show (Nep.one v' && true) = true; simp [hv']) (c' := dmc z v') rfl ?_ | refine S_store H 6 T.ty51 rfl rfl rfl rfl (Nat.le_of_ble_eq_true rfl) (by show (Nep.one v' && true) = true; simp [hv']) (c' := dmc z v') rfl ?_ | refine S_store H 7 T.ty51 rfl rfl rfl rfl (Nat.le_of_ble_eq_true rfl) (by show (Nep.one v' && true) = true; simp [hv']) (c' := dmc z v') rfl ?_ | refine S_store H 8 T.ty51 rfl rfl rfl rfl (Nat.le_of_ble_eq_true rfl) (by show (Nep.one v' && true) = true; simp [hv']) (c' := dmc z v') rfl ?_ | refine S_store H 9 T.ty51 rfl rfl rfl rfl (Nat.le_of_ble_eq_true rfl) (by show (Nep.one v' && true) = true; simp [hv']) (c' := dmc z v') rfl ?_); intro w H))
        refine ⟨by repeat (first | exact rc_nil | refine rc_skip rfl ?_ | refine rc_true ?_), ?_⟩
        apply DD_pure rfl rfl; next => (intro _; refine X_assign rfl ⟨rfl, rfl⟩)
        (exact ⟨v', u2, b14, hv', (Keep.cons 6 rfl (Keep.cons 12 rfl (Keep.cons 13 rfl (Keep.cons 14 rfl (Keep.cons 15 rfl Keep.nil))))), (by (refine H.perm ?_; repeat (first | exact List.Perm.refl _ | refine permStep 0 rfl ?_ | refine permStep 1 rfl ?_ | refine permStep 2 rfl ?_ | refine permStep 3 rfl ?_ | refine permStep 4 rfl ?_ | refine permStep 5 rfl ?_ | refine permStep 6 rfl ?_ | refine permStep 7 rfl ?_ | refine permStep 8 rfl ?_ | refine permStep 9 rfl ?_ | refine permStep 10 rfl ?_ | refine permStep 11 rfl ?_ | refine permStep 12 rfl ?_ | refine permStep 13 rfl ?_)))⟩)
      rintro pf w ⟨v', u2, b14, hv', hpf, H⟩
      refine hK19 _ _ (W_keep hpf ?_)
      refine W_seq_k fun K20 hK20 => ?_
      refine W_draw (.p 0 (.p 1 (.p 2 (.p 3 (.p 4 (.p 5 (.e 6 [0] (.p 7 (.e 8 [7] (.p 9 .nil) .none)) .none))))))) T.mixed rfl ?_
      replace H := H.drew
      apply DD_read rfl rfl; next => ((first | refine S_load H 0 T.ty51 rfl rfl (l := zl z v') rfl (Nat.le_of_ble_eq_true rfl) ⟨rfl, rfl⟩ | refine S_load H 1 T.ty51 rfl rfl (l := zl z v') rfl (Nat.le_of_ble_eq_true rfl) ⟨rfl, rfl⟩ | refine S_load H 2 T.ty51 rfl rfl (l := zl z v') rfl (Nat.le_of_ble_eq_true rfl) ⟨rfl, rfl⟩ | refine S_load H 3 T.ty51 rfl rfl (l := zl z v') rfl (Nat.le_of_ble_eq_true rfl) ⟨rfl, rfl⟩ | refine S_load H 4 T.ty51 rfl rfl (l := zl z v') rfl (Nat.le_of_ble_eq_true rfl) ⟨rfl, rfl⟩ | refine S_load H 5 T.ty51 rfl rfl (l := zl z v') rfl (Nat.le_of_ble_eq_true rfl) ⟨rfl, rfl⟩ | refine S_load H 6 T.ty51 rfl rfl (l := zl z v') rfl (Nat.le_of_ble_eq_true rfl) ⟨rfl, rfl⟩ | refine S_load H 7 T.ty51 rfl rfl (l := zl z v') rfl (Nat.le_of_ble_eq_true rfl) ⟨rfl, rfl⟩ | refine S_load H 8 T.ty51 rfl rfl (l := zl z v') rfl (Nat.le_of_ble_eq_true rfl) ⟨rfl, rfl⟩ | refine S_load H 9 T.ty51 rfl rfl (l := zl z v') rfl (Nat.le_of_ble_eq_true rfl) ⟨rfl, rfl⟩))
      apply DD_pure rfl rfl; next => (intro _; refine X_move rfl ⟨rfl, rfl⟩)
      apply DD_pure rfl rfl; next => (intro _; first | refine X_cmp_t rfl rfl rfl (by first | assumption | omega) ⟨rfl, rfl⟩ | refine X_cmp_f rfl rfl rfl (by first | assumption | omega) ⟨rfl, rfl⟩ | refine X_bin rfl rfl rfl ⟨rfl, rfl⟩)
      apply DD_pure rfl rfl; next => (intro _; refine X_move rfl ⟨rfl, rfl⟩)
      (first | refine DD_off rfl rfl rfl rfl ?_ | refine DD_off' rfl rfl rfl rfl ?_ | (apply DD_on rfl rfl rfl rfl; next => (intro _; refine X_move rfl ⟨rfl, rfl⟩)))
      (first | refine DD_off rfl rfl rfl rfl ?_ | refine DD_off' rfl rfl rfl rfl ?_ | (apply DD_on rfl rfl rfl rfl; next => (intro _; refine X_move rfl ⟨rfl, rfl⟩)))
      (first | refine DD_eff_off rfl rfl rfl rfl ?_ | (refine DD_eff_on rfl rfl rfl rfl ?_; (refine X_call T.ent34 rfl (calls_to (places_same _ (hgl _) (H.foc 1 rfl |>.foc 5 rfl)) ?_); rintro r w ⟨rfl, H⟩)))
      refine ⟨?_, ?_⟩; next => (repeat (first | exact rc_nil | refine rc_skip rfl ?_ | refine rc_true ?_ | (refine rc_read ?_ ?_; next => (first | ((first | refine S_load H 0 T.ty51 rfl rfl (l := zl z v') rfl (Nat.le_of_ble_eq_true rfl) ⟨rfl, rfl⟩ | refine S_load H 1 T.ty51 rfl rfl (l := zl z v') rfl (Nat.le_of_ble_eq_true rfl) ⟨rfl, rfl⟩ | refine S_load H 2 T.ty51 rfl rfl (l := zl z v') rfl (Nat.le_of_ble_eq_true rfl) ⟨rfl, rfl⟩ | refine S_load H 3 T.ty51 rfl rfl (l := zl z v') rfl (Nat.le_of_ble_eq_true rfl) ⟨rfl, rfl⟩ | refine S_load H 4 T.ty51 rfl rfl (l := zl z v') rfl (Nat.le_of_ble_eq_true rfl) ⟨rfl, rfl⟩ | refine S_load H 5 T.ty51 rfl rfl (l := zl z v') rfl (Nat.le_of_ble_eq_true rfl) ⟨rfl, rfl⟩ | refine S_load H 6 T.ty51 rfl rfl (l := zl z v') rfl (Nat.le_of_ble_eq_true rfl) ⟨rfl, rfl⟩ | refine S_load H 7 T.ty51 rfl rfl (l := zl z v') rfl (Nat.le_of_ble_eq_true rfl) ⟨rfl, rfl⟩ | refine S_load H 8 T.ty51 rfl rfl (l := zl z v') rfl (Nat.le_of_ble_eq_true rfl) ⟨rfl, rfl⟩ | refine S_load H 9 T.ty51 rfl rfl (l := zl z v') rfl (Nat.le_of_ble_eq_true rfl) ⟨rfl, rfl⟩))))))
      apply DD_pure rfl rfl; next => (intro _; refine X_pick rfl rfl ⟨rfl, rfl⟩)
      refine DD_eff rfl rfl ?_; (refine S_store (c' := dmc z v') H 6 T.ty51 rfl rfl rfl rfl (Nat.le_of_ble_eq_true rfl) (by show (Nep.one v' && true) = true; simp [hv']) rfl ?_; intro w H)
      refine ⟨by repeat (first | exact rc_nil | refine rc_skip rfl ?_ | refine rc_true ?_), ?_⟩
      apply DD_pure rfl rfl; next => (intro _; refine X_assign rfl ⟨rfl, rfl⟩)
      refine hK20 _ _ (W_keep (Keep.cons 6 rfl (Keep.cons 7 rfl Keep.nil)) ?_)
      refine W_ret ?_
      (try simp only [thenQ, blockQ, noGotoQ])
      exact body_list (.inr rfl) rfl (.cell rfl (loadV_agg H 6 T.ty51 rfl (l := zl z v') rfl (Nat.le_of_ble_eq_true rfl)) (.tmp rfl .nil)) (by simp) ⟨m', _, v', _, rfl, hp, h', [_, _, _, _, _, _, _], H.foc 3 rfl |>.foc 5 rfl⟩
    · skip
      refine W_reg rfl ?_
      refine RL_some ?_; (refine X_move rfl ?_)
      refine RL_some ?_; (refine X_fieldAddr T.fd54_3 rfl ?_)
      refine RL_some ?_; (refine S_load H 1 T.ty29 rfl rfl (l := s.s.enc) rfl (Nat.le_of_ble_eq_true rfl) ?_)
      refine RL_some ?_; (refine X_call T.ent14 rfl (calls_to (Put_pmBad m s.s hok.head hr hsn (H.foc 3 rfl)) ?_); rintro r w ⟨rfl, H⟩)
      refine RL_some ?_; (refine X_move rfl ?_)
      refine RL_some ?_; (refine X_extract rfl rfl ?_)
      refine RL_some ?_; (refine X_extract rfl rfl ?_)
      refine RL_some ?_; (refine X_assign rfl ?_)
      refine RL_some ?_; (refine X_assign rfl ?_)
      refine hK16 _ _ (W_keep (Keep.cons 4 rfl (Keep.cons 5 rfl (Keep.cons 6 rfl (Keep.cons 12 rfl (Keep.cons 13 rfl Keep.nil))))) ?_)
      refine W_seq_k fun K21 hK21 => ?_
      refine W_seq_k fun K22 hK22 => ?_
      refine W_draw (.p 0 (.p 1 (.p 2 (.e 3 [0] (.e 4 [] (.p 5 .nil) .none) .none)))) T.mixed rfl ?_
      replace H := H.drew
      apply DD_read rfl rfl; next => ((first | refine S_load H 0 T.ty51 rfl rfl (l := zl z v) rfl (Nat.le_of_ble_eq_true rfl) ⟨rfl, rfl⟩ | refine S_load H 1 T.ty51 rfl rfl (l := zl z v) rfl (Nat.le_of_ble_eq_true rfl) ⟨rfl, rfl⟩ | refine S_load H 2 T.ty51 rfl rfl (l := zl z v) rfl (Nat.le_of_ble_eq_true rfl) ⟨rfl, rfl⟩ | refine S_load H 3 T.ty51 rfl rfl (l := zl z v) rfl (Nat.le_of_ble_eq_true rfl) ⟨rfl, rfl⟩ | refine S_load H 4 T.ty51 rfl rfl (l := zl z v) rfl (Nat.le_of_ble_eq_true rfl) ⟨rfl, rfl⟩ | refine S_load H 5 T.ty51 rfl rfl (l := zl z v) rfl (Nat.le_of_ble_eq_true rfl) ⟨rfl, rfl⟩ | refine S_load H 6 T.ty51 rfl rfl (l := zl z v) rfl (Nat.le_of_ble_eq_true rfl) ⟨rfl, rfl⟩ | refine S_load H 7 T.ty51 rfl rfl (l := zl z v) rfl (Nat.le_of_ble_eq_true rfl) ⟨rfl, rfl⟩ | refine S_load H 8 T.ty51 rfl rfl (l := zl z v) rfl (Nat.le_of_ble_eq_true rfl) ⟨rfl, rfl⟩ | refine S_load H 9 T.ty51 rfl rfl (l := zl z v) rfl (Nat.le_of_ble_eq_true rfl) ⟨rfl, rfl⟩))
      apply DD_pure rfl rfl; next => (intro _; refine X_fieldAddr T.fd54_3 rfl ⟨rfl, rfl⟩)
      apply DD_read rfl rfl; next => ((first | refine S_load H 0 T.ty29 rfl rfl (l := s.s.enc) rfl (Nat.le_of_ble_eq_true rfl) ⟨rfl, rfl⟩ | refine S_load H 1 T.ty29 rfl rfl (l := s.s.enc) rfl (Nat.le_of_ble_eq_true rfl) ⟨rfl, rfl⟩ | refine S_load H 2 T.ty29 rfl rfl (l := s.s.enc) rfl (Nat.le_of_ble_eq_true rfl) ⟨rfl, rfl⟩ | refine S_load H 3 T.ty29 rfl rfl (l := s.s.enc) rfl (Nat.le_of_ble_eq_true rfl) ⟨rfl, rfl⟩ | refine S_load H 4 T.ty29 rfl rfl (l := s.s.enc) rfl (Nat.le_of_ble_eq_true rfl) ⟨rfl, rfl⟩ | refine S_load H 5 T.ty29 rfl rfl (l := s.s.enc) rfl (Nat.le_of_ble_eq_true rfl) ⟨rfl, rfl⟩ | refine S_load H 6 T.ty29 rfl rfl (l := s.s.enc) rfl (Nat.le_of_ble_eq_true rfl) ⟨rfl, rfl⟩ | refine S_load H 7 T.ty29 rfl rfl (l := s.s.enc) rfl (Nat.le_of_ble_eq_true rfl) ⟨rfl, rfl⟩ | refine S_load H 8 T.ty29 rfl rfl (l := s.s.enc) rfl (Nat.le_of_ble_eq_true rfl) ⟨rfl, rfl⟩ | refine S_load H 9 T.ty29 rfl rfl (l := s.s.enc) rfl (Nat.le_of_ble_eq_true rfl) ⟨rfl, rfl⟩))
      refine DD_eff rfl rfl ?_; (refine X_call T.ent10 rfl ?_; refine of_calls s.s H rfl ?_; intro w H)
      refine ⟨?_, ?_⟩; next => (repeat (first | exact rc_nil | refine rc_skip rfl ?_ | refine rc_true ?_ | (refine rc_read ?_ ?_; next => (first | ((first | refine S_load H 0 T.ty51 rfl rfl (l := zl z v) rfl (Nat.le_of_ble_eq_true rfl) ⟨rfl, rfl⟩ | refine S_load H 1 T.ty51 rfl rfl (l := zl z v) rfl (Nat.le_of_ble_eq_true rfl) ⟨rfl, rfl⟩ | refine S_load H 2 T.ty51 rfl rfl (l := zl z v) rfl (Nat.le_of_ble_eq_true rfl) ⟨rfl, rfl⟩ | refine S_load H 3 T.ty51 rfl rfl (l := zl z v) rfl (Nat.le_of_ble_eq_true rfl) ⟨rfl, rfl⟩ | refine S_load H 4 T.ty51 rfl rfl (l := zl z v) rfl (Nat.le_of_ble_eq_true rfl) ⟨rfl, rfl⟩ | refine S_load H 5 T.ty51 rfl rfl (l := zl z v) rfl (Nat.le_of_ble_eq_true rfl) ⟨rfl, rfl⟩ | refine S_load H 6 T.ty51 rfl rfl (l := zl z v) rfl (Nat.le_of_ble_eq_true rfl) ⟨rfl, rfl⟩ | refine S_load H 7 T.ty51 rfl rfl (l := zl z v) rfl (Nat.le_of_ble_eq_true rfl) ⟨rfl, rfl⟩ | refine S_load H 8 T.ty51 rfl rfl (l := zl z v) rfl (Nat.le_of_ble_eq_true rfl) ⟨rfl, rfl⟩ | refine S_load H 9 T.ty51 rfl rfl (l := zl z v) rfl (Nat.le_of_ble_eq_true rfl) ⟨rfl, rfl⟩))))))
      refine DD_eff rfl rfl ?_; (refine X_call T.ent35 rfl (calls_to (rRight_spec z v s.s h.zok hok.head H) ?_); rintro r w ⟨rfl, H⟩; rw [decide_eq_false (fun e => hr ((h.right s.s).1 e))])
      refine ⟨by repeat (first | exact rc_nil | refine rc_skip rfl ?_ | refine rc_true ?_), ?_⟩
      apply DD_pure rfl rfl; next => (intro _; refine X_not rfl ⟨rfl, rfl⟩)
      refine hK22 _ _ (W_keep (Keep.cons 4 rfl (Keep.cons 5 rfl (Keep.cons 6 rfl (Keep.cons 12 rfl (Keep.cons 13 rfl (Keep.cons 89 rfl Keep.nil)))))) ?_)
      refine W_true rfl ?_
      refine W_seq_k fun K23 hK23 => ?_
      refine W_reg rfl ?_
      refine RL_some ?_; (refine S_load H 3 T.ty51 rfl rfl (l := zl z v) rfl (Nat.le_of_ble_eq_true rfl) ?_)
      refine RL_some ?_; (refine X_move rfl ?_)
      refine RL_some ?_; (first | refine X_cmp_t rfl rfl rfl (by first | assumption | omega) ?_ | refine X_cmp_f rfl rfl rfl (by first | assumption | omega) ?_ | refine X_bin rfl rfl rfl ?_)
      refine RL_some ?_; (refine X_move rfl ?_)
      (first | refine RL_off rfl rfl ?_ | refine RL_off' rfl rfl ?_ | (refine RL_on rfl rfl ?_; (refine X_move rfl ?_)))
      (first | refine RL_off rfl rfl ?_ | refine RL_off' rfl rfl ?_ | (refine RL_on rfl rfl ?_; (refine X_len T.sl41 rfl ?_)))
      (first | refine RL_off rfl rfl ?_ | refine RL_off' rfl rfl ?_ | (refine RL_on rfl rfl ?_; (first | refine X_cmp_t rfl rfl rfl (by first | assumption | omega) ?_ | refine X_cmp_f rfl rfl rfl (by first | assumption | omega) ?_ | refine X_bin rfl rfl rfl ?_)))
      refine RL_some ?_; (refine X_pick rfl rfl ?_)
      refine RL_none ?_; (refine S_store (c' := dmc z v) H 1 T.ty51 rfl rfl rfl rfl (Nat.le_of_ble_eq_true rfl) (by show (Nep.one v && true) = true; simp [hv]) rfl ?_; intro w H)
      refine RL_some ?_; (refine X_assign rfl ?_)
      refine hK23 _ _ (W_keep (Keep.cons 6 rfl (Keep.cons 7 rfl Keep.nil)) ?_)
      refine W_ret ?_
      (try simp only [thenQ, blockQ, noGotoQ])
      exact body_list (.inr rfl) rfl (.cell rfl (loadV_agg H 1 T.ty51 rfl (l := zl z v) rfl (Nat.le_of_ble_eq_true rfl)) (.tmp rfl .nil)) (by simp) ⟨m, z, v, cs, rfl, rfl, h, [], (H.dropAt 3).dropAt 2 |>.dropAt 1⟩
  refine W_skip ?_
  refine hK2 _ _ (W_keep (Keep.cons 0 rfl (Keep.cons 4 rfl (Keep.cons 5 rfl (Keep.cons 6 rfl (Keep.cons 75 rfl Keep.nil))))) ?_)
  refine W_seq_k fun K24 hK24 => ?_
  by_cases hbad : s.s.place ≠ s.to ∧ 0 < refsD cs s.to
  · skip
    refine W_reg rfl ?_
    refine RL_some ?_; (refine X_move rfl ?_)
    refine RL_some ?_; (refine X_fieldAddr T.fd54_3 rfl ?_)
    refine RL_some ?_; (refine X_fieldAddr T.fd29_0 rfl ?_)
    refine RL_some ?_; (refine S_load H 1 T.ty23 rfl rfl (l := s.s.place.enc) rfl (Nat.le_of_ble_eq_true rfl) ?_)
    refine RL_some ?_; (refine X_fieldAddr T.fd54_4 rfl ?_)
    refine RL_some ?_; (refine S_load H 1 T.ty23 rfl rfl (l := s.to.enc) rfl (Nat.le_of_ble_eq_true rfl) ?_)
    refine RL_some ?_; (refine X_fieldAddr T.fd54_3 rfl ?_)
    refine RL_some ?_; (refine X_fieldAddr T.fd29_2 rfl ?_)
    refine RL_some ?_; (refine S_load H 1 T.ty27 rfl rfl (l := s.s.order.enc) rfl (Nat.le_of_ble_eq_true rfl) ?_)
    refine RL_some ?_; (refine X_call T.ent24 rfl (calls_to (Move_pmBad h s.s.place s.to s.s.order hbad (H.foc 3 rfl)) ?_); rintro r w ⟨rfl, H⟩)
    refine RL_some ?_; (refine X_assign rfl ?_)
    refine hK24 _ _ (W_keep (Keep.cons 4 rfl (Keep.cons 5 rfl (Keep.cons 6 rfl (Keep.cons 16 rfl Keep.nil)))) ?_)
    refine W_seq_k fun K25 hK25 => ?_
    refine W_seq_k fun K26 hK26 => ?_
    refine W_reg rfl ?_
    refine RL_some ?_; (refine X_fieldAddr T.fd54_3 rfl ?_)
    refine RL_some ?_; (refine X_fieldAddr T.fd29_0 rfl ?_)
    refine RL_some ?_; (refine S_load H 2 T.ty23 rfl rfl (l := s.s.place.enc) rfl (Nat.le_of_ble_eq_true rfl) ?_)
    refine RL_some ?_; (refine X_fieldAddr T.fd54_4 rfl ?_)
    refine RL_some ?_; (refine S_load H 2 T.ty23 rfl rfl (l := s.to.enc) rfl (Nat.le_of_ble_eq_true rfl) ?_)
    refine RL_some ?_; (first | refine X_neS (r := false) T.eg23 ((pl_eq 9998 s.s.place s.to).of (decide_eq_false hbad.1)) rfl rfl ?_)
    refine RL_some ?_; (refine X_move rfl ?_)
    (first | refine RL_off rfl rfl ?_ | refine RL_off' rfl rfl ?_ | (refine RL_on rfl rfl ?_; (refine S_load H 3 T.ty51 rfl rfl (l := zl z v) rfl (Nat.le_of_ble_eq_true rfl) ?_)))
    (first | refine RL_off rfl rfl ?_ | refine RL_off' rfl rfl ?_ | (refine RL_on rfl rfl ?_; (refine X_fieldAddr T.fd54_4 rfl ?_)))
    (first | refine RL_off rfl rfl ?_ | refine RL_off' rfl rfl ?_ | (refine RL_on rfl rfl ?_; (refine S_load H 2 T.ty23 rfl rfl (l := s.to.enc) rfl (Nat.le_of_ble_eq_true rfl) ?_)))
    (first | refine RL_off rfl rfl ?_ | refine RL_off' rfl rfl ?_ | (refine RL_on rfl rfl ?_; (refine X_call T.ent19 rfl (calls_to (rRefs_spec z v cs s.to (by omega) (H.foc 4 rfl)) ?_); rintro r w ⟨rfl, H⟩; replace H := H.back 4 (by simp))))
    (first | refine RL_off rfl rfl ?_ | refine RL_off' rfl rfl ?_ | (refine RL_on rfl rfl ?_; (first | refine X_cmp_t rfl rfl rfl (by first | assumption | omega) ?_ | refine X_cmp_f rfl rfl rfl (by first | assumption | omega) ?_ | refine X_bin rfl rfl rfl ?_)))
    refine RL_some ?_; (refine X_pick rfl rfl ?_)
    refine hK26 _ _ (W_keep (Keep.cons 4 rfl (Keep.cons 5 rfl (Keep.cons 6 rfl (Keep.cons 16 rfl (Keep.cons 136 rfl Keep.nil))))) ?_)
    refine W_true rfl ?_
    refine W_seq_k fun K27 hK27 => ?_
    refine W_reg rfl ?_
    refine RL_some ?_; (refine S_load H 3 T.ty51 rfl rfl (l := zl z v) rfl (Nat.le_of_ble_eq_true rfl) ?_)
    refine RL_some ?_; (refine X_move rfl ?_)
    refine RL_some ?_; (first | refine X_cmp_t rfl rfl rfl (by first | assumption | omega) ?_ | refine X_cmp_f rfl rfl rfl (by first | assumption | omega) ?_ | refine X_bin rfl rfl rfl ?_)
    refine RL_none ?_; (refine S_store (c' := dmc z v) H 1 T.ty51 rfl rfl rfl rfl (Nat.le_of_ble_eq_true rfl) (by show (Nep.one v && true) = true; simp [hv]) rfl ?_; intro w H)
    refine RL_some ?_; (refine X_assign rfl ?_)
    refine hK27 _ _ (W_keep (Keep.cons 6 rfl (Keep.cons 7 rfl Keep.nil)) ?_)
    refine W_ret ?_
    (try simp only [thenQ, blockQ, noGotoQ])
    exact body_list (.inr rfl) rfl (.cell rfl (loadV_agg H 1 T.ty51 rfl (l := zl z v) rfl (Nat.le_of_ble_eq_true rfl)) (.tmp rfl .nil)) (by simp) ⟨m, z, v, cs, rfl, rfl, h, [], (H.dropAt 3).dropAt 2 |>.dropAt 1⟩
  · skip
    refine W_reg rfl ?_
    refine RL_some ?_; (refine X_move rfl ?_)
    refine RL_some ?_; (refine X_fieldAddr T.fd54_3 rfl ?_)
    refine RL_some ?_; (refine X_fieldAddr T.fd29_0 rfl ?_)
    refine RL_some ?_; (refine S_load H 1 T.ty23 rfl rfl (l := s.s.place.enc) rfl (Nat.le_of_ble_eq_true rfl) ?_)
    refine RL_some ?_; (refine X_fieldAddr T.fd54_4 rfl ?_)
    refine RL_some ?_; (refine S_load H 1 T.ty23 rfl rfl (l := s.to.enc) rfl (Nat.le_of_ble_eq_true rfl) ?_)
    refine RL_some ?_; (refine X_fieldAddr T.fd54_3 rfl ?_)
    refine RL_some ?_; (refine X_fieldAddr T.fd29_2 rfl ?_)
    refine RL_some ?_; (refine S_load H 1 T.ty27 rfl rfl (l := s.s.order.enc) rfl (Nat.le_of_ble_eq_true rfl) ?_)
    refine RL_some ?_; (refine X_call T.ent24 rfl (calls_to (h.move s.s.place s.to s.s.order hbad hrgT (H.foc 3 rfl)) ?_); rintro r w ⟨rfl, m', hp, h', H⟩)
    refine RL_some ?_; (refine X_assign rfl ?_)
    refine hK24 _ _ (W_keep (Keep.cons 4 rfl (Keep.cons 5 rfl (Keep.cons 6 rfl (Keep.cons 16 rfl Keep.nil)))) ?_)
    refine W_seq_k fun K28 hK28 => ?_
    refine W_seq_k fun K29 hK29 => ?_
    refine W_boolR 136 (False) [4, 5, 6, 16] H ?_ ?_
    · by_cases e : s.s.place = s.to
      all_goals
        refine W_reg rfl ?_
        refine RL_some ?_; (refine X_fieldAddr T.fd54_3 rfl ?_)
        refine RL_some ?_; (refine X_fieldAddr T.fd29_0 rfl ?_)
        refine RL_some ?_; (refine S_load H 2 T.ty23 rfl rfl (l := s.s.place.enc) rfl (Nat.le_of_ble_eq_true rfl) ?_)
        refine RL_some ?_; (refine X_fieldAddr T.fd54_4 rfl ?_)
        refine RL_some ?_; (refine S_load H 2 T.ty23 rfl rfl (l := s.to.enc) rfl (Nat.le_of_ble_eq_true rfl) ?_)
        refine RL_some ?_; (first | refine X_neS (r := true) T.eg23 ((pl_eq 9998 s.s.place s.to).of (decide_eq_true e)) rfl rfl ?_ | refine X_neS (r := false) T.eg23 ((pl_eq 9998 s.s.place s.to).of (decide_eq_false e)) rfl rfl ?_)
        refine RL_some ?_; (refine X_move rfl ?_)
        (first | refine RL_off rfl rfl ?_ | refine RL_off' rfl rfl ?_ | (refine RL_on rfl rfl ?_; (refine S_load H 3 T.ty51 rfl rfl (l := zl z v) rfl (Nat.le_of_ble_eq_true rfl) ?_)))
        (first | refine RL_off rfl rfl ?_ | refine RL_off' rfl rfl ?_ | (refine RL_on rfl rfl ?_; (refine X_fieldAddr T.fd54_4 rfl ?_)))
        (first | refine RL_off rfl rfl ?_ | refine RL_off' rfl rfl ?_ | (refine RL_on rfl rfl ?_; (refine S_load H 2 T.ty23 rfl rfl (l := s.to.enc) rfl (Nat.le_of_ble_eq_true rfl) ?_)))
        (first | refine RL_off rfl rfl ?_ | refine RL_off' rfl rfl ?_ | (refine RL_on rfl rfl ?_; (refine X_call T.ent19 rfl (calls_to (rRefs_spec z v cs s.to (by omega) (H.foc 4 rfl)) ?_); rintro r w ⟨rfl, H⟩; replace H := H.back 4 (by simp))))
        (first | refine RL_off rfl rfl ?_ | refine RL_off' rfl rfl ?_ | (refine RL_on rfl rfl ?_; (first | refine X_cmp_t rfl rfl rfl (by first | assumption | omega) ?_ | refine X_cmp_f rfl rfl rfl (by first | assumption | omega) ?_ | refine X_bin rfl rfl rfl ?_)))
        refine RL_some ?_; (refine X_pick rfl rfl ?_)
        exact ⟨_, by first | (simp; done) | (simp; have : ¬ 0 < refsD cs s.to := fun h5 => hbad ⟨e, h5⟩; omega), rfl, ⟨rfl, rfl, rfl, rfl, trivial⟩, H⟩
    intro q w hq H
    skip
    refine hK29 _ _ (W_keep (Keep.cons 4 rfl (Keep.cons 5 rfl (Keep.cons 6 rfl (Keep.cons 16 rfl (Keep.cons 136 rfl Keep.nil))))) ?_)
    obtain rfl : q = false := by cases q; rfl; exact (hq.1 rfl).elim
    refine W_false rfl ?_
    refine W_skip ?_
    refine hK28 _ _ (W_keep (Keep.cons 4 rfl (Keep.cons 5 rfl (Keep.cons 6 rfl (Keep.cons 16 rfl (Keep.cons 136 rfl Keep.nil))))) ?_)
    refine W_seq_k fun K30 hK30 => ?_
    refine W_reg rfl ?_
    refine RL_some ?_; (refine S_load H 3 T.ty51 rfl rfl (l := zl z v) rfl (Nat.le_of_ble_eq_true rfl) ?_)
    refine RL_some ?_; (refine X_fieldAddr T.fd54_3 rfl ?_)
    refine RL_some ?_; (refine X_fieldAddr T.fd29_0 rfl ?_)
    refine RL_some ?_; (refine S_load H 2 T.ty23 rfl rfl (l := s.s.place.enc) rfl (Nat.le_of_ble_eq_true rfl) ?_)
    refine RL_some ?_; (refine X_fieldAddr T.fd54_4 rfl ?_)
    refine RL_some ?_; (refine S_load H 2 T.ty23 rfl rfl (l := s.to.enc) rfl (Nat.le_of_ble_eq_true rfl) ?_)
    refine RL_some ?_; (refine X_fieldAddr T.fd54_3 rfl ?_)
    refine RL_some ?_; (refine X_fieldAddr T.fd29_2 rfl ?_)
    refine RL_some ?_; (refine S_load H 2 T.ty27 rfl rfl (l := s.s.order.enc) rfl (Nat.le_of_ble_eq_true rfl) ?_)
    refine RL_some ?_; (refine X_call T.ent37 rfl (calls_to (rMove_spec z v cs s.s.place s.to s.s.order (by omega) (H.foc 4 rfl)) ?_); rintro r w ⟨v', rfl, H⟩; have hv' := (H.tabSl).2)
    refine RL_some ?_; (refine X_move rfl ?_)
    refine RL_some ?_; (first | refine X_cmp_t rfl rfl rfl (by first | assumption | omega) ?_ | refine X_cmp_f rfl rfl rfl (by first | assumption | omega) ?_ | refine X_bin rfl rfl rfl ?_)
    refine RL_none ?_; (refine S_store (c' := dmc z v') H 3 T.ty51 rfl rfl rfl rfl (Nat.le_of_ble_eq_true rfl) (by show (Nep.one v' && true) = true; simp [hv']) rfl ?_; intro w H)
    refine RL_some ?_; (refine X_assign rfl ?_)
    refine hK30 _ _ (W_keep (Keep.cons 6 rfl (Keep.cons 7 rfl Keep.nil)) ?_)
    refine W_ret ?_
    (try simp only [thenQ, blockQ, noGotoQ])
    exact body_list (.inr rfl) rfl (.cell rfl (loadV_agg H 3 T.ty51 rfl (l := zl z v') rfl (Nat.le_of_ble_eq_true rfl)) (.tmp rfl .nil)) (by simp) ⟨m', _, v', _, rfl, hp, h', [_, _, _, _], H.foc 2 rfl⟩
end Go.Proofs.Ytinngnckojbpnaa
