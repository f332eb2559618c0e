import Derived.Test.YtinngnckojbpnaaPm6
import Derived.Test.YtinngnckojbpnaaLay
/-! pagemap: the document's Newer; 'told' at none; awake. -/
namespace Go.Proofs.Ytinngnckojbpnaa
open Go.Nep
set_option maxRecDepth 100000
set_option linter.unusedVariables false
set_option linter.unusedSimpArgs false
set_option maxHeartbeats 800000

theorem rless_spec (a b : Hd) {w0 w : World} {L : List Asn} (H : St w0 w L) :
    Calls Try.prog 27 #[.agg a.enc.toArray, .agg b.enc.toArray] w (After fun v w' => v = .bool (lessH a b) ∧ St w0 w' L) := by
  have hc : a.epoch < b.epoch ∨ a.epoch = b.epoch ∨ (¬ a.epoch < b.epoch ∧ a.epoch ≠ b.epoch) := by omega
  rcases hc with hc | hc | ⟨hc, hd⟩
  all_goals
    refine calls_of_W (N := 24) (args := [.agg a.enc.toArray, .agg b.enc.toArray]) Try.func27 rfl Try.ntmps27 (by simp) ?_
    refine W_seq_k fun K1 hK1 => ?_
    refine W_reg rfl ?_
    refine RL_some ?_; (refine S_box H rfl ?_; intro b2 w H)
    refine RL_some ?_; (refine S_box H rfl ?_; intro b3 w H)
    refine RL_some ?_; (refine X_assign rfl ?_)
    refine hK1 _ _ (W_keep (Keep.cons 2 rfl (Keep.cons 3 rfl Keep.nil)) ?_)
    refine W_seq_k fun K2 hK2 => ?_
    refine W_reg rfl ?_
    refine RL_some ?_; (refine X_fieldAddr T.fd27_4 rfl ?_)
    refine RL_some ?_; ((first | refine S_load1 H 0 T.ty25 rfl rfl rfl ?_ | refine S_load1 H 1 T.ty25 rfl rfl rfl ?_ | refine S_load1 H 2 T.ty25 rfl rfl rfl ?_ | refine S_load1 H 3 T.ty25 rfl rfl rfl ?_ | refine S_load1 H 4 T.ty25 rfl rfl rfl ?_ | refine S_load1 H 5 T.ty25 rfl rfl rfl ?_ | refine S_load1 H 6 T.ty25 rfl rfl rfl ?_ | refine S_load1 H 7 T.ty25 rfl rfl rfl ?_ | refine S_load1 H 8 T.ty25 rfl rfl rfl ?_ | refine S_load1 H 9 T.ty25 rfl rfl rfl ?_))
    refine RL_some ?_; (refine X_fieldAddr T.fd27_4 rfl ?_)
    refine RL_some ?_; ((first | refine S_load1 H 0 T.ty25 rfl rfl rfl ?_ | refine S_load1 H 1 T.ty25 rfl rfl rfl ?_ | refine S_load1 H 2 T.ty25 rfl rfl rfl ?_ | refine S_load1 H 3 T.ty25 rfl rfl rfl ?_ | refine S_load1 H 4 T.ty25 rfl rfl rfl ?_ | refine S_load1 H 5 T.ty25 rfl rfl rfl ?_ | refine S_load1 H 6 T.ty25 rfl rfl rfl ?_ | refine S_load1 H 7 T.ty25 rfl rfl rfl ?_ | refine S_load1 H 8 T.ty25 rfl rfl rfl ?_ | refine S_load1 H 9 T.ty25 rfl rfl rfl ?_))
    refine RL_some ?_; (first | refine X_cmp_t rfl rfl rfl (by first | assumption | omega) ?_ | refine X_cmp_f rfl rfl rfl (by first | assumption | omega) ?_ | refine X_bin rfl rfl rfl ?_)
    refine RL_some ?_; (refine X_move rfl ?_)
    (first | refine RL_off rfl rfl ?_ | refine RL_off' rfl rfl ?_ | (refine RL_on rfl rfl ?_; (refine X_fieldAddr T.fd27_4 rfl ?_)))
    (first | refine RL_off rfl rfl ?_ | refine RL_off' rfl rfl ?_ | (refine RL_on rfl rfl ?_; ((first | refine S_load1 H 0 T.ty25 rfl rfl rfl ?_ | refine S_load1 H 1 T.ty25 rfl rfl rfl ?_ | refine S_load1 H 2 T.ty25 rfl rfl rfl ?_ | refine S_load1 H 3 T.ty25 rfl rfl rfl ?_ | refine S_load1 H 4 T.ty25 rfl rfl rfl ?_ | refine S_load1 H 5 T.ty25 rfl rfl rfl ?_ | refine S_load1 H 6 T.ty25 rfl rfl rfl ?_ | refine S_load1 H 7 T.ty25 rfl rfl rfl ?_ | refine S_load1 H 8 T.ty25 rfl rfl rfl ?_ | refine S_load1 H 9 T.ty25 rfl rfl rfl ?_))))
    (first | refine RL_off rfl rfl ?_ | refine RL_off' rfl rfl ?_ | (refine RL_on rfl rfl ?_; (refine X_fieldAddr T.fd27_4 rfl ?_)))
    (first | refine RL_off rfl rfl ?_ | refine RL_off' rfl rfl ?_ | (refine RL_on rfl rfl ?_; ((first | refine S_load1 H 0 T.ty25 rfl rfl rfl ?_ | refine S_load1 H 1 T.ty25 rfl rfl rfl ?_ | refine S_load1 H 2 T.ty25 rfl rfl rfl ?_ | refine S_load1 H 3 T.ty25 rfl rfl rfl ?_ | refine S_load1 H 4 T.ty25 rfl rfl rfl ?_ | refine S_load1 H 5 T.ty25 rfl rfl rfl ?_ | refine S_load1 H 6 T.ty25 rfl rfl rfl ?_ | refine S_load1 H 7 T.ty25 rfl rfl rfl ?_ | refine S_load1 H 8 T.ty25 rfl rfl rfl ?_ | refine S_load1 H 9 T.ty25 rfl rfl rfl ?_))))
    (first | refine RL_off rfl rfl ?_ | refine RL_off' rfl rfl ?_ | (refine RL_on rfl rfl ?_; (first | refine X_cmp_t rfl rfl rfl (by first | assumption | omega) ?_ | refine X_cmp_f rfl rfl rfl (by first | assumption | omega) ?_ | refine X_bin rfl rfl rfl ?_)))
    (first | refine RL_off rfl rfl ?_ | refine RL_off' rfl rfl ?_ | (refine RL_on rfl rfl ?_; (refine X_move rfl ?_)))
    (first | refine RL_off rfl rfl ?_ | refine RL_off' rfl rfl ?_ | (refine RL_on rfl rfl ?_; (refine X_fieldAddr T.fd27_5 rfl ?_)))
    (first | refine RL_off rfl rfl ?_ | refine RL_off' rfl rfl ?_ | (refine RL_on rfl rfl ?_; ((first | refine S_load1 H 0 T.ty25 rfl rfl rfl ?_ | refine S_load1 H 1 T.ty25 rfl rfl rfl ?_ | refine S_load1 H 2 T.ty25 rfl rfl rfl ?_ | refine S_load1 H 3 T.ty25 rfl rfl rfl ?_ | refine S_load1 H 4 T.ty25 rfl rfl rfl ?_ | refine S_load1 H 5 T.ty25 rfl rfl rfl ?_ | refine S_load1 H 6 T.ty25 rfl rfl rfl ?_ | refine S_load1 H 7 T.ty25 rfl rfl rfl ?_ | refine S_load1 H 8 T.ty25 rfl rfl rfl ?_ | refine S_load1 H 9 T.ty25 rfl rfl rfl ?_))))
    (first | refine RL_off rfl rfl ?_ | refine RL_off' rfl rfl ?_ | (refine RL_on rfl rfl ?_; (refine X_fieldAddr T.fd27_5 rfl ?_)))
    (first | refine RL_off rfl rfl ?_ | refine RL_off' rfl rfl ?_ | (refine RL_on rfl rfl ?_; ((first | refine S_load1 H 0 T.ty25 rfl rfl rfl ?_ | refine S_load1 H 1 T.ty25 rfl rfl rfl ?_ | refine S_load1 H 2 T.ty25 rfl rfl rfl ?_ | refine S_load1 H 3 T.ty25 rfl rfl rfl ?_ | refine S_load1 H 4 T.ty25 rfl rfl rfl ?_ | refine S_load1 H 5 T.ty25 rfl rfl rfl ?_ | refine S_load1 H 6 T.ty25 rfl rfl rfl ?_ | refine S_load1 H 7 T.ty25 rfl rfl rfl ?_ | refine S_load1 H 8 T.ty25 rfl rfl rfl ?_ | refine S_load1 H 9 T.ty25 rfl rfl rfl ?_))))
    (first | refine RL_off rfl rfl ?_ | refine RL_off' rfl rfl ?_ | (refine RL_on rfl rfl ?_; (first | refine X_cmp_t rfl rfl rfl (by first | assumption | omega) ?_ | refine X_cmp_f rfl rfl rfl (by first | assumption | omega) ?_ | refine X_bin rfl rfl rfl ?_)))
    (first | refine RL_off rfl rfl ?_ | refine RL_off' rfl rfl ?_ | (refine RL_on rfl rfl ?_; (refine X_pick rfl rfl ?_)))
    refine RL_some ?_; (refine X_pick rfl rfl ?_)
    refine RL_some ?_; (refine X_assign rfl ?_)
    refine hK2 _ _ (W_keep (Keep.cons 4 rfl Keep.nil) ?_)
    refine W_ret ?_
    (try simp only [thenQ, blockQ, noGotoQ])
    refine body_tmp (.inr rfl) rfl rfl ?_
  · exact ⟨by simp [lessH, show ¬ a.epoch = b.epoch by omega, hc], H.drop.drop⟩
  · exact ⟨by simp [lessH, hc], H.drop.drop⟩
  · exact ⟨by simp [lessH, hd, hc], H.drop.drop⟩

theorem rless_calls (a b : Hd) {w0 w : World} {L : List Asn} (H : St w0 w L) {vs : List Value} (hv : vs = [.agg a.enc.toArray, .agg b.enc.toArray]) {K : Value → World → Prop} (k : ∀ w', St w0 w' L → K (.bool (lessH a b)) w') :
    Calls Try.prog 27 vs.toArray w (After K) := by
  subst hv
  refine calls_to (rless_spec a b H) ?_
  rintro v w' ⟨rfl, H⟩
  exact k w' H

theorem rNewer_spec (a b : Spot) {w0 w : World} {L : List Asn} (H : St w0 w L) :
    Calls Try.prog 9 #[.agg a.enc.toArray, .agg b.enc.toArray] w (After fun v w' => v = .bool (newer a b) ∧ St w0 w' L) := by
  cases c1 : lessH b.head a.head
  · cases c2 : lessH a.head b.head
    all_goals
      refine calls_of_W (N := 23) (args := [.agg a.enc.toArray, .agg b.enc.toArray]) Try.func9 rfl Try.ntmps9 (by simp) ?_
      refine W_seq_k fun K1 hK1 => ?_
      refine W_reg rfl ?_
      refine RL_some ?_; (refine S_box H rfl ?_; intro b2 w H)
      refine RL_some ?_; (refine S_box H rfl ?_; intro b3 w H)
      refine RL_some ?_; (refine X_assign rfl ?_)
      refine hK1 _ _ (W_keep (Keep.cons 2 rfl (Keep.cons 3 rfl Keep.nil)) ?_)
      refine W_seq_k fun K2 hK2 => ?_
      refine W_seq_k fun K3 hK3 => ?_
      refine W_reg rfl ?_
      refine RL_some ?_; (refine X_fieldAddr T.fd32_1 rfl ?_)
      refine RL_some ?_; (refine S_load H 0 T.ty27 rfl rfl (l := b.head.enc) rfl (Nat.le_of_ble_eq_true rfl) ?_)
      refine RL_some ?_; (refine X_fieldAddr T.fd32_1 rfl ?_)
      refine RL_some ?_; (refine S_load H 1 T.ty27 rfl rfl (l := a.head.enc) rfl (Nat.le_of_ble_eq_true rfl) ?_)
      refine RL_some ?_; (refine X_call T.ent27 rfl ?_; refine rless_calls b.head a.head H rfl ?_; intro w H; rw [c1])
      refine hK3 _ _ (W_keep (Keep.cons 2 rfl (Keep.cons 3 rfl (Keep.cons 9 rfl Keep.nil))) ?_)
      refine W_false rfl (W_skip (hK2 _ _ ?_))
      refine W_seq_k fun K4 hK4 => ?_
      refine W_reg rfl ?_
      refine RL_some ?_; (refine X_fieldAddr T.fd32_1 rfl ?_)
      refine RL_some ?_; (refine S_load H 1 T.ty27 rfl rfl (l := a.head.enc) rfl (Nat.le_of_ble_eq_true rfl) ?_)
      refine RL_some ?_; (refine X_fieldAddr T.fd32_1 rfl ?_)
      refine RL_some ?_; (refine S_load H 0 T.ty27 rfl rfl (l := b.head.enc) rfl (Nat.le_of_ble_eq_true rfl) ?_)
      refine RL_some ?_; (refine X_call T.ent27 rfl ?_; refine rless_calls a.head b.head H rfl ?_; intro w H; rw [c2])
      refine RL_some ?_; (refine X_not rfl ?_)
      refine RL_some ?_; (refine X_move rfl ?_)
      (first | refine RL_off rfl rfl ?_ | refine RL_off' rfl rfl ?_ | (refine RL_on rfl rfl ?_; (refine X_fieldAddr T.fd32_2 rfl ?_)))
      (first | refine RL_off rfl rfl ?_ | refine RL_off' rfl rfl ?_ | (refine RL_on rfl rfl ?_; (refine S_load H 0 T.ty27 rfl rfl (l := b.order.enc) rfl (Nat.le_of_ble_eq_true rfl) ?_)))
      (first | refine RL_off rfl rfl ?_ | refine RL_off' rfl rfl ?_ | (refine RL_on rfl rfl ?_; (refine X_fieldAddr T.fd32_2 rfl ?_)))
      (first | refine RL_off rfl rfl ?_ | refine RL_off' rfl rfl ?_ | (refine RL_on rfl rfl ?_; (refine S_load H 1 T.ty27 rfl rfl (l := a.order.enc) rfl (Nat.le_of_ble_eq_true rfl) ?_)))
      (first | refine RL_off rfl rfl ?_ | refine RL_off' rfl rfl ?_ | (refine RL_on rfl rfl ?_; (refine X_call T.ent27 rfl ?_; refine rless_calls b.order a.order H rfl ?_; intro w H)))
      refine RL_some ?_; (refine X_pick rfl rfl ?_)
      refine RL_some ?_; (refine X_assign rfl ?_)
      refine hK4 _ _ (W_keep (Keep.cons 4 rfl Keep.nil) ?_)
      refine W_ret ?_
      (try simp only [thenQ, blockQ, noGotoQ])
      refine body_tmp (.inr rfl) rfl rfl ?_
      exact ⟨by simp [newer, c1, c2], H.drop.drop⟩
  · refine calls_of_W (N := 23) (args := [.agg a.enc.toArray, .agg b.enc.toArray]) Try.func9 rfl Try.ntmps9 (by simp) ?_
    refine W_seq_k fun K1 hK1 => ?_
    refine W_reg rfl ?_
    refine RL_some ?_; (refine S_box H rfl ?_; intro b2 w H)
    refine RL_some ?_; (refine S_box H rfl ?_; intro b3 w H)
    refine RL_some ?_; (refine X_assign rfl ?_)
    refine hK1 _ _ (W_keep (Keep.cons 2 rfl (Keep.cons 3 rfl Keep.nil)) ?_)
    refine W_seq_k fun K2 hK2 => ?_
    refine W_seq_k fun K3 hK3 => ?_
    refine W_reg rfl ?_
    refine RL_some ?_; (refine X_fieldAddr T.fd32_1 rfl ?_)
    refine RL_some ?_; (refine S_load H 0 T.ty27 rfl rfl (l := b.head.enc) rfl (Nat.le_of_ble_eq_true rfl) ?_)
    refine RL_some ?_; (refine X_fieldAddr T.fd32_1 rfl ?_)
    refine RL_some ?_; (refine S_load H 1 T.ty27 rfl rfl (l := a.head.enc) rfl (Nat.le_of_ble_eq_true rfl) ?_)
    refine RL_some ?_; (refine X_call T.ent27 rfl ?_; refine rless_calls b.head a.head H rfl ?_; intro w H; rw [c1])
    refine hK3 _ _ (W_keep (Keep.cons 2 rfl (Keep.cons 3 rfl (Keep.cons 9 rfl Keep.nil))) ?_)
    refine W_true rfl ?_
    refine W_seq_k fun K4 hK4 => ?_
    refine W_reg rfl ?_
    refine RL_some ?_; (refine X_assign rfl ?_)
    refine hK4 _ _ (W_keep (Keep.cons 4 rfl Keep.nil) ?_)
    refine W_ret ?_
    (try simp only [thenQ, blockQ, noGotoQ])
    refine body_tmp (.inr rfl) rfl rfl ?_
    exact ⟨by simp [newer, c1], H.drop.drop⟩

theorem of_spec (a : Spot) {w0 w : World} {L : List Asn} (H : St w0 w L) :
    Calls Try.prog 10 #[.agg a.enc.toArray] w (After fun v w' => v = .agg a.enc.toArray ∧ St w0 w' L) := by
  refine calls_of_W (N := 10) (args := [.agg a.enc.toArray]) Try.func10 rfl Try.ntmps10 (by simp) ?_
  refine W_seq_k fun K1 hK1 => ?_
  refine W_reg rfl ?_
  refine RL_some ?_; (refine S_box H rfl ?_; intro b1 w H)
  refine RL_some ?_; (refine S_alloc H T.ze32 ?_; intro b2 w H)
  refine hK1 _ _ (W_keep (Keep.cons 1 rfl (Keep.cons 2 rfl Keep.nil)) ?_)
  refine W_seq_k fun K2 hK2 => ?_
  refine W_reg rfl ?_
  refine RL_some ?_; (refine X_fieldAddr T.fd29_0 rfl ?_)
  refine RL_some ?_; (refine S_load H 1 T.ty23 rfl rfl (l := a.place.enc) rfl (Nat.le_of_ble_eq_true rfl) ?_)
  refine RL_some ?_; (refine X_fieldAddr T.fd29_1 rfl ?_)
  refine RL_some ?_; (refine S_load H 1 T.ty27 rfl rfl (l := a.head.enc) rfl (Nat.le_of_ble_eq_true rfl) ?_)
  refine RL_some ?_; (refine X_fieldAddr T.fd29_2 rfl ?_)
  refine RL_some ?_; (refine S_load H 1 T.ty27 rfl rfl (l := a.order.enc) rfl (Nat.le_of_ble_eq_true rfl) ?_)
  refine RL_some ?_; (refine X_build (cells := a.enc.toArray) T.sh32 T.ze32 rfl (fill_put rfl rfl (Nat.le_of_ble_eq_true rfl) rfl (fill_put rfl rfl (Nat.le_of_ble_eq_true rfl) rfl (fill_put rfl rfl (Nat.le_of_ble_eq_true rfl) rfl rfl))) ?_)
  refine RL_none ?_; (refine S_store H 0 T.ty32 rfl rfl rfl rfl (Nat.le_of_ble_eq_true rfl) rfl (c' := a.enc.toArray) rfl ?_; intro w H)
  refine hK2 _ _ (W_keep (Keep.cons 2 rfl Keep.nil) ?_)
  refine W_ret ?_
  (try simp only [thenQ, blockQ, noGotoQ])
  exact body_cell (.inr rfl) rfl rfl (loadV_agg H 0 T.ty32 rfl (l := a.enc) rfl (Nat.le_of_ble_eq_true rfl)) ⟨rfl, H.drop.drop⟩
theorem of_calls (a : Spot) {w0 w : World} {L : List Asn} (H : St w0 w L) {vs : List Value} (hv : vs = [.agg a.enc.toArray]) {K : Value → World → Prop} (k : ∀ w', St w0 w' L → K (.agg a.enc.toArray) w') :
    Calls Try.prog 10 vs.toArray w (After K) := by
  subst hv
  refine calls_to (of_spec a H) ?_
  rintro v w' ⟨rfl, H⟩
  exact k w' H
theorem rNewer_calls (a b : Spot) {w0 w : World} {L : List Asn} (H : St w0 w L) {vs : List Value} (hv : vs = [.agg a.enc.toArray, .agg b.enc.toArray]) {K : Value → World → Prop} (k : ∀ w', St w0 w' L → K (.bool (newer a b)) w') :
    Calls Try.prog 9 vs.toArray w (After K) := by
  subst hv
  refine calls_to (rNewer_spec a b H) ?_
  rintro v w' ⟨rfl, H⟩
  exact k w' H

theorem told_none {v : Value} {w0 w : World} {L : List Asn} (H : St w0 w (Row v 23 2 0 [] :: L)) :
    Calls Try.prog 30 #[v] w (After fun u w' => St w0 w' (Row u 23 2 0 [] :: L)) := by
  obtain ⟨ad, cap, rfl, hcap⟩ := H.rowVal
  refine calls_of_W (N := 6) (args := [.slice ad 0 cap]) Try.func30 rfl Try.ntmps30 (by simp) ?_
  refine W_seq_k fun K1 hK1 => ?_
  refine W_reg rfl ?_
  refine RL_some ?_; (refine X_assign rfl ?_)
  refine hK1 _ _ (W_keep (Keep.cons 0 rfl Keep.nil) ?_)
  refine W_seq_k fun K2 hK2 => ?_
  refine W_reg rfl ?_
  refine RL_some ?_; (refine X_move rfl ?_)
  refine RL_some ?_; (refine X_call T.ent43 rfl ((AnyF.slices_SortFunc_none Try.sortPl ad cap _ _).mono ?_); rintro e w ⟨rfl, rfl⟩)
  refine hK2 _ _ (W_keep (Keep.cons 0 rfl Keep.nil) ?_)
  refine W_seq_k fun K3 hK3 => ?_
  refine W_reg rfl ?_
  refine RL_some ?_; (refine X_move rfl ?_)
  refine RL_some ?_; (refine X_assign rfl ?_)
  refine hK3 _ _ (W_keep (Keep.cons 2 rfl Keep.nil) ?_)
  refine W_ret ?_
  (try simp only [thenQ, blockQ, noGotoQ])
  refine body_tmp (.inr rfl) rfl rfl ?_
  exact H
/-- the spot that 'awake' puts -/
def aSpot : Spot := ⟨⟨0, 0⟩, ⟨1, 1, 1, 3, 0, 0⟩, noHd⟩

theorem told_at_none {C0 C : Pl → Int} {sp : Pl} (h0 : ∀ q, C0 q = 0) (outs : List Pl) (h : OutsOK C0 C sp outs) : outs = [] := by
  cases outs with
  | nil => rfl
  | cons x r => exact absurd (h0 x) ((h.mem x).1 (by simp)).1

theorem awake_spec {w0 w : World} {L : List Asn} (H : St w0 w L) :
    Calls Try.prog 11 #[] w (After fun v w' => v = .bool true ∧ St w0 w' L) := by
  refine calls_of_W (N := 36) (args := []) Try.func11 rfl Try.ntmps11 (by simp) ?_
  refine W_seq_k fun K1 hK1 => ?_
  refine W_reg rfl ?_
  refine RL_some ?_; (refine X_assign rfl ?_)
  refine hK1 _ _ (W_keep Keep.nil ?_)
  refine W_seq_k fun K2 hK2 => ?_
  refine W_reg rfl ?_
  refine RL_some ?_; (refine X_call T.ent12 rfl (calls_to (New_spec H) ?_); rintro v w ⟨p, r, rfl, H⟩)
  refine RL_some ?_; (refine X_assign rfl ?_)
  refine hK2 _ _ (W_keep (Keep.cons 1 rfl Keep.nil) ?_)
  refine W_seq_k fun K3 hK3 => ?_
  refine W_reg rfl ?_
  refine RL_some ?_; (refine X_move rfl ?_)
  refine RL_some ?_; (refine X_call T.ent13 rfl (calls_to (Add_spec (newM p r) 1 5 H) ?_); rintro v w ⟨rfl, _, h⟩; obtain ⟨b, H⟩ := h rfl)
  refine RL_some ?_; (refine X_assign rfl ?_)
  refine hK3 _ _ (W_keep (Keep.cons 1 rfl (Keep.cons 2 rfl Keep.nil)) ?_)
  refine W_seq_k fun K4 hK4 => ?_
  have hc0 : ∀ q, cnt ((newM p r).grown (1 : Int).toNat b (5 : Int).toNat).l q = 0 := fun q => rfl
  have hput : ∀ {w : World}, St w0 w (((newM p r).grown (1 : Int).toNat b (5 : Int).toNat).at_ ++ L) → _ := fun H =>
    Put_spec ((newM p r).grown (1 : Int).toNat b (5 : Int).toNat) aSpot ⟨by decide, by decide⟩ ⟨.inl rfl, by decide, (by decide : (1 : Int) ≤ 5), (by decide : (3 : Int) ≤ 5 - 1)⟩
      (fun k _ => by
        show (if k = 1 then List.replicate 5 none else []).length ≤ 65535
        split <;> simp) (by rw [show cnt ((newM p r).grown (1 : Int).toNat b (5 : Int).toNat).l = fun _ => 0 from funext hc0]; exact REF.nil) (fun l => l)
      (fun outs hO _ v w0 w L H => by cases told_at_none hc0 outs hO; exact told_none H) H
  refine W_reg rfl ?_
  refine RL_some ?_; (refine X_move rfl ?_)
  refine RL_some ?_; (refine X_build (cells := aSpot.head.enc.toArray) T.sh27 T.ze27 rfl (fill_put rfl rfl (Nat.le_of_ble_eq_true rfl) rfl (fill_put rfl rfl (Nat.le_of_ble_eq_true rfl) rfl (fill_put rfl rfl (Nat.le_of_ble_eq_true rfl) rfl (fill_put rfl rfl (Nat.le_of_ble_eq_true rfl) rfl rfl)))) ?_)
  refine RL_some ?_; (refine X_build (cells := aSpot.enc.toArray) T.sh29 T.ze29 rfl (fill_put rfl rfl (Nat.le_of_ble_eq_true rfl) rfl rfl) ?_)
  refine RL_some ?_; (refine X_call T.ent14 rfl (calls_to (hput H) ?_); rintro v w ⟨u, E, clock, outs, rfl, _, hO, _, H⟩)
  refine RL_some ?_; (refine X_move rfl ?_)
  refine RL_some ?_; (refine X_extract rfl rfl ?_)
  refine RL_some ?_; (refine X_extract rfl rfl ?_)
  refine RL_some ?_; (refine X_assign rfl ?_)
  refine RL_some ?_; (refine X_assign rfl ?_)
  refine hK4 _ _ (W_keep (Keep.cons 1 rfl (Keep.cons 2 rfl (Keep.cons 4 rfl Keep.nil))) ?_)
  obtain rfl := told_at_none hc0 outs hO
  have H := H.cut
  obtain ⟨m2, hp, hget, hsize, H2⟩ : ∃ m2 : PMx, m2.p = p ∧ getV m2 1 3 = some aSpot ∧ sizeOf_ m2 1 = 5 ∧ St w0 w (m2.at_ ++ L) := ⟨_, rfl, rfl, rfl, H⟩
  clear H
  subst hp
  have H := H2
  clear H2
  refine W_seq_k fun K5 hK5 => ?_
  refine W_reg rfl ?_
  refine RL_some ?_; (refine X_move rfl ?_)
  refine RL_some ?_; (refine X_call T.ent15 rfl (calls_to (Get_spec m2 1 3 H) ?_); rintro v w ⟨rfl, H⟩; rw [hget])
  refine RL_some ?_; (refine X_move rfl ?_)
  refine RL_some ?_; (refine X_extract rfl rfl ?_)
  refine RL_some ?_; (refine X_extract rfl rfl ?_)
  refine RL_some ?_; (refine S_alloc H T.ze29 ?_; intro b5 w H)
  refine RL_none ?_; (refine S_store H 0 T.ty29 rfl rfl rfl rfl (Nat.le_of_ble_eq_true rfl) rfl (c' := aSpot.enc.toArray) rfl ?_; intro w H)
  refine RL_some ?_; (refine X_assign rfl ?_)
  refine hK5 _ _ (W_keep (Keep.cons 1 rfl (Keep.cons 2 rfl (Keep.cons 4 rfl (Keep.cons 6 rfl Keep.nil)))) ?_)
  refine W_seq_k fun K6 hK6 => ?_
  refine W_reg rfl ?_
  refine RL_some ?_; (refine X_move rfl ?_)
  refine RL_some ?_; (first | refine X_cmp_t rfl rfl rfl (by first | assumption | omega) ?_ | refine X_cmp_f rfl rfl rfl (by first | assumption | omega) ?_ | refine X_bin rfl rfl rfl ?_)
  refine RL_some ?_; (refine X_move rfl ?_)
  (first | refine RL_off rfl rfl ?_ | refine RL_off' rfl rfl ?_ | (refine RL_on rfl rfl ?_; (refine X_move rfl ?_)))
  (first | refine RL_off rfl rfl ?_ | refine RL_off' rfl rfl ?_ | (refine RL_on rfl rfl ?_; (first | refine X_cmp_t rfl rfl rfl (by first | assumption | omega) ?_ | refine X_cmp_f rfl rfl rfl (by first | assumption | omega) ?_ | refine X_bin rfl rfl rfl ?_)))
  refine RL_some ?_; (refine X_pick rfl rfl ?_)
  refine RL_some ?_; (refine X_move rfl ?_)
  (first | refine RL_off rfl rfl ?_ | refine RL_off' rfl rfl ?_ | (refine RL_on rfl rfl ?_; (refine X_move rfl ?_)))
  refine RL_some ?_; (refine X_pick rfl rfl ?_)
  refine RL_some ?_; (refine X_move rfl ?_)
  (first | refine RL_off rfl rfl ?_ | refine RL_off' rfl rfl ?_ | (refine RL_on rfl rfl ?_; (refine X_move rfl ?_)))
  (first | refine RL_off rfl rfl ?_ | refine RL_off' rfl rfl ?_ | (refine RL_on rfl rfl ?_; (refine X_call T.ent23 rfl (calls_to (Size_spec m2 1 H.drop) ?_); rintro v w ⟨rfl, rfl⟩; rw [hsize])))
  (first | refine RL_off rfl rfl ?_ | refine RL_off' rfl rfl ?_ | (refine RL_on rfl rfl ?_; (first | refine X_cmp_t rfl rfl rfl (by first | assumption | omega) ?_ | refine X_cmp_f rfl rfl rfl (by first | assumption | omega) ?_ | refine X_bin rfl rfl rfl ?_)))
  refine RL_some ?_; (refine X_pick rfl rfl ?_)
  refine RL_some ?_; (refine X_assign rfl ?_)
  refine hK6 _ _ (W_keep (Keep.cons 0 rfl Keep.nil) ?_)
  refine W_ret ?_
  (try simp only [thenQ, blockQ, noGotoQ])
  refine body_tmp (.inr rfl) rfl rfl ?_
  exact ⟨rfl, St.dropApp H.drop⟩

theorem lessH_asym (a b : Hd) (h : lessH a b = true) : lessH b a = false := by
  unfold lessH at *
  by_cases e : a.epoch = b.epoch
  · rw [if_pos e] at h
    rw [if_pos e.symm]
    simp only [decide_eq_true_eq, decide_eq_false_iff_not] at *
    omega
  · rw [if_neg e] at h
    rw [if_neg (fun x => e x.symm)]
    simp only [decide_eq_true_eq, decide_eq_false_iff_not] at *
    omega
theorem lessH_unlike (a b : Hd) (h : a.epoch ≠ b.epoch ∨ a.counter ≠ b.counter) : lessH a b = true ∨ lessH b a = true := by
  unfold lessH
  by_cases e : a.epoch = b.epoch
  · rw [if_pos e, if_pos e.symm]
    simp only [decide_eq_true_eq]
    omega
  · rw [if_neg e, if_neg (fun x => e x.symm)]
    simp only [decide_eq_true_eq]
    omega
theorem newer_asym (a b : Spot) (h : newer a b = true) : newer b a = false := by
  unfold newer at *
  by_cases c1 : lessH b.head a.head = true
  · simp [lessH_asym _ _ c1, c1]
  · by_cases c2 : lessH a.head b.head = true
    · simp [c1, c2] at h
    · simp only [c1, c2] at h ⊢
      simpa using lessH_asym _ _ (by simpa using h)
theorem newer_unlike (a b : Spot) (h : a.head.epoch ≠ b.head.epoch ∨ a.head.counter ≠ b.head.counter) (hx : newer a b = false) : newer b a = true := by
  unfold newer at *
  rcases lessH_unlike _ _ h with c | c
  · simp [c]
  · simp [c] at hx

theorem Newers_spec (a b : Spot) {w0 w : World} {L : List Asn} (H : St w0 w L) :
    Calls Try.prog 3 #[.agg a.enc.toArray, .agg b.enc.toArray] w (After fun v w' => v = .bool true ∧ St w0 w' L) := by
  have hc : a.head.epoch ≠ b.head.epoch ∨ (a.head.epoch = b.head.epoch ∧ a.head.counter ≠ b.head.counter) ∨ (a.head.epoch = b.head.epoch ∧ a.head.counter = b.head.counter) := by omega
  have hno : newer a b = true → newer b a = true → False := fun h1 h2 => by rw [newer_asym a b h1] at h2; simp at h2
  have hun : (a.head.epoch ≠ b.head.epoch ∨ a.head.counter ≠ b.head.counter) → newer a b = false → newer b a = false → False := fun h h1 h2 => by rw [newer_unlike a b h h1] at h2; simp at h2
  rcases hc with hc | ⟨hc, hd⟩ | ⟨hc, hd⟩
  all_goals
    cases hx : newer a b <;> cases hy : newer b a
  all_goals
    first
    | exact (hno hx hy).elim
    | exact (hun (.inl hc) hx hy).elim
    | exact (hun (.inr hd) hx hy).elim
    | skip
  all_goals
    refine calls_of_W (N := 54) (args := [.agg a.enc.toArray, .agg b.enc.toArray]) Try.func3 rfl Try.ntmps3 (by simp) ?_
    refine W_seq_k fun K1 hK1 => ?_
    refine W_reg rfl ?_
    refine RL_some ?_; (refine S_box H rfl ?_; intro b2 w H)
    refine RL_some ?_; (refine S_box H rfl ?_; intro b3 w H)
    refine RL_some ?_; (refine X_assign rfl ?_)
    refine hK1 _ _ (W_keep (Keep.cons 2 rfl (Keep.cons 3 rfl Keep.nil)) ?_)
    refine W_seq_k fun K2 hK2 => ?_
    refine W_reg rfl ?_
    refine RL_some ?_; ((first | refine S_load H 0 T.ty29 rfl rfl rfl (Nat.le_of_ble_eq_true rfl) ?_ | refine S_load H 1 T.ty29 rfl rfl rfl (Nat.le_of_ble_eq_true rfl) ?_ | refine S_load H 2 T.ty29 rfl rfl rfl (Nat.le_of_ble_eq_true rfl) ?_ | refine S_load H 3 T.ty29 rfl rfl rfl (Nat.le_of_ble_eq_true rfl) ?_ | refine S_load H 4 T.ty29 rfl rfl rfl (Nat.le_of_ble_eq_true rfl) ?_ | refine S_load H 5 T.ty29 rfl rfl rfl (Nat.le_of_ble_eq_true rfl) ?_ | refine S_load H 6 T.ty29 rfl rfl rfl (Nat.le_of_ble_eq_true rfl) ?_ | refine S_load H 7 T.ty29 rfl rfl rfl (Nat.le_of_ble_eq_true rfl) ?_ | refine S_load H 8 T.ty29 rfl rfl rfl (Nat.le_of_ble_eq_true rfl) ?_ | refine S_load H 9 T.ty29 rfl rfl rfl (Nat.le_of_ble_eq_true rfl) ?_))
    refine RL_some ?_; ((first | refine S_load H 0 T.ty29 rfl rfl rfl (Nat.le_of_ble_eq_true rfl) ?_ | refine S_load H 1 T.ty29 rfl rfl rfl (Nat.le_of_ble_eq_true rfl) ?_ | refine S_load H 2 T.ty29 rfl rfl rfl (Nat.le_of_ble_eq_true rfl) ?_ | refine S_load H 3 T.ty29 rfl rfl rfl (Nat.le_of_ble_eq_true rfl) ?_ | refine S_load H 4 T.ty29 rfl rfl rfl (Nat.le_of_ble_eq_true rfl) ?_ | refine S_load H 5 T.ty29 rfl rfl rfl (Nat.le_of_ble_eq_true rfl) ?_ | refine S_load H 6 T.ty29 rfl rfl rfl (Nat.le_of_ble_eq_true rfl) ?_ | refine S_load H 7 T.ty29 rfl rfl rfl (Nat.le_of_ble_eq_true rfl) ?_ | refine S_load H 8 T.ty29 rfl rfl rfl (Nat.le_of_ble_eq_true rfl) ?_ | refine S_load H 9 T.ty29 rfl rfl rfl (Nat.le_of_ble_eq_true rfl) ?_))
    refine RL_some ?_; (refine X_call T.ent8 rfl ?_; refine Newer_calls a b H rfl ?_; intro w H; rw [hx])
    refine RL_some ?_; (refine X_assign rfl ?_)
    refine hK2 _ _ (W_keep (Keep.cons 2 rfl (Keep.cons 3 rfl (Keep.cons 5 rfl Keep.nil))) ?_)
    refine W_seq_k fun K3 hK3 => ?_
    refine W_reg rfl ?_
    refine RL_some ?_; ((first | refine S_load H 0 T.ty29 rfl rfl rfl (Nat.le_of_ble_eq_true rfl) ?_ | refine S_load H 1 T.ty29 rfl rfl rfl (Nat.le_of_ble_eq_true rfl) ?_ | refine S_load H 2 T.ty29 rfl rfl rfl (Nat.le_of_ble_eq_true rfl) ?_ | refine S_load H 3 T.ty29 rfl rfl rfl (Nat.le_of_ble_eq_true rfl) ?_ | refine S_load H 4 T.ty29 rfl rfl rfl (Nat.le_of_ble_eq_true rfl) ?_ | refine S_load H 5 T.ty29 rfl rfl rfl (Nat.le_of_ble_eq_true rfl) ?_ | refine S_load H 6 T.ty29 rfl rfl rfl (Nat.le_of_ble_eq_true rfl) ?_ | refine S_load H 7 T.ty29 rfl rfl rfl (Nat.le_of_ble_eq_true rfl) ?_ | refine S_load H 8 T.ty29 rfl rfl rfl (Nat.le_of_ble_eq_true rfl) ?_ | refine S_load H 9 T.ty29 rfl rfl rfl (Nat.le_of_ble_eq_true rfl) ?_))
    refine RL_some ?_; ((first | refine S_load H 0 T.ty29 rfl rfl rfl (Nat.le_of_ble_eq_true rfl) ?_ | refine S_load H 1 T.ty29 rfl rfl rfl (Nat.le_of_ble_eq_true rfl) ?_ | refine S_load H 2 T.ty29 rfl rfl rfl (Nat.le_of_ble_eq_true rfl) ?_ | refine S_load H 3 T.ty29 rfl rfl rfl (Nat.le_of_ble_eq_true rfl) ?_ | refine S_load H 4 T.ty29 rfl rfl rfl (Nat.le_of_ble_eq_true rfl) ?_ | refine S_load H 5 T.ty29 rfl rfl rfl (Nat.le_of_ble_eq_true rfl) ?_ | refine S_load H 6 T.ty29 rfl rfl rfl (Nat.le_of_ble_eq_true rfl) ?_ | refine S_load H 7 T.ty29 rfl rfl rfl (Nat.le_of_ble_eq_true rfl) ?_ | refine S_load H 8 T.ty29 rfl rfl rfl (Nat.le_of_ble_eq_true rfl) ?_ | refine S_load H 9 T.ty29 rfl rfl rfl (Nat.le_of_ble_eq_true rfl) ?_))
    refine RL_some ?_; (refine X_call T.ent8 rfl ?_; refine Newer_calls b a H rfl ?_; intro w H; rw [hy])
    refine RL_some ?_; (refine X_assign rfl ?_)
    refine hK3 _ _ (W_keep (Keep.cons 2 rfl (Keep.cons 3 rfl (Keep.cons 5 rfl (Keep.cons 6 rfl Keep.nil)))) ?_)
    refine W_seq_k fun K4 hK4 => ?_
    refine W_seq_k fun K5 hK5 => ?_
    refine W_draw (.p 0 (.p 1 (.p 3 (.e 2 [0, 3] (.e 4 [0] (.e 5 [0] (.p 6 (.p 7 (.p 8 (.p 9 (.p 10 (.p 11 (.p 12 .nil))))))) .none) .none) .none)))) T.mixed rfl ?_
    replace H := H.drew
    apply DD_pure rfl rfl; next => (intro _; refine X_move rfl ⟨rfl, rfl⟩)
    apply DD_read rfl rfl; next => ((first | refine S_load H 0 T.ty29 rfl rfl rfl (Nat.le_of_ble_eq_true rfl) ⟨rfl, rfl⟩ | refine S_load H 1 T.ty29 rfl rfl rfl (Nat.le_of_ble_eq_true rfl) ⟨rfl, rfl⟩ | refine S_load H 2 T.ty29 rfl rfl rfl (Nat.le_of_ble_eq_true rfl) ⟨rfl, rfl⟩ | refine S_load H 3 T.ty29 rfl rfl rfl (Nat.le_of_ble_eq_true rfl) ⟨rfl, rfl⟩ | refine S_load H 4 T.ty29 rfl rfl rfl (Nat.le_of_ble_eq_true rfl) ⟨rfl, rfl⟩ | refine S_load H 5 T.ty29 rfl rfl rfl (Nat.le_of_ble_eq_true rfl) ⟨rfl, rfl⟩ | refine S_load H 6 T.ty29 rfl rfl rfl (Nat.le_of_ble_eq_true rfl) ⟨rfl, rfl⟩ | refine S_load H 7 T.ty29 rfl rfl rfl (Nat.le_of_ble_eq_true rfl) ⟨rfl, rfl⟩ | refine S_load H 8 T.ty29 rfl rfl rfl (Nat.le_of_ble_eq_true rfl) ⟨rfl, rfl⟩ | refine S_load H 9 T.ty29 rfl rfl rfl (Nat.le_of_ble_eq_true rfl) ⟨rfl, rfl⟩))
    apply DD_read rfl rfl; next => ((first | refine S_load H 0 T.ty29 rfl rfl rfl (Nat.le_of_ble_eq_true rfl) ⟨rfl, rfl⟩ | refine S_load H 1 T.ty29 rfl rfl rfl (Nat.le_of_ble_eq_true rfl) ⟨rfl, rfl⟩ | refine S_load H 2 T.ty29 rfl rfl rfl (Nat.le_of_ble_eq_true rfl) ⟨rfl, rfl⟩ | refine S_load H 3 T.ty29 rfl rfl rfl (Nat.le_of_ble_eq_true rfl) ⟨rfl, rfl⟩ | refine S_load H 4 T.ty29 rfl rfl rfl (Nat.le_of_ble_eq_true rfl) ⟨rfl, rfl⟩ | refine S_load H 5 T.ty29 rfl rfl rfl (Nat.le_of_ble_eq_true rfl) ⟨rfl, rfl⟩ | refine S_load H 6 T.ty29 rfl rfl rfl (Nat.le_of_ble_eq_true rfl) ⟨rfl, rfl⟩ | refine S_load H 7 T.ty29 rfl rfl rfl (Nat.le_of_ble_eq_true rfl) ⟨rfl, rfl⟩ | refine S_load H 8 T.ty29 rfl rfl rfl (Nat.le_of_ble_eq_true rfl) ⟨rfl, rfl⟩ | refine S_load H 9 T.ty29 rfl rfl rfl (Nat.le_of_ble_eq_true rfl) ⟨rfl, rfl⟩))
    refine DD_eff rfl rfl ?_; (refine X_call T.ent10 rfl ?_; refine of_calls a H rfl ?_; intro w H)
    refine ⟨?_, ?_⟩; next => (repeat (first | exact rc_nil | refine rc_skip rfl ?_ | refine rc_true ?_ | (refine rc_read ?_ ?_; next => (first | ((first | refine S_load H 0 T.ty29 rfl rfl rfl (Nat.le_of_ble_eq_true rfl) ⟨rfl, rfl⟩ | refine S_load H 1 T.ty29 rfl rfl rfl (Nat.le_of_ble_eq_true rfl) ⟨rfl, rfl⟩ | refine S_load H 2 T.ty29 rfl rfl rfl (Nat.le_of_ble_eq_true rfl) ⟨rfl, rfl⟩ | refine S_load H 3 T.ty29 rfl rfl rfl (Nat.le_of_ble_eq_true rfl) ⟨rfl, rfl⟩ | refine S_load H 4 T.ty29 rfl rfl rfl (Nat.le_of_ble_eq_true rfl) ⟨rfl, rfl⟩ | refine S_load H 5 T.ty29 rfl rfl rfl (Nat.le_of_ble_eq_true rfl) ⟨rfl, rfl⟩ | refine S_load H 6 T.ty29 rfl rfl rfl (Nat.le_of_ble_eq_true rfl) ⟨rfl, rfl⟩ | refine S_load H 7 T.ty29 rfl rfl rfl (Nat.le_of_ble_eq_true rfl) ⟨rfl, rfl⟩ | refine S_load H 8 T.ty29 rfl rfl rfl (Nat.le_of_ble_eq_true rfl) ⟨rfl, rfl⟩ | refine S_load H 9 T.ty29 rfl rfl rfl (Nat.le_of_ble_eq_true rfl) ⟨rfl, rfl⟩))))))
    refine DD_eff rfl rfl ?_; (refine X_call T.ent10 rfl ?_; refine of_calls b H rfl ?_; intro w H)
    refine ⟨by repeat (first | exact rc_nil | refine rc_skip rfl ?_ | refine rc_true ?_), ?_⟩
    refine DD_eff rfl rfl ?_; (refine X_call T.ent9 rfl ?_; refine rNewer_calls a b H rfl ?_; intro w H; rw [hx])
    refine ⟨by repeat (first | exact rc_nil | refine rc_skip rfl ?_ | refine rc_true ?_), ?_⟩
    apply DD_pure rfl rfl; next => (intro _; refine X_neB Try.underlying4 rfl rfl ⟨rfl, rfl⟩)
    apply DD_pure rfl rfl; next => (intro _; refine X_move rfl ⟨rfl, rfl⟩)
    (first | refine DD_off rfl rfl rfl rfl ?_ | refine DD_off' rfl rfl rfl rfl ?_ | (apply DD_on rfl rfl rfl rfl; next => (intro _; refine X_move rfl ⟨rfl, rfl⟩)))
    (first | refine DD_off rfl rfl rfl rfl ?_ | refine DD_off' rfl rfl rfl rfl ?_ | (apply DD_on rfl rfl rfl rfl; next => (intro _; refine X_move rfl ⟨rfl, rfl⟩)))
    (first | refine DD_off rfl rfl rfl rfl ?_ | refine DD_off' rfl rfl rfl rfl ?_ | (apply DD_on rfl rfl rfl rfl; next => (intro _; refine X_move rfl ⟨rfl, rfl⟩)))
    (first | refine DD_off rfl rfl rfl rfl ?_ | refine DD_off' rfl rfl rfl rfl ?_ | (apply DD_on rfl rfl rfl rfl; next => (intro _; refine X_pick rfl rfl ⟨rfl, rfl⟩)))
    apply DD_pure rfl rfl; next => (intro _; refine X_pick rfl rfl ⟨rfl, rfl⟩)
    refine hK5 _ _ (W_keep (Keep.cons 2 rfl (Keep.cons 3 rfl (Keep.cons 5 rfl (Keep.cons 6 rfl (Keep.cons 26 rfl Keep.nil))))) ?_)
    refine W_false rfl (W_skip (hK4 _ _ ?_))
    refine W_seq_k fun K6 hK6 => ?_
    refine W_reg rfl ?_
    refine RL_some ?_; (refine X_fieldAddr T.fd29_1 rfl ?_)
    refine RL_some ?_; (refine X_fieldAddr T.fd27_4 rfl ?_)
    refine RL_some ?_; ((first | refine S_load1 H 0 T.ty25 rfl rfl rfl ?_ | refine S_load1 H 1 T.ty25 rfl rfl rfl ?_ | refine S_load1 H 2 T.ty25 rfl rfl rfl ?_ | refine S_load1 H 3 T.ty25 rfl rfl rfl ?_ | refine S_load1 H 4 T.ty25 rfl rfl rfl ?_ | refine S_load1 H 5 T.ty25 rfl rfl rfl ?_ | refine S_load1 H 6 T.ty25 rfl rfl rfl ?_ | refine S_load1 H 7 T.ty25 rfl rfl rfl ?_ | refine S_load1 H 8 T.ty25 rfl rfl rfl ?_ | refine S_load1 H 9 T.ty25 rfl rfl rfl ?_))
    refine RL_some ?_; (refine X_fieldAddr T.fd29_1 rfl ?_)
    refine RL_some ?_; (refine X_fieldAddr T.fd27_4 rfl ?_)
    refine RL_some ?_; ((first | refine S_load1 H 0 T.ty25 rfl rfl rfl ?_ | refine S_load1 H 1 T.ty25 rfl rfl rfl ?_ | refine S_load1 H 2 T.ty25 rfl rfl rfl ?_ | refine S_load1 H 3 T.ty25 rfl rfl rfl ?_ | refine S_load1 H 4 T.ty25 rfl rfl rfl ?_ | refine S_load1 H 5 T.ty25 rfl rfl rfl ?_ | refine S_load1 H 6 T.ty25 rfl rfl rfl ?_ | refine S_load1 H 7 T.ty25 rfl rfl rfl ?_ | refine S_load1 H 8 T.ty25 rfl rfl rfl ?_ | refine S_load1 H 9 T.ty25 rfl rfl rfl ?_))
    refine RL_some ?_; (first | refine X_ne_t rfl rfl rfl (by first | assumption | omega) ?_ | refine X_ne_f rfl rfl rfl (by first | assumption | omega) ?_ | refine X_bin rfl rfl rfl ?_)
    refine RL_some ?_; (refine X_move rfl ?_)
    (first | refine RL_off rfl rfl ?_ | refine RL_off' rfl rfl ?_ | (refine RL_on rfl rfl ?_; (refine X_fieldAddr T.fd29_1 rfl ?_)))
    (first | refine RL_off rfl rfl ?_ | refine RL_off' rfl rfl ?_ | (refine RL_on rfl rfl ?_; (refine X_fieldAddr T.fd27_5 rfl ?_)))
    (first | refine RL_off rfl rfl ?_ | refine RL_off' rfl rfl ?_ | (refine RL_on rfl rfl ?_; ((first | refine S_load1 H 0 T.ty25 rfl rfl rfl ?_ | refine S_load1 H 1 T.ty25 rfl rfl rfl ?_ | refine S_load1 H 2 T.ty25 rfl rfl rfl ?_ | refine S_load1 H 3 T.ty25 rfl rfl rfl ?_ | refine S_load1 H 4 T.ty25 rfl rfl rfl ?_ | refine S_load1 H 5 T.ty25 rfl rfl rfl ?_ | refine S_load1 H 6 T.ty25 rfl rfl rfl ?_ | refine S_load1 H 7 T.ty25 rfl rfl rfl ?_ | refine S_load1 H 8 T.ty25 rfl rfl rfl ?_ | refine S_load1 H 9 T.ty25 rfl rfl rfl ?_))))
    (first | refine RL_off rfl rfl ?_ | refine RL_off' rfl rfl ?_ | (refine RL_on rfl rfl ?_; (refine X_fieldAddr T.fd29_1 rfl ?_)))
    (first | refine RL_off rfl rfl ?_ | refine RL_off' rfl rfl ?_ | (refine RL_on rfl rfl ?_; (refine X_fieldAddr T.fd27_5 rfl ?_)))
    (first | refine RL_off rfl rfl ?_ | refine RL_off' rfl rfl ?_ | (refine RL_on rfl rfl ?_; ((first | refine S_load1 H 0 T.ty25 rfl rfl rfl ?_ | refine S_load1 H 1 T.ty25 rfl rfl rfl ?_ | refine S_load1 H 2 T.ty25 rfl rfl rfl ?_ | refine S_load1 H 3 T.ty25 rfl rfl rfl ?_ | refine S_load1 H 4 T.ty25 rfl rfl rfl ?_ | refine S_load1 H 5 T.ty25 rfl rfl rfl ?_ | refine S_load1 H 6 T.ty25 rfl rfl rfl ?_ | refine S_load1 H 7 T.ty25 rfl rfl rfl ?_ | refine S_load1 H 8 T.ty25 rfl rfl rfl ?_ | refine S_load1 H 9 T.ty25 rfl rfl rfl ?_))))
    (first | refine RL_off rfl rfl ?_ | refine RL_off' rfl rfl ?_ | (refine RL_on rfl rfl ?_; (first | refine X_ne_t rfl rfl rfl (by first | assumption | omega) ?_ | refine X_ne_f rfl rfl rfl (by first | assumption | omega) ?_ | refine X_bin rfl rfl rfl ?_)))
    refine RL_some ?_; (refine X_pick rfl rfl ?_)
    refine RL_some ?_; (refine X_assign rfl ?_)
    refine hK6 _ _ (W_keep (Keep.cons 5 rfl (Keep.cons 6 rfl (Keep.cons 7 rfl Keep.nil))) ?_)
    refine W_seq_k fun K7 hK7 => ?_
    refine W_reg rfl ?_
    refine RL_some ?_; (refine X_move rfl ?_)
    refine RL_some ?_; (refine X_not rfl ?_)
    refine RL_some ?_; (refine X_move rfl ?_)
    (first | refine RL_off rfl rfl ?_ | refine RL_off' rfl rfl ?_ | (refine RL_on rfl rfl ?_; (refine X_move rfl ?_)))
    refine RL_some ?_; (refine X_pick rfl rfl ?_)
    refine RL_some ?_; (refine X_move rfl ?_)
    (first | refine RL_off rfl rfl ?_ | refine RL_off' rfl rfl ?_ | (refine RL_on rfl rfl ?_; (refine X_move rfl ?_)))
    refine RL_some ?_; (refine X_pick rfl rfl ?_)
    refine RL_some ?_; (refine X_move rfl ?_)
    (first | refine RL_off rfl rfl ?_ | refine RL_off' rfl rfl ?_ | (refine RL_on rfl rfl ?_; (refine X_call T.ent11 rfl (calls_to (awake_spec H) ?_); rintro v w ⟨rfl, H⟩)))
    refine RL_some ?_; (refine X_pick rfl rfl ?_)
    refine RL_some ?_; (refine X_assign rfl ?_)
    refine hK7 _ _ (W_keep (Keep.cons 4 rfl Keep.nil) ?_)
    refine W_ret ?_
    (try simp only [thenQ, blockQ, noGotoQ])
    refine body_tmp (.inr rfl) rfl rfl ?_
    exact ⟨rfl, H.drop.drop⟩
end Go.Proofs.Ytinngnckojbpnaa
