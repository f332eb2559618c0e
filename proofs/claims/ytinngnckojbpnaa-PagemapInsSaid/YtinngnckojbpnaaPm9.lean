import Derived.Test.YtinngnckojbpnaaPm8
/-! pagemap: a nil map. -/
namespace Go.Proofs.Ytinngnckojbpnaa
open Go.Nep
set_option maxRecDepth 100000
set_option linter.unusedVariables false
set_option linter.unusedSimpArgs false
set_option maxHeartbeats 800000

theorem speaks_nil (s : Spot) {w0 w : World} {L : List Asn} (H : St w0 w L) :
    Calls Try.prog 28 #[.pointer none, .agg s.enc.toArray] w (After fun v w' => v = .slice none 0 0 ∧ St w0 w' L) := by
  have hcase : (s.head.kind ≠ 1 ∧ s.head.kind ≠ 2) ∨ (s.head.kind = 1 ∧ s.head.count < 1) ∨ (s.head.kind = 2 ∧ s.head.count < 1) ∨ (s.head.kind = 1 ∧ 1 ≤ s.head.count ∧ (0 : Int) < s.head.count) ∨ (s.head.kind = 2 ∧ 1 ≤ s.head.count ∧ (0 : Int) < s.head.count) := by omega
  rcases hcase with ⟨c1, c2⟩ | ⟨c1, c2⟩ | ⟨c1, c2⟩ | ⟨c1, c2, c3⟩ | ⟨c1, c2, c3⟩
  all_goals
    refine calls_of_W (N := 55) (args := [.pointer none, .agg s.enc.toArray]) Try.func28 rfl Try.ntmps28 (by simp) ?_
    refine W_seq_k fun K1 hK1 => ?_
    refine W_reg rfl ?_
    refine RL_some ?_; (refine S_box H rfl ?_; intro b3 w H)
    refine RL_some ?_; (refine X_assign rfl ?_)
    refine hK1 _ _ (W_keep (Keep.cons 0 rfl (Keep.cons 3 rfl Keep.nil)) ?_)
    refine W_seq_k fun K2 hK2 => ?_
    refine W_draw (.p 0 (.p 1 (.p 2 (.p 3 (.p 4 (.p 5 (.p 6 (.e 7 [0, 1, 2, 3, 4, 5, 6] (.p 8 (.e 9 [] .nil .none)) .none)))))))) T.mixed rfl ?_
    replace H := H.drew
    apply DD_pure rfl rfl; next => (intro _; refine X_move rfl ⟨rfl, rfl⟩)
    apply DD_pure rfl rfl; next => (intro _; refine X_fieldAddr T.fd29_1 rfl ⟨rfl, rfl⟩)
    apply DD_pure rfl rfl; next => (intro _; refine X_fieldAddr T.fd27_1 rfl ⟨rfl, rfl⟩)
    apply DD_read rfl rfl; next => ((first | refine S_load1 H 0 T.ty3 rfl rfl (v := i64 s.head.ns) rfl ⟨rfl, rfl⟩ | refine S_load1 H 1 T.ty3 rfl rfl (v := i64 s.head.ns) rfl ⟨rfl, rfl⟩ | refine S_load1 H 2 T.ty3 rfl rfl (v := i64 s.head.ns) rfl ⟨rfl, rfl⟩ | refine S_load1 H 3 T.ty3 rfl rfl (v := i64 s.head.ns) rfl ⟨rfl, rfl⟩ | refine S_load1 H 4 T.ty3 rfl rfl (v := i64 s.head.ns) rfl ⟨rfl, rfl⟩ | refine S_load1 H 5 T.ty3 rfl rfl (v := i64 s.head.ns) rfl ⟨rfl, rfl⟩ | refine S_load1 H 6 T.ty3 rfl rfl (v := i64 s.head.ns) rfl ⟨rfl, rfl⟩ | refine S_load1 H 7 T.ty3 rfl rfl (v := i64 s.head.ns) rfl ⟨rfl, rfl⟩ | refine S_load1 H 8 T.ty3 rfl rfl (v := i64 s.head.ns) rfl ⟨rfl, rfl⟩ | refine S_load1 H 9 T.ty3 rfl rfl (v := i64 s.head.ns) rfl ⟨rfl, rfl⟩))
    apply DD_read rfl rfl; next => (refine X_call T.ent31 rfl (own_nil s.head.ns))
    apply DD_pure rfl rfl; next => (intro _; refine X_fieldAddr T.fd29_1 rfl ⟨rfl, rfl⟩)
    apply DD_read rfl rfl; next => ((first | refine S_load H 0 T.ty27 rfl rfl (l := s.head.enc) rfl (Nat.le_of_ble_eq_true rfl) ⟨rfl, rfl⟩ | refine S_load H 1 T.ty27 rfl rfl (l := s.head.enc) rfl (Nat.le_of_ble_eq_true rfl) ⟨rfl, rfl⟩ | refine S_load H 2 T.ty27 rfl rfl (l := s.head.enc) rfl (Nat.le_of_ble_eq_true rfl) ⟨rfl, rfl⟩ | refine S_load H 3 T.ty27 rfl rfl (l := s.head.enc) rfl (Nat.le_of_ble_eq_true rfl) ⟨rfl, rfl⟩ | refine S_load H 4 T.ty27 rfl rfl (l := s.head.enc) rfl (Nat.le_of_ble_eq_true rfl) ⟨rfl, rfl⟩ | refine S_load H 5 T.ty27 rfl rfl (l := s.head.enc) rfl (Nat.le_of_ble_eq_true rfl) ⟨rfl, rfl⟩ | refine S_load H 6 T.ty27 rfl rfl (l := s.head.enc) rfl (Nat.le_of_ble_eq_true rfl) ⟨rfl, rfl⟩ | refine S_load H 7 T.ty27 rfl rfl (l := s.head.enc) rfl (Nat.le_of_ble_eq_true rfl) ⟨rfl, rfl⟩ | refine S_load H 8 T.ty27 rfl rfl (l := s.head.enc) rfl (Nat.le_of_ble_eq_true rfl) ⟨rfl, rfl⟩ | refine S_load H 9 T.ty27 rfl rfl (l := s.head.enc) rfl (Nat.le_of_ble_eq_true rfl) ⟨rfl, rfl⟩))
    refine DD_eff rfl rfl ?_; (refine S_alloc H T.ze27 ?_; intro b6 w H)
    refine ⟨?_, ?_⟩; next => (repeat (first | exact rc_nil | refine rc_skip rfl ?_ | refine rc_true ?_ | (refine rc_read ?_ ?_; next => (first | ((first | refine S_load1 H 0 T.ty3 rfl rfl (v := i64 s.head.ns) rfl ⟨rfl, rfl⟩ | refine S_load1 H 1 T.ty3 rfl rfl (v := i64 s.head.ns) rfl ⟨rfl, rfl⟩ | refine S_load1 H 2 T.ty3 rfl rfl (v := i64 s.head.ns) rfl ⟨rfl, rfl⟩ | refine S_load1 H 3 T.ty3 rfl rfl (v := i64 s.head.ns) rfl ⟨rfl, rfl⟩ | refine S_load1 H 4 T.ty3 rfl rfl (v := i64 s.head.ns) rfl ⟨rfl, rfl⟩ | refine S_load1 H 5 T.ty3 rfl rfl (v := i64 s.head.ns) rfl ⟨rfl, rfl⟩ | refine S_load1 H 6 T.ty3 rfl rfl (v := i64 s.head.ns) rfl ⟨rfl, rfl⟩ | refine S_load1 H 7 T.ty3 rfl rfl (v := i64 s.head.ns) rfl ⟨rfl, rfl⟩ | refine S_load1 H 8 T.ty3 rfl rfl (v := i64 s.head.ns) rfl ⟨rfl, rfl⟩ | refine S_load1 H 9 T.ty3 rfl rfl (v := i64 s.head.ns) rfl ⟨rfl, rfl⟩)) | (refine X_call T.ent31 rfl (own_nil s.head.ns)) | ((first | refine S_load H 0 T.ty27 rfl rfl (l := s.head.enc) rfl (Nat.le_of_ble_eq_true rfl) ⟨rfl, rfl⟩ | refine S_load H 1 T.ty27 rfl rfl (l := s.head.enc) rfl (Nat.le_of_ble_eq_true rfl) ⟨rfl, rfl⟩ | refine S_load H 2 T.ty27 rfl rfl (l := s.head.enc) rfl (Nat.le_of_ble_eq_true rfl) ⟨rfl, rfl⟩ | refine S_load H 3 T.ty27 rfl rfl (l := s.head.enc) rfl (Nat.le_of_ble_eq_true rfl) ⟨rfl, rfl⟩ | refine S_load H 4 T.ty27 rfl rfl (l := s.head.enc) rfl (Nat.le_of_ble_eq_true rfl) ⟨rfl, rfl⟩ | refine S_load H 5 T.ty27 rfl rfl (l := s.head.enc) rfl (Nat.le_of_ble_eq_true rfl) ⟨rfl, rfl⟩ | refine S_load H 6 T.ty27 rfl rfl (l := s.head.enc) rfl (Nat.le_of_ble_eq_true rfl) ⟨rfl, rfl⟩ | refine S_load H 7 T.ty27 rfl rfl (l := s.head.enc) rfl (Nat.le_of_ble_eq_true rfl) ⟨rfl, rfl⟩ | refine S_load H 8 T.ty27 rfl rfl (l := s.head.enc) rfl (Nat.le_of_ble_eq_true rfl) ⟨rfl, rfl⟩ | refine S_load H 9 T.ty27 rfl rfl (l := s.head.enc) rfl (Nat.le_of_ble_eq_true rfl) ⟨rfl, rfl⟩))))))
    apply DD_pure rfl rfl; next => (intro _; refine X_assign rfl ⟨rfl, rfl⟩)
    refine DD_eff rfl rfl ?_; (refine S_store H 0 T.ty27 rfl rfl rfl rfl (Nat.le_of_ble_eq_true rfl) rfl (c' := s.head.enc.toArray) rfl ?_; intro w H)
    refine ⟨by repeat (first | exact rc_nil | refine rc_skip rfl ?_ | refine rc_true ?_), ?_⟩
    refine hK2 _ _ (W_keep (Keep.cons 5 rfl (Keep.cons 6 rfl Keep.nil)) ?_)
    refine W_seq_k fun K3 hK3 => ?_
    refine W_seq_k fun K4 hK4 => ?_
    refine W_reg rfl ?_
    refine RL_some ?_; (refine X_fieldAddr T.fd27_0 rfl ?_)
    refine RL_some ?_; ((first | refine S_load1 H 0 T.ty3 rfl rfl rfl ?_ | refine S_load1 H 1 T.ty3 rfl rfl rfl ?_ | refine S_load1 H 2 T.ty3 rfl rfl rfl ?_ | refine S_load1 H 3 T.ty3 rfl rfl rfl ?_ | refine S_load1 H 4 T.ty3 rfl rfl rfl ?_ | refine S_load1 H 5 T.ty3 rfl rfl rfl ?_ | refine S_load1 H 6 T.ty3 rfl rfl rfl ?_ | refine S_load1 H 7 T.ty3 rfl rfl rfl ?_ | refine S_load1 H 8 T.ty3 rfl rfl rfl ?_ | refine S_load1 H 9 T.ty3 rfl rfl rfl ?_))
    refine RL_some ?_; (first | refine X_ne_t rfl rfl rfl (by first | assumption | omega) ?_ | refine X_ne_f rfl rfl rfl (by first | assumption | omega) ?_ | refine X_bin rfl rfl rfl ?_)
    refine RL_some ?_; (refine X_move rfl ?_)
    (first | refine RL_off rfl rfl ?_ | refine RL_off' rfl rfl ?_ | (refine RL_on rfl rfl ?_; (refine X_fieldAddr T.fd27_0 rfl ?_)))
    (first | refine RL_off rfl rfl ?_ | refine RL_off' rfl rfl ?_ | (refine RL_on rfl rfl ?_; ((first | refine S_load1 H 0 T.ty3 rfl rfl rfl ?_ | refine S_load1 H 1 T.ty3 rfl rfl rfl ?_ | refine S_load1 H 2 T.ty3 rfl rfl rfl ?_ | refine S_load1 H 3 T.ty3 rfl rfl rfl ?_ | refine S_load1 H 4 T.ty3 rfl rfl rfl ?_ | refine S_load1 H 5 T.ty3 rfl rfl rfl ?_ | refine S_load1 H 6 T.ty3 rfl rfl rfl ?_ | refine S_load1 H 7 T.ty3 rfl rfl rfl ?_ | refine S_load1 H 8 T.ty3 rfl rfl rfl ?_ | refine S_load1 H 9 T.ty3 rfl rfl rfl ?_))))
    (first | refine RL_off rfl rfl ?_ | refine RL_off' rfl rfl ?_ | (refine RL_on rfl rfl ?_; (first | refine X_ne_t rfl rfl rfl (by first | assumption | omega) ?_ | refine X_ne_f rfl rfl rfl (by first | assumption | omega) ?_ | refine X_bin rfl rfl rfl ?_)))
    refine RL_some ?_; (refine X_pick rfl rfl ?_)
    refine RL_some ?_; (refine X_move rfl ?_)
    (first | refine RL_off rfl rfl ?_ | refine RL_off' rfl rfl ?_ | (refine RL_on rfl rfl ?_; (refine X_fieldAddr T.fd27_2 rfl ?_)))
    (first | refine RL_off rfl rfl ?_ | refine RL_off' rfl rfl ?_ | (refine RL_on rfl rfl ?_; ((first | refine S_load1 H 0 T.ty3 rfl rfl rfl ?_ | refine S_load1 H 1 T.ty3 rfl rfl rfl ?_ | refine S_load1 H 2 T.ty3 rfl rfl rfl ?_ | refine S_load1 H 3 T.ty3 rfl rfl rfl ?_ | refine S_load1 H 4 T.ty3 rfl rfl rfl ?_ | refine S_load1 H 5 T.ty3 rfl rfl rfl ?_ | refine S_load1 H 6 T.ty3 rfl rfl rfl ?_ | refine S_load1 H 7 T.ty3 rfl rfl rfl ?_ | refine S_load1 H 8 T.ty3 rfl rfl rfl ?_ | refine S_load1 H 9 T.ty3 rfl rfl rfl ?_))))
    (first | refine RL_off rfl rfl ?_ | refine RL_off' rfl rfl ?_ | (refine RL_on rfl rfl ?_; (first | refine X_cmp_t rfl rfl rfl (by first | assumption | omega) ?_ | refine X_cmp_f rfl rfl rfl (by first | assumption | omega) ?_ | refine X_bin rfl rfl rfl ?_)))
    refine RL_some ?_; (refine X_pick rfl rfl ?_)
    refine RL_some ?_; (refine X_move rfl ?_)
    (first | refine RL_off rfl rfl ?_ | refine RL_off' rfl rfl ?_ | (refine RL_on rfl rfl ?_; (refine X_fieldAddr T.fd27_2 rfl ?_)))
    (first | refine RL_off rfl rfl ?_ | refine RL_off' rfl rfl ?_ | (refine RL_on rfl rfl ?_; ((first | refine S_load1 H 0 T.ty3 rfl rfl rfl ?_ | refine S_load1 H 1 T.ty3 rfl rfl rfl ?_ | refine S_load1 H 2 T.ty3 rfl rfl rfl ?_ | refine S_load1 H 3 T.ty3 rfl rfl rfl ?_ | refine S_load1 H 4 T.ty3 rfl rfl rfl ?_ | refine S_load1 H 5 T.ty3 rfl rfl rfl ?_ | refine S_load1 H 6 T.ty3 rfl rfl rfl ?_ | refine S_load1 H 7 T.ty3 rfl rfl rfl ?_ | refine S_load1 H 8 T.ty3 rfl rfl rfl ?_ | refine S_load1 H 9 T.ty3 rfl rfl rfl ?_))))
    (first | refine RL_off rfl rfl ?_ | refine RL_off' rfl rfl ?_ | (refine RL_on rfl rfl ?_; (refine X_move rfl ?_)))
    (first | refine RL_off rfl rfl ?_ | refine RL_off' rfl rfl ?_ | (refine RL_on rfl rfl ?_; (refine X_len T.sl70 rfl ?_)))
    (first | refine RL_off rfl rfl ?_ | refine RL_off' rfl rfl ?_ | (refine RL_on rfl rfl ?_; (first | refine X_cmp_t rfl rfl rfl (by first | assumption | omega) ?_ | refine X_cmp_f rfl rfl rfl (by first | assumption | omega) ?_ | refine X_bin rfl rfl rfl ?_)))
    refine RL_some ?_; (refine X_pick rfl rfl ?_)
    refine RL_some ?_; (refine X_move rfl ?_)
    (first | refine RL_off rfl rfl ?_ | refine RL_off' rfl rfl ?_ | (refine RL_on rfl rfl ?_; (refine X_fieldAddr T.fd27_3 rfl ?_)))
    (first | refine RL_off rfl rfl ?_ | refine RL_off' rfl rfl ?_ | (refine RL_on rfl rfl ?_; ((first | refine S_load1 H 0 T.ty24 rfl rfl rfl ?_ | refine S_load1 H 1 T.ty24 rfl rfl rfl ?_ | refine S_load1 H 2 T.ty24 rfl rfl rfl ?_ | refine S_load1 H 3 T.ty24 rfl rfl rfl ?_ | refine S_load1 H 4 T.ty24 rfl rfl rfl ?_ | refine S_load1 H 5 T.ty24 rfl rfl rfl ?_ | refine S_load1 H 6 T.ty24 rfl rfl rfl ?_ | refine S_load1 H 7 T.ty24 rfl rfl rfl ?_ | refine S_load1 H 8 T.ty24 rfl rfl rfl ?_ | refine S_load1 H 9 T.ty24 rfl rfl rfl ?_))))
    (first | refine RL_off rfl rfl ?_ | refine RL_off' rfl rfl ?_ | (refine RL_on rfl rfl ?_; (refine X_conv T.in24 T.in2 rfl ?_)))
    (first | refine RL_off rfl rfl ?_ | refine RL_off' rfl rfl ?_ | (refine RL_on rfl rfl ?_; (refine X_move rfl ?_)))
    (first | refine RL_off rfl rfl ?_ | refine RL_off' rfl rfl ?_ | (refine RL_on rfl rfl ?_; (refine X_len T.sl70 rfl ?_)))
    (first | refine RL_off rfl rfl ?_ | refine RL_off' rfl rfl ?_ | (refine RL_on rfl rfl ?_; (refine X_fieldAddr T.fd27_2 rfl ?_)))
    (first | refine RL_off rfl rfl ?_ | refine RL_off' rfl rfl ?_ | (refine RL_on rfl rfl ?_; ((first | refine S_load1 H 0 T.ty3 rfl rfl rfl ?_ | refine S_load1 H 1 T.ty3 rfl rfl rfl ?_ | refine S_load1 H 2 T.ty3 rfl rfl rfl ?_ | refine S_load1 H 3 T.ty3 rfl rfl rfl ?_ | refine S_load1 H 4 T.ty3 rfl rfl rfl ?_ | refine S_load1 H 5 T.ty3 rfl rfl rfl ?_ | refine S_load1 H 6 T.ty3 rfl rfl rfl ?_ | refine S_load1 H 7 T.ty3 rfl rfl rfl ?_ | refine S_load1 H 8 T.ty3 rfl rfl rfl ?_ | refine S_load1 H 9 T.ty3 rfl rfl rfl ?_))))
    (first | refine RL_off rfl rfl ?_ | refine RL_off' rfl rfl ?_ | (refine RL_on rfl rfl ?_; (first | refine X_int rfl rfl rfl (by omega) ?_ | refine X_bin rfl rfl rfl ?_)))
    (first | refine RL_off rfl rfl ?_ | refine RL_off' rfl rfl ?_ | (refine RL_on rfl rfl ?_; (first | refine X_cmp_t rfl rfl rfl (by first | assumption | omega) ?_ | refine X_cmp_f rfl rfl rfl (by first | assumption | omega) ?_ | refine X_bin rfl rfl rfl ?_)))
    refine RL_some ?_; (refine X_pick rfl rfl ?_)
    refine hK4 _ _ (W_keep (Keep.cons 5 rfl (Keep.cons 6 rfl (Keep.cons 44 rfl Keep.nil))) ?_)
    refine W_true rfl ?_
    refine W_seq_k fun K5 hK5 => ?_
    refine W_reg rfl ?_
    refine RL_some ?_; (refine X_assign rfl ?_)
    refine hK5 _ _ (W_keep (Keep.cons 4 rfl Keep.nil) ?_)
    refine W_ret ?_
    (try simp only [thenQ, blockQ, noGotoQ])
    refine body_tmp (.inr rfl) rfl rfl ?_
    exact ⟨rfl, H.drop.drop⟩

theorem Put_nil (s : Spot) {w0 w : World} {L : List Asn} (H : St w0 w L) :
    Calls Try.prog 14 #[.pointer none, .agg s.enc.toArray] w (After fun v w' => v = .tuple #[.slice none 0 0, i64 2] ∧ St w0 w' L) := by
  refine calls_of_W (N := 54) (args := [.pointer none, .agg s.enc.toArray]) Try.func14 rfl Try.ntmps14 (by simp) ?_
  refine W_seq_k fun K1 hK1 => ?_
  refine W_reg rfl ?_
  refine RL_some ?_; (refine S_box H rfl ?_; intro b3 w H)
  refine RL_some ?_; (refine X_assign rfl ?_)
  refine RL_some ?_; (refine X_assign rfl ?_)
  refine hK1 _ _ (W_keep (Keep.cons 0 rfl (Keep.cons 3 rfl Keep.nil)) ?_)
  refine W_seq_k fun K2 hK2 => ?_
  refine W_reg rfl ?_
  refine RL_some ?_; (refine X_move rfl ?_)
  refine RL_some ?_; ((first | refine S_load H 0 T.ty29 rfl rfl (l := s.enc) rfl (Nat.le_of_ble_eq_true rfl) ?_ | refine S_load H 1 T.ty29 rfl rfl (l := s.enc) rfl (Nat.le_of_ble_eq_true rfl) ?_ | refine S_load H 2 T.ty29 rfl rfl (l := s.enc) rfl (Nat.le_of_ble_eq_true rfl) ?_ | refine S_load H 3 T.ty29 rfl rfl (l := s.enc) rfl (Nat.le_of_ble_eq_true rfl) ?_ | refine S_load H 4 T.ty29 rfl rfl (l := s.enc) rfl (Nat.le_of_ble_eq_true rfl) ?_ | refine S_load H 5 T.ty29 rfl rfl (l := s.enc) rfl (Nat.le_of_ble_eq_true rfl) ?_ | refine S_load H 6 T.ty29 rfl rfl (l := s.enc) rfl (Nat.le_of_ble_eq_true rfl) ?_ | refine S_load H 7 T.ty29 rfl rfl (l := s.enc) rfl (Nat.le_of_ble_eq_true rfl) ?_ | refine S_load H 8 T.ty29 rfl rfl (l := s.enc) rfl (Nat.le_of_ble_eq_true rfl) ?_ | refine S_load H 9 T.ty29 rfl rfl (l := s.enc) rfl (Nat.le_of_ble_eq_true rfl) ?_))
  refine RL_some ?_; (refine X_call T.ent28 rfl (calls_to (speaks_nil s H) ?_); rintro v w ⟨rfl, H⟩)
  refine RL_some ?_; (refine X_assign rfl ?_)
  refine hK2 _ _ (W_keep (Keep.cons 0 rfl (Keep.cons 3 rfl (Keep.cons 6 rfl Keep.nil))) ?_)
  refine W_seq_k fun K3 hK3 => ?_
  refine W_seq_k fun K4 hK4 => ?_
  refine W_reg rfl ?_
  refine RL_some ?_; (refine X_move rfl ?_)
  refine RL_some ?_; (refine X_len T.sl70 rfl ?_)
  refine RL_some ?_; (first | refine X_cmp_t rfl rfl rfl (by first | assumption | omega) ?_ | refine X_cmp_f rfl rfl rfl (by first | assumption | omega) ?_ | refine X_bin rfl rfl rfl ?_)
  refine hK4 _ _ (W_keep (Keep.cons 0 rfl (Keep.cons 3 rfl (Keep.cons 6 rfl (Keep.cons 15 rfl Keep.nil)))) ?_)
  refine W_true rfl ?_
  refine W_seq_k fun K5 hK5 => ?_
  refine W_reg rfl ?_
  refine RL_some ?_; (refine X_assign rfl ?_)
  refine RL_some ?_; (refine X_assign rfl ?_)
  refine hK5 _ _ (W_keep (Keep.cons 4 rfl (Keep.cons 5 rfl Keep.nil)) ?_)
  refine W_ret ?_
  (try simp only [thenQ, blockQ, noGotoQ])
  refine body_tmp2 (.inr rfl) rfl rfl rfl ?_
  exact ⟨rfl, H.drop⟩

theorem Drop_nil (ns : Int) {w0 w : World} {L : List Asn} (H : St w0 w L) :
    Calls Try.prog 22 #[.pointer none, i64 ns] w (After fun v w' => v = .tuple #[.slice none 0 0, i64 2] ∧ St w0 w' L) := by
  refine calls_of_W (N := 34) (args := [.pointer none, i64 ns]) Try.func22 rfl Try.ntmps22 (by simp) ?_
  refine W_seq_k fun K1 hK1 => ?_
  refine W_reg rfl ?_
  refine RL_some ?_; (refine X_assign rfl ?_)
  refine RL_some ?_; (refine X_assign rfl ?_)
  refine hK1 _ _ (W_keep (Keep.cons 0 rfl (Keep.cons 1 rfl Keep.nil)) ?_)
  refine W_seq_k fun K2 hK2 => ?_
  refine W_reg rfl ?_
  refine RL_some ?_; (refine X_move rfl ?_)
  refine RL_some ?_; (refine X_move rfl ?_)
  refine RL_some ?_; (refine X_call T.ent31 rfl (calls_to (own_nil ns) ?_); rintro v w ⟨rfl, rfl⟩)
  refine RL_some ?_; (refine X_assign rfl ?_)
  refine hK2 _ _ (W_keep (Keep.cons 0 rfl (Keep.cons 1 rfl (Keep.cons 6 rfl Keep.nil))) ?_)
  refine W_seq_k fun K3 hK3 => ?_
  refine W_seq_k fun K4 hK4 => ?_
  refine W_reg rfl ?_
  refine RL_some ?_; (refine X_move rfl ?_)
  refine RL_some ?_; (refine X_len T.sl70 rfl ?_)
  refine RL_some ?_; (first | refine X_cmp_t rfl rfl rfl (by first | assumption | omega) ?_ | refine X_cmp_f rfl rfl rfl (by first | assumption | omega) ?_ | refine X_bin rfl rfl rfl ?_)
  refine hK4 _ _ (W_keep (Keep.cons 0 rfl (Keep.cons 1 rfl (Keep.cons 6 rfl (Keep.cons 15 rfl Keep.nil)))) ?_)
  refine W_true rfl ?_
  refine W_seq_k fun K5 hK5 => ?_
  refine W_reg rfl ?_
  refine RL_some ?_; (refine X_assign rfl ?_)
  refine RL_some ?_; (refine X_assign rfl ?_)
  refine hK5 _ _ (W_keep (Keep.cons 4 rfl (Keep.cons 5 rfl Keep.nil)) ?_)
  refine W_ret ?_
  (try simp only [thenQ, blockQ, noGotoQ])
  refine body_tmp2 (.inr rfl) rfl rfl rfl ?_
  exact ⟨rfl, H⟩

theorem Move_nil (a b : Pl) (o : Hd) {w0 w : World} {L : List Asn} (H : St w0 w L) :
    Calls Try.prog 24 #[.pointer none, pk a, pk b, .agg o.enc.toArray] w (After fun v w' => v = i64 2 ∧ St w0 w' L) := by
  refine calls_of_W (N := 91) (args := [.pointer none, pk a, pk b, .agg o.enc.toArray]) Try.func24 rfl Try.ntmps24 (by simp) ?_
  refine W_seq_k fun K1 hK1 => ?_
  refine W_reg rfl ?_
  refine RL_some ?_; (refine S_box H rfl ?_; intro b5 w H)
  refine RL_some ?_; (refine S_box H rfl ?_; intro b6 w H)
  refine RL_some ?_; (refine S_box H rfl ?_; intro b7 w H)
  refine RL_some ?_; (refine X_assign rfl ?_)
  refine hK1 _ _ (W_keep (Keep.cons 0 rfl (Keep.cons 5 rfl (Keep.cons 6 rfl (Keep.cons 7 rfl Keep.nil)))) ?_)
  refine W_seq_k fun K2 hK2 => ?_
  refine W_seq_k fun K3 hK3 => ?_
  refine W_draw (.p 0 (.p 1 (.p 2 (.p 3 (.p 4 (.p 5 (.p 6 (.p 7 (.p 8 (.p 9 (.p 10 (.p 11 (.p 12 (.p 13 (.p 14 (.p 15 .nil)))))))))))))))) T.mixed rfl ?_
  replace H := H.drew
  apply DD_pure rfl rfl; next => (intro _; refine X_move rfl ⟨rfl, rfl⟩)
  apply DD_pure rfl rfl; next => (intro _; first | refine X_isnil T.pt37 rfl rfl ⟨rfl, rfl⟩ | refine X_isnil' T.pt37 rfl rfl ⟨rfl, rfl⟩)
  apply DD_pure rfl rfl; next => (intro _; refine X_move rfl ⟨rfl, rfl⟩)
  (first | refine DD_off rfl rfl rfl rfl ?_ | refine DD_off' rfl rfl rfl rfl ?_ | (apply DD_read_on rfl rfl rfl rfl; next => ((first | refine S_load H 0 T.ty23 rfl rfl rfl (Nat.le_of_ble_eq_true rfl) ⟨rfl, rfl⟩ | refine S_load H 1 T.ty23 rfl rfl rfl (Nat.le_of_ble_eq_true rfl) ⟨rfl, rfl⟩ | refine S_load H 2 T.ty23 rfl rfl rfl (Nat.le_of_ble_eq_true rfl) ⟨rfl, rfl⟩ | refine S_load H 3 T.ty23 rfl rfl rfl (Nat.le_of_ble_eq_true rfl) ⟨rfl, rfl⟩ | refine S_load H 4 T.ty23 rfl rfl rfl (Nat.le_of_ble_eq_true rfl) ⟨rfl, rfl⟩ | refine S_load H 5 T.ty23 rfl rfl rfl (Nat.le_of_ble_eq_true rfl) ⟨rfl, rfl⟩ | refine S_load H 6 T.ty23 rfl rfl rfl (Nat.le_of_ble_eq_true rfl) ⟨rfl, rfl⟩ | refine S_load H 7 T.ty23 rfl rfl rfl (Nat.le_of_ble_eq_true rfl) ⟨rfl, rfl⟩ | refine S_load H 8 T.ty23 rfl rfl rfl (Nat.le_of_ble_eq_true rfl) ⟨rfl, rfl⟩ | refine S_load H 9 T.ty23 rfl rfl rfl (Nat.le_of_ble_eq_true rfl) ⟨rfl, rfl⟩))))
  (first | refine DD_off rfl rfl rfl rfl ?_ | refine DD_off' rfl rfl rfl rfl ?_ | (apply DD_read_on rfl rfl rfl rfl; next => ((first | refine S_load H 0 T.ty23 rfl rfl rfl (Nat.le_of_ble_eq_true rfl) ⟨rfl, rfl⟩ | refine S_load H 1 T.ty23 rfl rfl rfl (Nat.le_of_ble_eq_true rfl) ⟨rfl, rfl⟩ | refine S_load H 2 T.ty23 rfl rfl rfl (Nat.le_of_ble_eq_true rfl) ⟨rfl, rfl⟩ | refine S_load H 3 T.ty23 rfl rfl rfl (Nat.le_of_ble_eq_true rfl) ⟨rfl, rfl⟩ | refine S_load H 4 T.ty23 rfl rfl rfl (Nat.le_of_ble_eq_true rfl) ⟨rfl, rfl⟩ | refine S_load H 5 T.ty23 rfl rfl rfl (Nat.le_of_ble_eq_true rfl) ⟨rfl, rfl⟩ | refine S_load H 6 T.ty23 rfl rfl rfl (Nat.le_of_ble_eq_true rfl) ⟨rfl, rfl⟩ | refine S_load H 7 T.ty23 rfl rfl rfl (Nat.le_of_ble_eq_true rfl) ⟨rfl, rfl⟩ | refine S_load H 8 T.ty23 rfl rfl rfl (Nat.le_of_ble_eq_true rfl) ⟨rfl, rfl⟩ | refine S_load H 9 T.ty23 rfl rfl rfl (Nat.le_of_ble_eq_true rfl) ⟨rfl, rfl⟩))))
  (first | refine DD_off rfl rfl rfl rfl ?_ | refine DD_off' rfl rfl rfl rfl ?_ | (apply DD_on rfl rfl rfl rfl; next => (intro _; fail)))
  (first | refine DD_off rfl rfl rfl rfl ?_ | refine DD_off' rfl rfl rfl rfl ?_ | (apply DD_on rfl rfl rfl rfl; next => (intro _; refine X_move rfl ⟨rfl, rfl⟩)))
  (first | refine DD_off rfl rfl rfl rfl ?_ | refine DD_off' rfl rfl rfl rfl ?_ | (apply DD_on rfl rfl rfl rfl; next => (intro _; refine X_move rfl ⟨rfl, rfl⟩)))
  (first | refine DD_off rfl rfl rfl rfl ?_ | refine DD_off' rfl rfl rfl rfl ?_ | (apply DD_on rfl rfl rfl rfl; next => (intro _; first | refine X_nil rfl ⟨rfl, rfl⟩ | refine X_nil_func rfl ⟨rfl, rfl⟩)))
  (first | refine DD_off rfl rfl rfl rfl ?_ | refine DD_off' rfl rfl rfl rfl ?_ | (apply DD_on rfl rfl rfl rfl; next => (intro _; refine X_fieldAddr T.fd73_1 rfl ⟨rfl, rfl⟩)))
  (first | refine DD_off rfl rfl rfl rfl ?_ | refine DD_off' rfl rfl rfl rfl ?_ | (apply DD_read_on rfl rfl rfl rfl; next => ((first | refine S_load1 H 0 T.ty69 rfl rfl rfl ⟨rfl, rfl⟩ | refine S_load1 H 1 T.ty69 rfl rfl rfl ⟨rfl, rfl⟩ | refine S_load1 H 2 T.ty69 rfl rfl rfl ⟨rfl, rfl⟩ | refine S_load1 H 3 T.ty69 rfl rfl rfl ⟨rfl, rfl⟩ | refine S_load1 H 4 T.ty69 rfl rfl rfl ⟨rfl, rfl⟩ | refine S_load1 H 5 T.ty69 rfl rfl rfl ⟨rfl, rfl⟩ | refine S_load1 H 6 T.ty69 rfl rfl rfl ⟨rfl, rfl⟩ | refine S_load1 H 7 T.ty69 rfl rfl rfl ⟨rfl, rfl⟩ | refine S_load1 H 8 T.ty69 rfl rfl rfl ⟨rfl, rfl⟩ | refine S_load1 H 9 T.ty69 rfl rfl rfl ⟨rfl, rfl⟩))))
  (first | refine DD_off rfl rfl rfl rfl ?_ | refine DD_off' rfl rfl rfl rfl ?_ | (apply DD_read_on rfl rfl rfl rfl; next => ((first | refine S_load H 0 T.ty23 rfl rfl rfl (Nat.le_of_ble_eq_true rfl) ⟨rfl, rfl⟩ | refine S_load H 1 T.ty23 rfl rfl rfl (Nat.le_of_ble_eq_true rfl) ⟨rfl, rfl⟩ | refine S_load H 2 T.ty23 rfl rfl rfl (Nat.le_of_ble_eq_true rfl) ⟨rfl, rfl⟩ | refine S_load H 3 T.ty23 rfl rfl rfl (Nat.le_of_ble_eq_true rfl) ⟨rfl, rfl⟩ | refine S_load H 4 T.ty23 rfl rfl rfl (Nat.le_of_ble_eq_true rfl) ⟨rfl, rfl⟩ | refine S_load H 5 T.ty23 rfl rfl rfl (Nat.le_of_ble_eq_true rfl) ⟨rfl, rfl⟩ | refine S_load H 6 T.ty23 rfl rfl rfl (Nat.le_of_ble_eq_true rfl) ⟨rfl, rfl⟩ | refine S_load H 7 T.ty23 rfl rfl rfl (Nat.le_of_ble_eq_true rfl) ⟨rfl, rfl⟩ | refine S_load H 8 T.ty23 rfl rfl rfl (Nat.le_of_ble_eq_true rfl) ⟨rfl, rfl⟩ | refine S_load H 9 T.ty23 rfl rfl rfl (Nat.le_of_ble_eq_true rfl) ⟨rfl, rfl⟩))))
  (first | refine DD_off rfl rfl rfl rfl ?_ | refine DD_off' rfl rfl rfl rfl ?_ | (apply DD_read_on rfl rfl rfl rfl; next => (fail)))
  (first | refine DD_off rfl rfl rfl rfl ?_ | refine DD_off' rfl rfl rfl rfl ?_ | (apply DD_on rfl rfl rfl rfl; next => (intro _; first | refine X_cmp_t rfl rfl rfl (by first | assumption | omega) ⟨rfl, rfl⟩ | refine X_cmp_f rfl rfl rfl (by first | assumption | omega) ⟨rfl, rfl⟩ | refine X_bin rfl rfl rfl ⟨rfl, rfl⟩)))
  (first | refine DD_off rfl rfl rfl rfl ?_ | refine DD_off' rfl rfl rfl rfl ?_ | (apply DD_on rfl rfl rfl rfl; next => (intro _; refine X_pick rfl rfl ⟨rfl, rfl⟩)))
  apply DD_pure rfl rfl; next => (intro _; refine X_pick rfl rfl ⟨rfl, rfl⟩)
  refine hK3 _ _ (W_keep (Keep.cons 0 rfl (Keep.cons 5 rfl (Keep.cons 6 rfl (Keep.cons 7 rfl (Keep.cons 29 rfl Keep.nil))))) ?_)
  refine W_true rfl ?_
  refine W_seq_k fun K4 hK4 => ?_
  refine W_reg rfl ?_
  refine RL_some ?_; (refine X_assign rfl ?_)
  refine hK4 _ _ (W_keep (Keep.cons 8 rfl Keep.nil) ?_)
  refine W_ret ?_
  (try simp only [thenQ, blockQ, noGotoQ])
  refine body_tmp (.inr rfl) rfl rfl ?_
  exact ⟨rfl, H.drop.drop.drop⟩

theorem Data_nil (ns : Int) {w0 w : World} {L : List Asn} (H : St w0 w L) :
    Calls Try.prog 25 #[.pointer none, i64 ns] w (After fun v w' => v = i64 0 ∧ St w0 w' L) := by
  refine calls_of_W (N := 29) (args := [.pointer none, i64 ns]) Try.func25 rfl Try.ntmps25 (by simp) ?_
  refine W_seq_k fun K1 hK1 => ?_
  refine W_reg rfl ?_
  refine RL_some ?_; (refine X_assign rfl ?_)
  refine hK1 _ _ (W_keep (Keep.cons 0 rfl (Keep.cons 1 rfl Keep.nil)) ?_)
  refine W_seq_k fun K2 hK2 => ?_
  refine W_reg rfl ?_
  refine RL_some ?_; (refine X_assign rfl ?_)
  refine hK2 _ _ (W_keep (Keep.cons 0 rfl (Keep.cons 1 rfl (Keep.cons 5 rfl Keep.nil))) ?_)
  refine W_seq_k fun K3 hK3 => ?_
  refine W_seq_k fun K4 hK4 => ?_
  refine W_reg rfl ?_
  refine RL_some ?_; (refine X_move rfl ?_)
  refine RL_some ?_; (refine X_move rfl ?_)
  refine RL_some ?_; (refine X_call T.ent31 rfl (calls_to (own_nil ns) ?_); rintro v w ⟨rfl, rfl⟩)
  refine RL_some ?_; (refine X_len T.sl70 rfl ?_)
  refine RL_some ?_; (refine X_move rfl ?_)
  refine hK4 _ _ (W_keep (Keep.cons 5 rfl (Keep.cons 10 rfl (Keep.cons 11 rfl (Keep.cons 12 rfl Keep.nil)))) ?_)
  refine W_block ?_
  refine W_loop (fun _ pf w' => Keep pf [(5, i64 0), (10, .slice none 0 0), (11, i64 0), (12, i64 0)] ∧ St w0 w' L) 0 ⟨(Keep.cons 5 rfl (Keep.cons 10 rfl (Keep.cons 11 rfl (Keep.cons 12 rfl Keep.nil)))), H⟩ ?_
  rintro n pf w ⟨hpf, H⟩
  refine W_keep hpf ?_
  clear hpf
  refine W_seq_k fun K5 hK5 => ?_
  refine W_reg rfl ?_
  refine RL_some ?_; (first | refine X_cmp_t rfl rfl rfl (by first | assumption | omega) ?_ | refine X_cmp_f rfl rfl rfl (by first | assumption | omega) ?_ | refine X_bin rfl rfl rfl ?_)
  refine hK5 _ _ (W_keep (Keep.cons 5 rfl (Keep.cons 10 rfl (Keep.cons 11 rfl (Keep.cons 12 rfl (Keep.cons 13 rfl Keep.nil))))) ?_)
  refine W_seq_k fun K6 hK6 => ?_
  refine W_false rfl (W_exit ?_)
  simp only [thenQ, blockQ, if_true]
  refine hK3 _ _ ?_
  refine W_seq_k fun K7 hK7 => ?_
  refine W_reg rfl ?_
  refine RL_some ?_; (refine X_move rfl ?_)
  refine RL_some ?_; (refine X_assign rfl ?_)
  refine hK7 _ _ (W_keep (Keep.cons 4 rfl Keep.nil) ?_)
  refine W_ret ?_
  (try simp only [thenQ, blockQ, noGotoQ])
  refine body_tmp (.inr rfl) rfl rfl ?_
  exact ⟨rfl, H⟩

theorem In_nil (b : Int) {w0 w : World} {L : List Asn} (H : St w0 w L) :
    Calls Try.prog 21 #[.pointer none, i64 b] w (After fun v w' => v = .slice none 0 0 ∧ St w0 w' L) := by
  refine calls_of_W (N := 58) (args := [.pointer none, i64 b]) Try.func21 rfl Try.ntmps21 (by simp) ?_
  refine W_seq_k fun K1 hK1 => ?_
  refine W_reg rfl ?_
  refine RL_some ?_; (refine X_assign rfl ?_)
  refine hK1 _ _ (W_keep (Keep.cons 0 rfl (Keep.cons 1 rfl Keep.nil)) ?_)
  refine W_seq_k fun K2 hK2 => ?_
  refine W_reg rfl ?_
  refine RL_some ?_; (refine X_assign rfl ?_)
  refine hK2 _ _ (W_keep (Keep.cons 0 rfl (Keep.cons 1 rfl (Keep.cons 5 rfl Keep.nil))) ?_)
  refine W_seq_k fun K3 hK3 => ?_
  refine W_reg rfl ?_
  refine RL_some ?_; (refine S_makeMap H pk ?_; intro r w H)
  refine RL_some ?_; (refine X_assign rfl ?_)
  refine hK3 _ _ (W_keep (Keep.cons 0 rfl (Keep.cons 1 rfl (Keep.cons 5 rfl (Keep.cons 6 rfl Keep.nil)))) ?_)
  replace H := H.drop
  refine W_seq_k fun K4 hK4 => ?_
  refine W_seq_k fun K5 hK5 => ?_
  refine W_reg rfl ?_
  refine RL_some ?_; (refine X_move rfl ?_)
  refine hK5 _ _ (W_keep (Keep.cons 0 rfl (Keep.cons 1 rfl (Keep.cons 5 rfl (Keep.cons 6 rfl (Keep.cons 11 rfl Keep.nil))))) ?_)
  refine W_block ?_
  refine W_loop (fun n pf w' => ∃ i : Nat, i + n = 4 ∧ Keep pf [(0, .pointer none), (1, i64 b), (5, .slice none 0 0), (6, .map (some r)), (11, i64 i)] ∧ St w0 w' L) 4 ⟨0, rfl, (Keep.cons 0 rfl (Keep.cons 1 rfl (Keep.cons 5 rfl (Keep.cons 6 rfl (Keep.cons 11 rfl Keep.nil))))), H⟩ ?_
  rintro n pf w ⟨i, hi, hpf, H⟩
  refine W_keep hpf ?_
  clear hpf
  by_cases hend : i = 4
  · subst hend
    refine W_seq_k fun K6 hK6 => ?_
    refine W_reg rfl ?_
    refine RL_some ?_; (first | refine X_cmp_t rfl rfl rfl (by first | assumption | omega) ?_ | refine X_cmp_f rfl rfl rfl (by first | assumption | omega) ?_ | refine X_bin rfl rfl rfl ?_)
    refine hK6 _ _ (W_keep (Keep.cons 0 rfl (Keep.cons 1 rfl (Keep.cons 5 rfl (Keep.cons 6 rfl (Keep.cons 11 rfl (Keep.cons 12 rfl Keep.nil)))))) ?_)
    refine W_seq_k fun K7 hK7 => ?_
    refine W_false rfl (W_exit ?_)
    simp only [thenQ, blockQ, if_true]
    refine hK4 _ _ ?_
    refine W_seq_k fun K8 hK8 => ?_
    refine W_reg rfl ?_
    refine RL_some ?_; (refine X_move rfl ?_)
    refine RL_some ?_; (refine X_call T.ent40 rfl ((AnyF.slices_SortFunc_none Try.sortSp none 0 _ _).mono ?_); rintro e w ⟨rfl, rfl⟩)
    refine hK8 _ _ (W_keep (Keep.cons 5 rfl Keep.nil) ?_)
    refine W_seq_k fun K9 hK9 => ?_
    refine W_reg rfl ?_
    refine RL_some ?_; (refine X_move rfl ?_)
    refine RL_some ?_; (refine X_assign rfl ?_)
    refine hK9 _ _ (W_keep (Keep.cons 4 rfl Keep.nil) ?_)
    refine W_ret ?_
    (try simp only [thenQ, blockQ, noGotoQ])
    refine body_tmp (.inr rfl) rfl rfl ?_
    exact ⟨rfl, H⟩
  · refine W_seq_k fun K6 hK6 => ?_
    refine W_reg rfl ?_
    refine RL_some ?_; (first | refine X_cmp_t rfl rfl rfl (by first | assumption | omega) ?_ | refine X_cmp_f rfl rfl rfl (by first | assumption | omega) ?_ | refine X_bin rfl rfl rfl ?_)
    refine hK6 _ _ (W_keep (Keep.cons 0 rfl (Keep.cons 1 rfl (Keep.cons 5 rfl (Keep.cons 6 rfl (Keep.cons 11 rfl (Keep.cons 12 rfl Keep.nil)))))) ?_)
    refine W_seq_k fun K7 hK7 => ?_
    refine W_true rfl (W_skip (hK7 _ _ ?_))
    refine W_seq_k fun K8 hK8 => ?_
    refine W_block ?_
    refine W_seq_k fun K9 hK9 => ?_
    refine W_reg rfl ?_
    refine RL_some ?_; (refine X_move rfl ?_)
    refine RL_some ?_; (refine X_assign rfl ?_)
    refine hK9 _ _ (W_keep (Keep.cons 0 rfl (Keep.cons 1 rfl (Keep.cons 5 rfl (Keep.cons 6 rfl (Keep.cons 7 rfl (Keep.cons 11 rfl Keep.nil)))))) ?_)
    refine W_seq_k fun K10 hK10 => ?_
    refine W_reg rfl ?_
    refine RL_some ?_; (refine X_move rfl ?_)
    refine RL_some ?_; (refine X_move rfl ?_)
    refine RL_some ?_; (refine X_call T.ent31 rfl (calls_to (own_nil i) ?_); rintro v w ⟨rfl, rfl⟩)
    refine RL_some ?_; (refine X_len T.sl70 rfl ?_)
    refine RL_some ?_; (refine X_move rfl ?_)
    refine hK10 _ _ (W_keep (Keep.cons 0 rfl (Keep.cons 1 rfl (Keep.cons 5 rfl (Keep.cons 6 rfl (Keep.cons 11 rfl (Keep.cons 16 rfl (Keep.cons 17 rfl (Keep.cons 18 rfl Keep.nil)))))))) ?_)
    refine W_block ?_
    refine W_loop (fun _ pf w' => Keep pf [(0, .pointer none), (1, i64 b), (5, .slice none 0 0), (6, .map (some r)), (11, i64 i), (16, .slice none 0 0), (17, i64 0), (18, i64 0)] ∧ St w0 w' L) 0 ⟨(Keep.cons 0 rfl (Keep.cons 1 rfl (Keep.cons 5 rfl (Keep.cons 6 rfl (Keep.cons 11 rfl (Keep.cons 16 rfl (Keep.cons 17 rfl (Keep.cons 18 rfl Keep.nil)))))))), H⟩ ?_
    rintro n' pf w ⟨hpf, H⟩
    refine W_keep hpf ?_
    clear hpf
    refine W_seq_k fun K11 hK11 => ?_
    refine W_reg rfl ?_
    refine RL_some ?_; (first | refine X_cmp_t rfl rfl rfl (by first | assumption | omega) ?_ | refine X_cmp_f rfl rfl rfl (by first | assumption | omega) ?_ | refine X_bin rfl rfl rfl ?_)
    refine hK11 _ _ (W_keep (Keep.cons 0 rfl (Keep.cons 1 rfl (Keep.cons 5 rfl (Keep.cons 6 rfl (Keep.cons 11 rfl (Keep.cons 16 rfl (Keep.cons 17 rfl (Keep.cons 18 rfl (Keep.cons 19 rfl Keep.nil))))))))) ?_)
    refine W_seq_k fun K12 hK12 => ?_
    refine W_false rfl (W_exit ?_)
    simp only [thenQ, blockQ, if_true]
    refine hK8 _ _ (W_keep (Keep.cons 0 rfl (Keep.cons 1 rfl (Keep.cons 5 rfl (Keep.cons 6 rfl (Keep.cons 11 rfl Keep.nil))))) ?_)
    refine W_reg rfl ?_
    refine RL_some ?_; (first | refine X_int rfl rfl rfl (by omega) ?_ | refine X_bin rfl rfl rfl ?_)
    refine RL_some ?_; (refine X_move rfl ?_)
    exact ⟨n - 1, by omega, i + 1, by omega, (Keep.cons 0 rfl (Keep.cons 1 rfl (Keep.cons 5 rfl (Keep.cons 6 rfl (Keep.cons 11 rfl Keep.nil))))), H⟩
end Go.Proofs.Ytinngnckojbpnaa
