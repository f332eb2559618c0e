import Derived.Test.YtinngnckojbpnaaPm3
import Derived.Test.YtinngnckojbpnaaNepRef
/-! pagemap: speaks, lose. -/
namespace Go.Proofs.Ytinngnckojbpnaa
open Go.Nep
set_option maxRecDepth 100000
set_option linter.unusedVariables false
set_option linter.unusedSimpArgs false

/-- does a spot speak of sectors that there are? -/
def rightS (m : PMx) (s : Spot) : Prop := (s.head.kind = 1 ∨ s.head.kind = 2) ∧ 1 ≤ s.head.count ∧ s.head.count ≤ sizeOf_ m s.head.ns ∧ s.head.lba ≤ sizeOf_ m s.head.ns - s.head.count
instance (m : PMx) (s : Spot) : Decidable (rightS m s) := by unfold rightS; infer_instance

/-- a head's numbers are of their kinds -/
structure Hd.ok (h : Hd) : Prop where
  l0 : 0 ≤ h.lba
  l1 : h.lba < 4294967296

theorem speaks_no (m : PMx) (s : Spot) (hok : s.head.ok) (hr : ¬ rightS m s) (hn : sizeOf_ m s.head.ns ≤ 65535) {w0 w : World} {L : List Asn} (H : St w0 w (m.at_ ++ L)) :
    Calls Try.prog 28 #[pt m.p 0, .agg s.enc.toArray] w (After fun v w' => v = .slice none 0 0 ∧ St w0 w' (m.at_ ++ L)) := by
  obtain ⟨ad, had⟩ := own_len H s.head.ns
  have hsz : (if 0 ≤ s.head.ns ∧ s.head.ns < 4 then (m.l s.head.ns.toNat).length else 0) = sizeOf_ m s.head.ns := rfl
  rw [hsz] at had
  obtain ⟨hl0, hl1⟩ := hok
  have hcase : (s.head.kind ≠ 1 ∧ s.head.kind ≠ 2) ∨ (s.head.kind = 1 ∧ s.head.count < 1) ∨ (s.head.kind = 2 ∧ s.head.count < 1) ∨ (s.head.kind = 1 ∧ 1 ≤ s.head.count ∧ (sizeOf_ m s.head.ns : Int) < s.head.count) ∨ (s.head.kind = 2 ∧ 1 ≤ s.head.count ∧ (sizeOf_ m s.head.ns : Int) < s.head.count) ∨
      (s.head.kind = 1 ∧ 1 ≤ s.head.count ∧ s.head.count ≤ sizeOf_ m s.head.ns ∧ (sizeOf_ m s.head.ns : Int) - s.head.count < s.head.lba) ∨ (s.head.kind = 2 ∧ 1 ≤ s.head.count ∧ s.head.count ≤ sizeOf_ m s.head.ns ∧ (sizeOf_ m s.head.ns : Int) - s.head.count < s.head.lba) := by
    unfold rightS at hr; omega
  have hw : IntKind.i64.wrap s.head.lba = s.head.lba := wrap64_in ⟨by omega, by omega⟩
  rcases hcase with ⟨c1, c2⟩ | ⟨c1, c2⟩ | ⟨c1, c2⟩ | ⟨c1, c2, c3⟩ | ⟨c1, c2, c3⟩ | ⟨c1, c2, c3, c4⟩ | ⟨c1, c2, c3, c4⟩
  all_goals
    refine calls_of_W (N := 55) (args := [pt m.p 0, .agg s.enc.toArray]) Try.func28 rfl Try.ntmps28 (by simp) ?_
    refine W_seq_k fun K1 hK1 => ?_
    refine W_reg rfl ?_
    refine RL_some ?_; (refine S_box H rfl ?_; intro b3 w H)
    refine RL_some ?_; (refine X_assign rfl ?_)
    refine hK1 _ _ (W_keep (Keep.cons 0 rfl (Keep.cons 3 rfl Keep.nil)) ?_)
    refine W_seq_k fun K2 hK2 => ?_
    refine W_draw (.p 0 (.p 1 (.p 2 (.p 3 (.p 4 (.p 5 (.p 6 (.e 7 [0, 1, 2, 3, 4, 5, 6] (.p 8 (.e 9 [] .nil .none)) .none)))))))) T.mixed rfl ?_
    replace H := H.drew
    apply DD_pure rfl rfl; next => (intro _; refine X_move rfl ⟨rfl, rfl⟩)
    apply DD_pure rfl rfl; next => (intro _; refine X_fieldAddr T.fd29_1 rfl ⟨rfl, rfl⟩)
    apply DD_pure rfl rfl; next => (intro _; refine X_fieldAddr T.fd27_1 rfl ⟨rfl, rfl⟩)
    apply DD_read rfl rfl; next => ((first | refine S_load1 H 0 T.ty3 rfl rfl (v := i64 s.head.ns) rfl ⟨rfl, rfl⟩ | refine S_load1 H 1 T.ty3 rfl rfl (v := i64 s.head.ns) rfl ⟨rfl, rfl⟩ | refine S_load1 H 2 T.ty3 rfl rfl (v := i64 s.head.ns) rfl ⟨rfl, rfl⟩ | refine S_load1 H 3 T.ty3 rfl rfl (v := i64 s.head.ns) rfl ⟨rfl, rfl⟩ | refine S_load1 H 4 T.ty3 rfl rfl (v := i64 s.head.ns) rfl ⟨rfl, rfl⟩ | refine S_load1 H 5 T.ty3 rfl rfl (v := i64 s.head.ns) rfl ⟨rfl, rfl⟩ | refine S_load1 H 6 T.ty3 rfl rfl (v := i64 s.head.ns) rfl ⟨rfl, rfl⟩ | refine S_load1 H 7 T.ty3 rfl rfl (v := i64 s.head.ns) rfl ⟨rfl, rfl⟩ | refine S_load1 H 8 T.ty3 rfl rfl (v := i64 s.head.ns) rfl ⟨rfl, rfl⟩ | refine S_load1 H 9 T.ty3 rfl rfl (v := i64 s.head.ns) rfl ⟨rfl, rfl⟩))
    apply DD_read rfl rfl; next => (first | refine X_call T.ent31 rfl (own_spec m s.head.ns H.drop) | refine X_call T.ent31 rfl (own_spec m s.head.ns H.drop.drop))
    apply DD_pure rfl rfl; next => (intro _; refine X_fieldAddr T.fd29_1 rfl ⟨rfl, rfl⟩)
    apply DD_read rfl rfl; next => ((first | refine S_load H 0 T.ty27 rfl rfl (l := s.head.enc) rfl (Nat.le_of_ble_eq_true rfl) ⟨rfl, rfl⟩ | refine S_load H 1 T.ty27 rfl rfl (l := s.head.enc) rfl (Nat.le_of_ble_eq_true rfl) ⟨rfl, rfl⟩ | refine S_load H 2 T.ty27 rfl rfl (l := s.head.enc) rfl (Nat.le_of_ble_eq_true rfl) ⟨rfl, rfl⟩ | refine S_load H 3 T.ty27 rfl rfl (l := s.head.enc) rfl (Nat.le_of_ble_eq_true rfl) ⟨rfl, rfl⟩ | refine S_load H 4 T.ty27 rfl rfl (l := s.head.enc) rfl (Nat.le_of_ble_eq_true rfl) ⟨rfl, rfl⟩ | refine S_load H 5 T.ty27 rfl rfl (l := s.head.enc) rfl (Nat.le_of_ble_eq_true rfl) ⟨rfl, rfl⟩ | refine S_load H 6 T.ty27 rfl rfl (l := s.head.enc) rfl (Nat.le_of_ble_eq_true rfl) ⟨rfl, rfl⟩ | refine S_load H 7 T.ty27 rfl rfl (l := s.head.enc) rfl (Nat.le_of_ble_eq_true rfl) ⟨rfl, rfl⟩ | refine S_load H 8 T.ty27 rfl rfl (l := s.head.enc) rfl (Nat.le_of_ble_eq_true rfl) ⟨rfl, rfl⟩ | refine S_load H 9 T.ty27 rfl rfl (l := s.head.enc) rfl (Nat.le_of_ble_eq_true rfl) ⟨rfl, rfl⟩))
    refine DD_eff rfl rfl ?_; (refine S_alloc H T.ze27 ?_; intro b6 w H)
    refine ⟨?_, ?_⟩; next => (repeat (first | exact rc_nil | refine rc_skip rfl ?_ | refine rc_true ?_ | (refine rc_read ?_ ?_; next => (first | ((first | refine S_load1 H 0 T.ty3 rfl rfl (v := i64 s.head.ns) rfl ⟨rfl, rfl⟩ | refine S_load1 H 1 T.ty3 rfl rfl (v := i64 s.head.ns) rfl ⟨rfl, rfl⟩ | refine S_load1 H 2 T.ty3 rfl rfl (v := i64 s.head.ns) rfl ⟨rfl, rfl⟩ | refine S_load1 H 3 T.ty3 rfl rfl (v := i64 s.head.ns) rfl ⟨rfl, rfl⟩ | refine S_load1 H 4 T.ty3 rfl rfl (v := i64 s.head.ns) rfl ⟨rfl, rfl⟩ | refine S_load1 H 5 T.ty3 rfl rfl (v := i64 s.head.ns) rfl ⟨rfl, rfl⟩ | refine S_load1 H 6 T.ty3 rfl rfl (v := i64 s.head.ns) rfl ⟨rfl, rfl⟩ | refine S_load1 H 7 T.ty3 rfl rfl (v := i64 s.head.ns) rfl ⟨rfl, rfl⟩ | refine S_load1 H 8 T.ty3 rfl rfl (v := i64 s.head.ns) rfl ⟨rfl, rfl⟩ | refine S_load1 H 9 T.ty3 rfl rfl (v := i64 s.head.ns) rfl ⟨rfl, rfl⟩)) | (first | refine X_call T.ent31 rfl (own_spec m s.head.ns H.drop) | refine X_call T.ent31 rfl (own_spec m s.head.ns H.drop.drop)) | ((first | refine S_load H 0 T.ty27 rfl rfl (l := s.head.enc) rfl (Nat.le_of_ble_eq_true rfl) ⟨rfl, rfl⟩ | refine S_load H 1 T.ty27 rfl rfl (l := s.head.enc) rfl (Nat.le_of_ble_eq_true rfl) ⟨rfl, rfl⟩ | refine S_load H 2 T.ty27 rfl rfl (l := s.head.enc) rfl (Nat.le_of_ble_eq_true rfl) ⟨rfl, rfl⟩ | refine S_load H 3 T.ty27 rfl rfl (l := s.head.enc) rfl (Nat.le_of_ble_eq_true rfl) ⟨rfl, rfl⟩ | refine S_load H 4 T.ty27 rfl rfl (l := s.head.enc) rfl (Nat.le_of_ble_eq_true rfl) ⟨rfl, rfl⟩ | refine S_load H 5 T.ty27 rfl rfl (l := s.head.enc) rfl (Nat.le_of_ble_eq_true rfl) ⟨rfl, rfl⟩ | refine S_load H 6 T.ty27 rfl rfl (l := s.head.enc) rfl (Nat.le_of_ble_eq_true rfl) ⟨rfl, rfl⟩ | refine S_load H 7 T.ty27 rfl rfl (l := s.head.enc) rfl (Nat.le_of_ble_eq_true rfl) ⟨rfl, rfl⟩ | refine S_load H 8 T.ty27 rfl rfl (l := s.head.enc) rfl (Nat.le_of_ble_eq_true rfl) ⟨rfl, rfl⟩ | refine S_load H 9 T.ty27 rfl rfl (l := s.head.enc) rfl (Nat.le_of_ble_eq_true rfl) ⟨rfl, rfl⟩))))))
    apply DD_pure rfl rfl; next => (intro _; refine X_assign rfl ⟨rfl, rfl⟩)
    refine DD_eff rfl rfl ?_; (refine S_store H 0 T.ty27 rfl rfl rfl rfl (Nat.le_of_ble_eq_true rfl) rfl (c' := s.head.enc.toArray) rfl ?_; intro w H)
    refine ⟨by repeat (first | exact rc_nil | refine rc_skip rfl ?_ | refine rc_true ?_), ?_⟩
    refine hK2 _ _ (W_keep (Keep.cons 5 rfl (Keep.cons 6 rfl Keep.nil)) ?_)
    rw [had]
    refine W_seq_k fun K3 hK3 => ?_
    refine W_seq_k fun K4 hK4 => ?_
    refine W_reg rfl ?_
    refine RL_some ?_; (refine X_fieldAddr T.fd27_0 rfl ?_)
    refine RL_some ?_; ((first | refine S_load1 H 0 T.ty3 rfl rfl rfl ?_ | refine S_load1 H 1 T.ty3 rfl rfl rfl ?_ | refine S_load1 H 2 T.ty3 rfl rfl rfl ?_ | refine S_load1 H 3 T.ty3 rfl rfl rfl ?_ | refine S_load1 H 4 T.ty3 rfl rfl rfl ?_ | refine S_load1 H 5 T.ty3 rfl rfl rfl ?_ | refine S_load1 H 6 T.ty3 rfl rfl rfl ?_ | refine S_load1 H 7 T.ty3 rfl rfl rfl ?_ | refine S_load1 H 8 T.ty3 rfl rfl rfl ?_ | refine S_load1 H 9 T.ty3 rfl rfl rfl ?_))
    refine RL_some ?_; (first | refine X_ne_t rfl rfl rfl (by first | assumption | omega) ?_ | refine X_ne_f rfl rfl rfl (by first | assumption | omega) ?_ | refine X_bin rfl rfl rfl ?_)
    refine RL_some ?_; (refine X_move rfl ?_)
    (first | refine RL_off rfl rfl ?_ | refine RL_off' rfl rfl ?_ | (refine RL_on rfl rfl ?_; (refine X_fieldAddr T.fd27_0 rfl ?_)))
    (first | refine RL_off rfl rfl ?_ | refine RL_off' rfl rfl ?_ | (refine RL_on rfl rfl ?_; ((first | refine S_load1 H 0 T.ty3 rfl rfl rfl ?_ | refine S_load1 H 1 T.ty3 rfl rfl rfl ?_ | refine S_load1 H 2 T.ty3 rfl rfl rfl ?_ | refine S_load1 H 3 T.ty3 rfl rfl rfl ?_ | refine S_load1 H 4 T.ty3 rfl rfl rfl ?_ | refine S_load1 H 5 T.ty3 rfl rfl rfl ?_ | refine S_load1 H 6 T.ty3 rfl rfl rfl ?_ | refine S_load1 H 7 T.ty3 rfl rfl rfl ?_ | refine S_load1 H 8 T.ty3 rfl rfl rfl ?_ | refine S_load1 H 9 T.ty3 rfl rfl rfl ?_))))
    (first | refine RL_off rfl rfl ?_ | refine RL_off' rfl rfl ?_ | (refine RL_on rfl rfl ?_; (first | refine X_ne_t rfl rfl rfl (by first | assumption | omega) ?_ | refine X_ne_f rfl rfl rfl (by first | assumption | omega) ?_ | refine X_bin rfl rfl rfl ?_)))
    refine RL_some ?_; (refine X_pick rfl rfl ?_)
    refine RL_some ?_; (refine X_move rfl ?_)
    (first | refine RL_off rfl rfl ?_ | refine RL_off' rfl rfl ?_ | (refine RL_on rfl rfl ?_; (refine X_fieldAddr T.fd27_2 rfl ?_)))
    (first | refine RL_off rfl rfl ?_ | refine RL_off' rfl rfl ?_ | (refine RL_on rfl rfl ?_; ((first | refine S_load1 H 0 T.ty3 rfl rfl rfl ?_ | refine S_load1 H 1 T.ty3 rfl rfl rfl ?_ | refine S_load1 H 2 T.ty3 rfl rfl rfl ?_ | refine S_load1 H 3 T.ty3 rfl rfl rfl ?_ | refine S_load1 H 4 T.ty3 rfl rfl rfl ?_ | refine S_load1 H 5 T.ty3 rfl rfl rfl ?_ | refine S_load1 H 6 T.ty3 rfl rfl rfl ?_ | refine S_load1 H 7 T.ty3 rfl rfl rfl ?_ | refine S_load1 H 8 T.ty3 rfl rfl rfl ?_ | refine S_load1 H 9 T.ty3 rfl rfl rfl ?_))))
    (first | refine RL_off rfl rfl ?_ | refine RL_off' rfl rfl ?_ | (refine RL_on rfl rfl ?_; (first | refine X_cmp_t rfl rfl rfl (by first | assumption | omega) ?_ | refine X_cmp_f rfl rfl rfl (by first | assumption | omega) ?_ | refine X_bin rfl rfl rfl ?_)))
    refine RL_some ?_; (refine X_pick rfl rfl ?_)
    refine RL_some ?_; (refine X_move rfl ?_)
    (first | refine RL_off rfl rfl ?_ | refine RL_off' rfl rfl ?_ | (refine RL_on rfl rfl ?_; (refine X_fieldAddr T.fd27_2 rfl ?_)))
    (first | refine RL_off rfl rfl ?_ | refine RL_off' rfl rfl ?_ | (refine RL_on rfl rfl ?_; ((first | refine S_load1 H 0 T.ty3 rfl rfl rfl ?_ | refine S_load1 H 1 T.ty3 rfl rfl rfl ?_ | refine S_load1 H 2 T.ty3 rfl rfl rfl ?_ | refine S_load1 H 3 T.ty3 rfl rfl rfl ?_ | refine S_load1 H 4 T.ty3 rfl rfl rfl ?_ | refine S_load1 H 5 T.ty3 rfl rfl rfl ?_ | refine S_load1 H 6 T.ty3 rfl rfl rfl ?_ | refine S_load1 H 7 T.ty3 rfl rfl rfl ?_ | refine S_load1 H 8 T.ty3 rfl rfl rfl ?_ | refine S_load1 H 9 T.ty3 rfl rfl rfl ?_))))
    (first | refine RL_off rfl rfl ?_ | refine RL_off' rfl rfl ?_ | (refine RL_on rfl rfl ?_; (refine X_move rfl ?_)))
    (first | refine RL_off rfl rfl ?_ | refine RL_off' rfl rfl ?_ | (refine RL_on rfl rfl ?_; (refine X_len T.sl70 rfl ?_)))
    (first | refine RL_off rfl rfl ?_ | refine RL_off' rfl rfl ?_ | (refine RL_on rfl rfl ?_; (first | refine X_cmp_t rfl rfl rfl (by first | assumption | omega) ?_ | refine X_cmp_f rfl rfl rfl (by first | assumption | omega) ?_ | refine X_bin rfl rfl rfl ?_)))
    refine RL_some ?_; (refine X_pick rfl rfl ?_)
    refine RL_some ?_; (refine X_move rfl ?_)
    (first | refine RL_off rfl rfl ?_ | refine RL_off' rfl rfl ?_ | (refine RL_on rfl rfl ?_; (refine X_fieldAddr T.fd27_3 rfl ?_)))
    (first | refine RL_off rfl rfl ?_ | refine RL_off' rfl rfl ?_ | (refine RL_on rfl rfl ?_; ((first | refine S_load1 H 0 T.ty24 rfl rfl rfl ?_ | refine S_load1 H 1 T.ty24 rfl rfl rfl ?_ | refine S_load1 H 2 T.ty24 rfl rfl rfl ?_ | refine S_load1 H 3 T.ty24 rfl rfl rfl ?_ | refine S_load1 H 4 T.ty24 rfl rfl rfl ?_ | refine S_load1 H 5 T.ty24 rfl rfl rfl ?_ | refine S_load1 H 6 T.ty24 rfl rfl rfl ?_ | refine S_load1 H 7 T.ty24 rfl rfl rfl ?_ | refine S_load1 H 8 T.ty24 rfl rfl rfl ?_ | refine S_load1 H 9 T.ty24 rfl rfl rfl ?_))))
    (first | refine RL_off rfl rfl ?_ | refine RL_off' rfl rfl ?_ | (refine RL_on rfl rfl ?_; (refine X_conv T.in24 T.in2 rfl ?_; rw [hw])))
    (first | refine RL_off rfl rfl ?_ | refine RL_off' rfl rfl ?_ | (refine RL_on rfl rfl ?_; (refine X_move rfl ?_)))
    (first | refine RL_off rfl rfl ?_ | refine RL_off' rfl rfl ?_ | (refine RL_on rfl rfl ?_; (refine X_len T.sl70 rfl ?_)))
    (first | refine RL_off rfl rfl ?_ | refine RL_off' rfl rfl ?_ | (refine RL_on rfl rfl ?_; (refine X_fieldAddr T.fd27_2 rfl ?_)))
    (first | refine RL_off rfl rfl ?_ | refine RL_off' rfl rfl ?_ | (refine RL_on rfl rfl ?_; ((first | refine S_load1 H 0 T.ty3 rfl rfl rfl ?_ | refine S_load1 H 1 T.ty3 rfl rfl rfl ?_ | refine S_load1 H 2 T.ty3 rfl rfl rfl ?_ | refine S_load1 H 3 T.ty3 rfl rfl rfl ?_ | refine S_load1 H 4 T.ty3 rfl rfl rfl ?_ | refine S_load1 H 5 T.ty3 rfl rfl rfl ?_ | refine S_load1 H 6 T.ty3 rfl rfl rfl ?_ | refine S_load1 H 7 T.ty3 rfl rfl rfl ?_ | refine S_load1 H 8 T.ty3 rfl rfl rfl ?_ | refine S_load1 H 9 T.ty3 rfl rfl rfl ?_))))
    (first | refine RL_off rfl rfl ?_ | refine RL_off' rfl rfl ?_ | (refine RL_on rfl rfl ?_; (first | refine X_int rfl rfl rfl (by omega) ?_ | refine X_bin rfl rfl rfl ?_)))
    (first | refine RL_off rfl rfl ?_ | refine RL_off' rfl rfl ?_ | (refine RL_on rfl rfl ?_; (first | refine X_cmp_t rfl rfl rfl (by first | assumption | omega) ?_ | refine X_cmp_f rfl rfl rfl (by first | assumption | omega) ?_ | refine X_bin rfl rfl rfl ?_)))
    refine RL_some ?_; (refine X_pick rfl rfl ?_)
    refine hK4 _ _ (W_keep (Keep.cons 5 rfl (Keep.cons 6 rfl (Keep.cons 44 rfl Keep.nil))) ?_)
    refine W_true rfl ?_
    refine W_seq_k fun K5 hK5 => ?_
    refine W_reg rfl ?_
    refine RL_some ?_; (refine X_assign rfl ?_)
    refine hK5 _ _ (W_keep (Keep.cons 4 rfl Keep.nil) ?_)
    refine W_ret ?_
    (try simp only [thenQ, blockQ, noGotoQ])
    refine body_tmp (.inr rfl) rfl rfl ?_
    exact ⟨rfl, H.drop.drop⟩

theorem speaks_yes (m : PMx) (s : Spot) (hok : s.head.ok) (hr : rightS m s) (hn : sizeOf_ m s.head.ns ≤ 65535) {w0 w : World} {L : List Asn} (H : St w0 w (m.at_ ++ L)) {b : Nat} (hb : m.bo s.head.ns.toNat = some b) :
    Calls Try.prog 28 #[pt m.p 0, .agg s.enc.toArray] w (After fun v w' => v = sl b (s.head.lba.toNat * 15) s.head.count.toNat (sizeOf_ m s.head.ns - s.head.lba.toNat) ∧ St w0 w' (m.at_ ++ L)) := by
  obtain ⟨hl0, hl1⟩ := hok
  obtain ⟨hk, c2, c3, c4⟩ := hr
  have hns : 0 ≤ s.head.ns ∧ s.head.ns < 4 := by
    unfold sizeOf_ at c3
    split at c3
    · assumption
    · omega
  have hown : ownV m s.head.ns = sl b 0 (sizeOf_ m s.head.ns) (sizeOf_ m s.head.ns) := by
    unfold ownV sizeOf_; rw [if_pos hns, if_pos hns, hb]; rfl
  have hw : IntKind.i64.wrap s.head.lba = s.head.lba := wrap64_in ⟨by omega, by omega⟩
  have hres : resl 15 (some ⟨b, 0, none⟩) (s.head.lba.toNat, (s.head.lba + s.head.count).toNat, sizeOf_ m s.head.ns) = sl b (s.head.lba.toNat * 15) s.head.count.toNat (sizeOf_ m s.head.ns - s.head.lba.toNat) := by
    unfold resl
    simp only
    rw [if_neg (by omega)]
    simp only [Option.map_some, add_at, Nat.zero_add]
    rw [show (s.head.lba + s.head.count).toNat - s.head.lba.toNat = s.head.count.toNat by omega]
  rcases hk with c1 | c1
  all_goals
    refine calls_of_W (N := 55) (args := [pt m.p 0, .agg s.enc.toArray]) Try.func28 rfl Try.ntmps28 (by simp) ?_
    refine W_seq_k fun K1 hK1 => ?_
    refine W_reg rfl ?_
    refine RL_some ?_; (refine S_box H rfl ?_; intro b3 w H)
    refine RL_some ?_; (refine X_assign rfl ?_)
    refine hK1 _ _ (W_keep (Keep.cons 0 rfl (Keep.cons 3 rfl Keep.nil)) ?_)
    refine W_seq_k fun K2 hK2 => ?_
    refine W_draw (.p 0 (.p 1 (.p 2 (.p 3 (.p 4 (.p 5 (.p 6 (.e 7 [0, 1, 2, 3, 4, 5, 6] (.p 8 (.e 9 [] .nil .none)) .none)))))))) T.mixed rfl ?_
    replace H := H.drew
    apply DD_pure rfl rfl; next => (intro _; refine X_move rfl ⟨rfl, rfl⟩)
    apply DD_pure rfl rfl; next => (intro _; refine X_fieldAddr T.fd29_1 rfl ⟨rfl, rfl⟩)
    apply DD_pure rfl rfl; next => (intro _; refine X_fieldAddr T.fd27_1 rfl ⟨rfl, rfl⟩)
    apply DD_read rfl rfl; next => ((first | refine S_load1 H 0 T.ty3 rfl rfl (v := i64 s.head.ns) rfl ⟨rfl, rfl⟩ | refine S_load1 H 1 T.ty3 rfl rfl (v := i64 s.head.ns) rfl ⟨rfl, rfl⟩ | refine S_load1 H 2 T.ty3 rfl rfl (v := i64 s.head.ns) rfl ⟨rfl, rfl⟩ | refine S_load1 H 3 T.ty3 rfl rfl (v := i64 s.head.ns) rfl ⟨rfl, rfl⟩ | refine S_load1 H 4 T.ty3 rfl rfl (v := i64 s.head.ns) rfl ⟨rfl, rfl⟩ | refine S_load1 H 5 T.ty3 rfl rfl (v := i64 s.head.ns) rfl ⟨rfl, rfl⟩ | refine S_load1 H 6 T.ty3 rfl rfl (v := i64 s.head.ns) rfl ⟨rfl, rfl⟩ | refine S_load1 H 7 T.ty3 rfl rfl (v := i64 s.head.ns) rfl ⟨rfl, rfl⟩ | refine S_load1 H 8 T.ty3 rfl rfl (v := i64 s.head.ns) rfl ⟨rfl, rfl⟩ | refine S_load1 H 9 T.ty3 rfl rfl (v := i64 s.head.ns) rfl ⟨rfl, rfl⟩))
    apply DD_read rfl rfl; next => (first | refine X_call T.ent31 rfl (own_spec m s.head.ns H.drop) | refine X_call T.ent31 rfl (own_spec m s.head.ns H.drop.drop))
    apply DD_pure rfl rfl; next => (intro _; refine X_fieldAddr T.fd29_1 rfl ⟨rfl, rfl⟩)
    apply DD_read rfl rfl; next => ((first | refine S_load H 0 T.ty27 rfl rfl (l := s.head.enc) rfl (Nat.le_of_ble_eq_true rfl) ⟨rfl, rfl⟩ | refine S_load H 1 T.ty27 rfl rfl (l := s.head.enc) rfl (Nat.le_of_ble_eq_true rfl) ⟨rfl, rfl⟩ | refine S_load H 2 T.ty27 rfl rfl (l := s.head.enc) rfl (Nat.le_of_ble_eq_true rfl) ⟨rfl, rfl⟩ | refine S_load H 3 T.ty27 rfl rfl (l := s.head.enc) rfl (Nat.le_of_ble_eq_true rfl) ⟨rfl, rfl⟩ | refine S_load H 4 T.ty27 rfl rfl (l := s.head.enc) rfl (Nat.le_of_ble_eq_true rfl) ⟨rfl, rfl⟩ | refine S_load H 5 T.ty27 rfl rfl (l := s.head.enc) rfl (Nat.le_of_ble_eq_true rfl) ⟨rfl, rfl⟩ | refine S_load H 6 T.ty27 rfl rfl (l := s.head.enc) rfl (Nat.le_of_ble_eq_true rfl) ⟨rfl, rfl⟩ | refine S_load H 7 T.ty27 rfl rfl (l := s.head.enc) rfl (Nat.le_of_ble_eq_true rfl) ⟨rfl, rfl⟩ | refine S_load H 8 T.ty27 rfl rfl (l := s.head.enc) rfl (Nat.le_of_ble_eq_true rfl) ⟨rfl, rfl⟩ | refine S_load H 9 T.ty27 rfl rfl (l := s.head.enc) rfl (Nat.le_of_ble_eq_true rfl) ⟨rfl, rfl⟩))
    refine DD_eff rfl rfl ?_; (refine S_alloc H T.ze27 ?_; intro b6 w H)
    refine ⟨?_, ?_⟩; next => (repeat (first | exact rc_nil | refine rc_skip rfl ?_ | refine rc_true ?_ | (refine rc_read ?_ ?_; next => (first | ((first | refine S_load1 H 0 T.ty3 rfl rfl (v := i64 s.head.ns) rfl ⟨rfl, rfl⟩ | refine S_load1 H 1 T.ty3 rfl rfl (v := i64 s.head.ns) rfl ⟨rfl, rfl⟩ | refine S_load1 H 2 T.ty3 rfl rfl (v := i64 s.head.ns) rfl ⟨rfl, rfl⟩ | refine S_load1 H 3 T.ty3 rfl rfl (v := i64 s.head.ns) rfl ⟨rfl, rfl⟩ | refine S_load1 H 4 T.ty3 rfl rfl (v := i64 s.head.ns) rfl ⟨rfl, rfl⟩ | refine S_load1 H 5 T.ty3 rfl rfl (v := i64 s.head.ns) rfl ⟨rfl, rfl⟩ | refine S_load1 H 6 T.ty3 rfl rfl (v := i64 s.head.ns) rfl ⟨rfl, rfl⟩ | refine S_load1 H 7 T.ty3 rfl rfl (v := i64 s.head.ns) rfl ⟨rfl, rfl⟩ | refine S_load1 H 8 T.ty3 rfl rfl (v := i64 s.head.ns) rfl ⟨rfl, rfl⟩ | refine S_load1 H 9 T.ty3 rfl rfl (v := i64 s.head.ns) rfl ⟨rfl, rfl⟩)) | (first | refine X_call T.ent31 rfl (own_spec m s.head.ns H.drop) | refine X_call T.ent31 rfl (own_spec m s.head.ns H.drop.drop)) | ((first | refine S_load H 0 T.ty27 rfl rfl (l := s.head.enc) rfl (Nat.le_of_ble_eq_true rfl) ⟨rfl, rfl⟩ | refine S_load H 1 T.ty27 rfl rfl (l := s.head.enc) rfl (Nat.le_of_ble_eq_true rfl) ⟨rfl, rfl⟩ | refine S_load H 2 T.ty27 rfl rfl (l := s.head.enc) rfl (Nat.le_of_ble_eq_true rfl) ⟨rfl, rfl⟩ | refine S_load H 3 T.ty27 rfl rfl (l := s.head.enc) rfl (Nat.le_of_ble_eq_true rfl) ⟨rfl, rfl⟩ | refine S_load H 4 T.ty27 rfl rfl (l := s.head.enc) rfl (Nat.le_of_ble_eq_true rfl) ⟨rfl, rfl⟩ | refine S_load H 5 T.ty27 rfl rfl (l := s.head.enc) rfl (Nat.le_of_ble_eq_true rfl) ⟨rfl, rfl⟩ | refine S_load H 6 T.ty27 rfl rfl (l := s.head.enc) rfl (Nat.le_of_ble_eq_true rfl) ⟨rfl, rfl⟩ | refine S_load H 7 T.ty27 rfl rfl (l := s.head.enc) rfl (Nat.le_of_ble_eq_true rfl) ⟨rfl, rfl⟩ | refine S_load H 8 T.ty27 rfl rfl (l := s.head.enc) rfl (Nat.le_of_ble_eq_true rfl) ⟨rfl, rfl⟩ | refine S_load H 9 T.ty27 rfl rfl (l := s.head.enc) rfl (Nat.le_of_ble_eq_true rfl) ⟨rfl, rfl⟩))))))
    apply DD_pure rfl rfl; next => (intro _; refine X_assign rfl ⟨rfl, rfl⟩)
    refine DD_eff rfl rfl ?_; (((first | refine S_store H 0 T.ty27 rfl rfl rfl rfl (Nat.le_of_ble_eq_true rfl) rfl (c' := s.head.enc.toArray) rfl ?_ | refine S_store H 1 T.ty27 rfl rfl rfl rfl (Nat.le_of_ble_eq_true rfl) rfl (c' := s.head.enc.toArray) rfl ?_ | refine S_store H 2 T.ty27 rfl rfl rfl rfl (Nat.le_of_ble_eq_true rfl) rfl (c' := s.head.enc.toArray) rfl ?_ | refine S_store H 3 T.ty27 rfl rfl rfl rfl (Nat.le_of_ble_eq_true rfl) rfl (c' := s.head.enc.toArray) rfl ?_ | refine S_store H 4 T.ty27 rfl rfl rfl rfl (Nat.le_of_ble_eq_true rfl) rfl (c' := s.head.enc.toArray) rfl ?_ | refine S_store H 5 T.ty27 rfl rfl rfl rfl (Nat.le_of_ble_eq_true rfl) rfl (c' := s.head.enc.toArray) rfl ?_ | refine S_store H 6 T.ty27 rfl rfl rfl rfl (Nat.le_of_ble_eq_true rfl) rfl (c' := s.head.enc.toArray) rfl ?_ | refine S_store H 7 T.ty27 rfl rfl rfl rfl (Nat.le_of_ble_eq_true rfl) rfl (c' := s.head.enc.toArray) rfl ?_ | refine S_store H 8 T.ty27 rfl rfl rfl rfl (Nat.le_of_ble_eq_true rfl) rfl (c' := s.head.enc.toArray) rfl ?_ | refine S_store H 9 T.ty27 rfl rfl rfl rfl (Nat.le_of_ble_eq_true rfl) rfl (c' := s.head.enc.toArray) rfl ?_); intro w H))
    refine ⟨by repeat (first | exact rc_nil | refine rc_skip rfl ?_ | refine rc_true ?_), ?_⟩
    refine hK2 _ _ (W_keep (Keep.cons 5 rfl (Keep.cons 6 rfl Keep.nil)) ?_)
    rw [hown]
    refine W_seq_k fun K3 hK3 => ?_
    refine W_seq_k fun K4 hK4 => ?_
    refine W_reg rfl ?_
    refine RL_some ?_; (refine X_fieldAddr T.fd27_0 rfl ?_)
    refine RL_some ?_; ((first | refine S_load1 H 0 T.ty3 rfl rfl rfl ?_ | refine S_load1 H 1 T.ty3 rfl rfl rfl ?_ | refine S_load1 H 2 T.ty3 rfl rfl rfl ?_ | refine S_load1 H 3 T.ty3 rfl rfl rfl ?_ | refine S_load1 H 4 T.ty3 rfl rfl rfl ?_ | refine S_load1 H 5 T.ty3 rfl rfl rfl ?_ | refine S_load1 H 6 T.ty3 rfl rfl rfl ?_ | refine S_load1 H 7 T.ty3 rfl rfl rfl ?_ | refine S_load1 H 8 T.ty3 rfl rfl rfl ?_ | refine S_load1 H 9 T.ty3 rfl rfl rfl ?_))
    refine RL_some ?_; (first | refine X_ne_t rfl rfl rfl (by first | assumption | omega) ?_ | refine X_ne_f rfl rfl rfl (by first | assumption | omega) ?_ | refine X_bin rfl rfl rfl ?_)
    refine RL_some ?_; (refine X_move rfl ?_)
    (first | refine RL_off rfl rfl ?_ | refine RL_off' rfl rfl ?_ | (refine RL_on rfl rfl ?_; (refine X_fieldAddr T.fd27_0 rfl ?_)))
    (first | refine RL_off rfl rfl ?_ | refine RL_off' rfl rfl ?_ | (refine RL_on rfl rfl ?_; ((first | refine S_load1 H 0 T.ty3 rfl rfl rfl ?_ | refine S_load1 H 1 T.ty3 rfl rfl rfl ?_ | refine S_load1 H 2 T.ty3 rfl rfl rfl ?_ | refine S_load1 H 3 T.ty3 rfl rfl rfl ?_ | refine S_load1 H 4 T.ty3 rfl rfl rfl ?_ | refine S_load1 H 5 T.ty3 rfl rfl rfl ?_ | refine S_load1 H 6 T.ty3 rfl rfl rfl ?_ | refine S_load1 H 7 T.ty3 rfl rfl rfl ?_ | refine S_load1 H 8 T.ty3 rfl rfl rfl ?_ | refine S_load1 H 9 T.ty3 rfl rfl rfl ?_))))
    (first | refine RL_off rfl rfl ?_ | refine RL_off' rfl rfl ?_ | (refine RL_on rfl rfl ?_; (first | refine X_ne_t rfl rfl rfl (by first | assumption | omega) ?_ | refine X_ne_f rfl rfl rfl (by first | assumption | omega) ?_ | refine X_bin rfl rfl rfl ?_)))
    refine RL_some ?_; (refine X_pick rfl rfl ?_)
    refine RL_some ?_; (refine X_move rfl ?_)
    (first | refine RL_off rfl rfl ?_ | refine RL_off' rfl rfl ?_ | (refine RL_on rfl rfl ?_; (refine X_fieldAddr T.fd27_2 rfl ?_)))
    (first | refine RL_off rfl rfl ?_ | refine RL_off' rfl rfl ?_ | (refine RL_on rfl rfl ?_; ((first | refine S_load1 H 0 T.ty3 rfl rfl rfl ?_ | refine S_load1 H 1 T.ty3 rfl rfl rfl ?_ | refine S_load1 H 2 T.ty3 rfl rfl rfl ?_ | refine S_load1 H 3 T.ty3 rfl rfl rfl ?_ | refine S_load1 H 4 T.ty3 rfl rfl rfl ?_ | refine S_load1 H 5 T.ty3 rfl rfl rfl ?_ | refine S_load1 H 6 T.ty3 rfl rfl rfl ?_ | refine S_load1 H 7 T.ty3 rfl rfl rfl ?_ | refine S_load1 H 8 T.ty3 rfl rfl rfl ?_ | refine S_load1 H 9 T.ty3 rfl rfl rfl ?_))))
    (first | refine RL_off rfl rfl ?_ | refine RL_off' rfl rfl ?_ | (refine RL_on rfl rfl ?_; (first | refine X_cmp_t rfl rfl rfl (by first | assumption | omega) ?_ | refine X_cmp_f rfl rfl rfl (by first | assumption | omega) ?_ | refine X_bin rfl rfl rfl ?_)))
    refine RL_some ?_; (refine X_pick rfl rfl ?_)
    refine RL_some ?_; (refine X_move rfl ?_)
    (first | refine RL_off rfl rfl ?_ | refine RL_off' rfl rfl ?_ | (refine RL_on rfl rfl ?_; (refine X_fieldAddr T.fd27_2 rfl ?_)))
    (first | refine RL_off rfl rfl ?_ | refine RL_off' rfl rfl ?_ | (refine RL_on rfl rfl ?_; ((first | refine S_load1 H 0 T.ty3 rfl rfl rfl ?_ | refine S_load1 H 1 T.ty3 rfl rfl rfl ?_ | refine S_load1 H 2 T.ty3 rfl rfl rfl ?_ | refine S_load1 H 3 T.ty3 rfl rfl rfl ?_ | refine S_load1 H 4 T.ty3 rfl rfl rfl ?_ | refine S_load1 H 5 T.ty3 rfl rfl rfl ?_ | refine S_load1 H 6 T.ty3 rfl rfl rfl ?_ | refine S_load1 H 7 T.ty3 rfl rfl rfl ?_ | refine S_load1 H 8 T.ty3 rfl rfl rfl ?_ | refine S_load1 H 9 T.ty3 rfl rfl rfl ?_))))
    (first | refine RL_off rfl rfl ?_ | refine RL_off' rfl rfl ?_ | (refine RL_on rfl rfl ?_; (refine X_move rfl ?_)))
    (first | refine RL_off rfl rfl ?_ | refine RL_off' rfl rfl ?_ | (refine RL_on rfl rfl ?_; (refine X_len T.sl70 rfl ?_)))
    (first | refine RL_off rfl rfl ?_ | refine RL_off' rfl rfl ?_ | (refine RL_on rfl rfl ?_; (first | refine X_cmp_t rfl rfl rfl (by first | assumption | omega) ?_ | refine X_cmp_f rfl rfl rfl (by first | assumption | omega) ?_ | refine X_bin rfl rfl rfl ?_)))
    refine RL_some ?_; (refine X_pick rfl rfl ?_)
    refine RL_some ?_; (refine X_move rfl ?_)
    (first | refine RL_off rfl rfl ?_ | refine RL_off' rfl rfl ?_ | (refine RL_on rfl rfl ?_; (refine X_fieldAddr T.fd27_3 rfl ?_)))
    (first | refine RL_off rfl rfl ?_ | refine RL_off' rfl rfl ?_ | (refine RL_on rfl rfl ?_; ((first | refine S_load1 H 0 T.ty24 rfl rfl rfl ?_ | refine S_load1 H 1 T.ty24 rfl rfl rfl ?_ | refine S_load1 H 2 T.ty24 rfl rfl rfl ?_ | refine S_load1 H 3 T.ty24 rfl rfl rfl ?_ | refine S_load1 H 4 T.ty24 rfl rfl rfl ?_ | refine S_load1 H 5 T.ty24 rfl rfl rfl ?_ | refine S_load1 H 6 T.ty24 rfl rfl rfl ?_ | refine S_load1 H 7 T.ty24 rfl rfl rfl ?_ | refine S_load1 H 8 T.ty24 rfl rfl rfl ?_ | refine S_load1 H 9 T.ty24 rfl rfl rfl ?_))))
    (first | refine RL_off rfl rfl ?_ | refine RL_off' rfl rfl ?_ | (refine RL_on rfl rfl ?_; (refine X_conv T.in24 T.in2 rfl ?_; rw [hw])))
    (first | refine RL_off rfl rfl ?_ | refine RL_off' rfl rfl ?_ | (refine RL_on rfl rfl ?_; (refine X_move rfl ?_)))
    (first | refine RL_off rfl rfl ?_ | refine RL_off' rfl rfl ?_ | (refine RL_on rfl rfl ?_; (refine X_len T.sl70 rfl ?_)))
    (first | refine RL_off rfl rfl ?_ | refine RL_off' rfl rfl ?_ | (refine RL_on rfl rfl ?_; (refine X_fieldAddr T.fd27_2 rfl ?_)))
    (first | refine RL_off rfl rfl ?_ | refine RL_off' rfl rfl ?_ | (refine RL_on rfl rfl ?_; ((first | refine S_load1 H 0 T.ty3 rfl rfl rfl ?_ | refine S_load1 H 1 T.ty3 rfl rfl rfl ?_ | refine S_load1 H 2 T.ty3 rfl rfl rfl ?_ | refine S_load1 H 3 T.ty3 rfl rfl rfl ?_ | refine S_load1 H 4 T.ty3 rfl rfl rfl ?_ | refine S_load1 H 5 T.ty3 rfl rfl rfl ?_ | refine S_load1 H 6 T.ty3 rfl rfl rfl ?_ | refine S_load1 H 7 T.ty3 rfl rfl rfl ?_ | refine S_load1 H 8 T.ty3 rfl rfl rfl ?_ | refine S_load1 H 9 T.ty3 rfl rfl rfl ?_))))
    (first | refine RL_off rfl rfl ?_ | refine RL_off' rfl rfl ?_ | (refine RL_on rfl rfl ?_; (first | refine X_int rfl rfl rfl (by omega) ?_ | refine X_bin rfl rfl rfl ?_)))
    (first | refine RL_off rfl rfl ?_ | refine RL_off' rfl rfl ?_ | (refine RL_on rfl rfl ?_; (first | refine X_cmp_t rfl rfl rfl (by first | assumption | omega) ?_ | refine X_cmp_f rfl rfl rfl (by first | assumption | omega) ?_ | refine X_bin rfl rfl rfl ?_)))
    refine RL_some ?_; (refine X_pick rfl rfl ?_)
    refine hK4 _ _ (W_keep (Keep.cons 5 rfl (Keep.cons 6 rfl (Keep.cons 44 rfl Keep.nil))) ?_)
    refine W_false rfl (W_skip (hK3 _ _ ?_))
    refine W_seq_k fun K5 hK5 => ?_
    refine W_reg rfl ?_
    refine RL_some ?_; (refine X_move rfl ?_)
    refine RL_some ?_; (refine X_fieldAddr T.fd27_3 rfl ?_)
    refine RL_some ?_; ((first | refine S_load1 H 0 T.ty24 rfl rfl rfl ?_ | refine S_load1 H 1 T.ty24 rfl rfl rfl ?_ | refine S_load1 H 2 T.ty24 rfl rfl rfl ?_ | refine S_load1 H 3 T.ty24 rfl rfl rfl ?_ | refine S_load1 H 4 T.ty24 rfl rfl rfl ?_ | refine S_load1 H 5 T.ty24 rfl rfl rfl ?_ | refine S_load1 H 6 T.ty24 rfl rfl rfl ?_ | refine S_load1 H 7 T.ty24 rfl rfl rfl ?_ | refine S_load1 H 8 T.ty24 rfl rfl rfl ?_ | refine S_load1 H 9 T.ty24 rfl rfl rfl ?_))
    refine RL_some ?_; (refine X_fieldAddr T.fd27_3 rfl ?_)
    refine RL_some ?_; ((first | refine S_load1 H 0 T.ty24 rfl rfl rfl ?_ | refine S_load1 H 1 T.ty24 rfl rfl rfl ?_ | refine S_load1 H 2 T.ty24 rfl rfl rfl ?_ | refine S_load1 H 3 T.ty24 rfl rfl rfl ?_ | refine S_load1 H 4 T.ty24 rfl rfl rfl ?_ | refine S_load1 H 5 T.ty24 rfl rfl rfl ?_ | refine S_load1 H 6 T.ty24 rfl rfl rfl ?_ | refine S_load1 H 7 T.ty24 rfl rfl rfl ?_ | refine S_load1 H 8 T.ty24 rfl rfl rfl ?_ | refine S_load1 H 9 T.ty24 rfl rfl rfl ?_))
    refine RL_some ?_; (refine X_conv T.in24 T.in3 rfl ?_; rw [hw])
    refine RL_some ?_; (refine X_fieldAddr T.fd27_2 rfl ?_)
    refine RL_some ?_; ((first | refine S_load1 H 0 T.ty3 rfl rfl rfl ?_ | refine S_load1 H 1 T.ty3 rfl rfl rfl ?_ | refine S_load1 H 2 T.ty3 rfl rfl rfl ?_ | refine S_load1 H 3 T.ty3 rfl rfl rfl ?_ | refine S_load1 H 4 T.ty3 rfl rfl rfl ?_ | refine S_load1 H 5 T.ty3 rfl rfl rfl ?_ | refine S_load1 H 6 T.ty3 rfl rfl rfl ?_ | refine S_load1 H 7 T.ty3 rfl rfl rfl ?_ | refine S_load1 H 8 T.ty3 rfl rfl rfl ?_ | refine S_load1 H 9 T.ty3 rfl rfl rfl ?_))
    refine RL_some ?_; (first | refine X_int rfl rfl rfl (by omega) ?_ | refine X_bin rfl rfl rfl ?_)
    refine RL_some ?_; (refine X_slice T.sl70 rfl rfl rfl rfl (r := (s.head.lba.toNat, (s.head.lba + s.head.count).toNat, sizeOf_ m s.head.ns)) (bnd_lh (by omega) (by omega) (by omega)) ?_; rw [hres])
    refine RL_some ?_; (refine X_assign rfl ?_)
    refine hK5 _ _ (W_keep (Keep.cons 4 rfl Keep.nil) ?_)
    refine W_ret ?_
    (try simp only [thenQ, blockQ, noGotoQ])
    refine body_tmp (.inr rfl) rfl rfl ?_
    exact ⟨rfl, H.drop.drop⟩

/-- a map without one of a place's sectors -/
def PMx.withE (m : PMx) (E : Ents Pl) (clock : Nat) : PMx := { m with E := E, clock := clock }

theorem withE_at (m : PMx) (E : Ents Pl) (clock : Nat) (L : List Asn) : (m.at_ ++ L).set 1 (Gm pk m.r E clock) = (m.withE E clock).at_ ++ L := rfl

theorem lose_none (m : PMx) (v : Value) {w0 w : World} {L : List Asn} (H : St w0 w L) :
    Calls Try.prog 29 #[pt m.p 0, .agg (encC none).toArray, v] w (After fun u w' => u = v ∧ St w0 w' L) := by
  refine calls_of_W (N := 41) (args := [pt m.p 0, .agg (encC none).toArray, v]) Try.func29 rfl Try.ntmps29 (by simp) ?_
  refine W_seq_k fun K1 hK1 => ?_
  refine W_reg rfl ?_
  refine RL_some ?_; (refine S_box H rfl ?_; intro b4 w H)
  refine RL_some ?_; (refine X_assign rfl ?_)
  refine hK1 _ _ (W_keep (Keep.cons 0 rfl (Keep.cons 2 rfl (Keep.cons 4 rfl Keep.nil))) ?_)
  refine W_seq_k fun K2 hK2 => ?_
  refine W_seq_k fun K3 hK3 => ?_
  refine W_reg rfl ?_
  refine RL_some ?_; (refine X_fieldAddr T.fd76_0 rfl ?_)
  refine RL_some ?_; ((first | refine S_load1 H 0 T.ty4 rfl rfl (v := .bool false) rfl ?_ | refine S_load1 H 1 T.ty4 rfl rfl (v := .bool false) rfl ?_ | refine S_load1 H 2 T.ty4 rfl rfl (v := .bool false) rfl ?_ | refine S_load1 H 3 T.ty4 rfl rfl (v := .bool false) rfl ?_ | refine S_load1 H 4 T.ty4 rfl rfl (v := .bool false) rfl ?_ | refine S_load1 H 5 T.ty4 rfl rfl (v := .bool false) rfl ?_ | refine S_load1 H 6 T.ty4 rfl rfl (v := .bool false) rfl ?_ | refine S_load1 H 7 T.ty4 rfl rfl (v := .bool false) rfl ?_ | refine S_load1 H 8 T.ty4 rfl rfl (v := .bool false) rfl ?_ | refine S_load1 H 9 T.ty4 rfl rfl (v := .bool false) rfl ?_))
  refine RL_some ?_; (refine X_not rfl ?_)
  refine hK3 _ _ (W_keep (Keep.cons 0 rfl (Keep.cons 2 rfl (Keep.cons 4 rfl (Keep.cons 10 rfl Keep.nil)))) ?_)
  refine W_true rfl ?_
  refine W_seq_k fun K4 hK4 => ?_
  refine W_reg rfl ?_
  refine RL_some ?_; (refine X_move rfl ?_)
  refine RL_some ?_; (refine X_assign rfl ?_)
  refine hK4 _ _ (W_keep (Keep.cons 6 rfl Keep.nil) ?_)
  refine W_ret ?_
  (try simp only [thenQ, blockQ, noGotoQ])
  refine body_tmp (.inr rfl) rfl rfl ?_
  exact ⟨rfl, H.drop⟩

theorem lose_some (m : PMx) (s : Spot) {f : Pl → Int} (hR : REF m.E m.clock f) (hf : 1 ≤ f s.place) (hfb : f s.place ≤ 1000000000) {v : Value} {k : Nat} {cs : List Value} (hk : k ≤ 1000000000) {w0 w : World} {L : List Asn}
    (H : St w0 w (m.at_ ++ Row v 23 2 k cs :: L)) :
    Calls Try.prog 29 #[pt m.p 0, .agg (encC (some s)).toArray, v] w (After fun u w' => ∃ E' clock', REF E' clock' (fun q => if q = s.place then f q - 1 else f q) ∧
      St w0 w' ((m.withE E' clock').at_ ++ Row u 23 2 (k + if f s.place = 1 then 1 else 0) (cs ++ if f s.place = 1 then s.place.enc else []) :: L)) := by
  have hv := hR.val s.place
  have hf0 : f s.place ≠ 0 := by omega
  by_cases h1 : f s.place = 1
  all_goals
    refine calls_of_W (N := 41) (args := [pt m.p 0, .agg (encC (some s)).toArray, v]) Try.func29 rfl Try.ntmps29 (by simp) ?_
    refine W_seq_k fun K1 hK1 => ?_
    refine W_reg rfl ?_
    refine RL_some ?_; (refine S_box H rfl ?_; intro b4 w H)
    refine RL_some ?_; (refine X_assign rfl ?_)
    refine hK1 _ _ (W_keep (Keep.cons 0 rfl (Keep.cons 2 rfl (Keep.cons 4 rfl Keep.nil))) ?_)
    refine W_seq_k fun K2 hK2 => ?_
    refine W_seq_k fun K3 hK3 => ?_
    refine W_reg rfl ?_
    refine RL_some ?_; (refine X_fieldAddr T.fd76_0 rfl ?_)
    refine RL_some ?_; ((first | refine S_load1 H 0 T.ty4 rfl rfl (v := .bool true) rfl ?_ | refine S_load1 H 1 T.ty4 rfl rfl (v := .bool true) rfl ?_ | refine S_load1 H 2 T.ty4 rfl rfl (v := .bool true) rfl ?_ | refine S_load1 H 3 T.ty4 rfl rfl (v := .bool true) rfl ?_ | refine S_load1 H 4 T.ty4 rfl rfl (v := .bool true) rfl ?_ | refine S_load1 H 5 T.ty4 rfl rfl (v := .bool true) rfl ?_ | refine S_load1 H 6 T.ty4 rfl rfl (v := .bool true) rfl ?_ | refine S_load1 H 7 T.ty4 rfl rfl (v := .bool true) rfl ?_ | refine S_load1 H 8 T.ty4 rfl rfl (v := .bool true) rfl ?_ | refine S_load1 H 9 T.ty4 rfl rfl (v := .bool true) rfl ?_))
    refine RL_some ?_; (refine X_not rfl ?_)
    refine hK3 _ _ (W_keep (Keep.cons 0 rfl (Keep.cons 2 rfl (Keep.cons 4 rfl (Keep.cons 10 rfl Keep.nil)))) ?_)
    refine W_false rfl (W_skip (hK2 _ _ ?_))
    refine W_seq_k fun K4 hK4 => ?_
    refine W_reg rfl ?_
    refine RL_some ?_; (refine X_fieldAddr T.fd76_1 rfl ?_)
    refine RL_some ?_; (refine X_fieldAddr T.fd29_0 rfl ?_)
    refine RL_some ?_; ((first | refine S_load H 0 T.ty23 rfl rfl (l := s.place.enc) rfl (Nat.le_of_ble_eq_true rfl) ?_ | refine S_load H 1 T.ty23 rfl rfl (l := s.place.enc) rfl (Nat.le_of_ble_eq_true rfl) ?_ | refine S_load H 2 T.ty23 rfl rfl (l := s.place.enc) rfl (Nat.le_of_ble_eq_true rfl) ?_ | refine S_load H 3 T.ty23 rfl rfl (l := s.place.enc) rfl (Nat.le_of_ble_eq_true rfl) ?_ | refine S_load H 4 T.ty23 rfl rfl (l := s.place.enc) rfl (Nat.le_of_ble_eq_true rfl) ?_ | refine S_load H 5 T.ty23 rfl rfl (l := s.place.enc) rfl (Nat.le_of_ble_eq_true rfl) ?_ | refine S_load H 6 T.ty23 rfl rfl (l := s.place.enc) rfl (Nat.le_of_ble_eq_true rfl) ?_ | refine S_load H 7 T.ty23 rfl rfl (l := s.place.enc) rfl (Nat.le_of_ble_eq_true rfl) ?_ | refine S_load H 8 T.ty23 rfl rfl (l := s.place.enc) rfl (Nat.le_of_ble_eq_true rfl) ?_ | refine S_load H 9 T.ty23 rfl rfl (l := s.place.enc) rfl (Nat.le_of_ble_eq_true rfl) ?_))
    refine RL_some ?_; (refine S_alloc H T.ze23 ?_; intro b7 w H)
    refine RL_none ?_; (((first | refine S_store H 0 T.ty23 rfl rfl rfl rfl (Nat.le_of_ble_eq_true rfl) rfl (c' := s.place.enc.toArray) rfl ?_ | refine S_store H 1 T.ty23 rfl rfl rfl rfl (Nat.le_of_ble_eq_true rfl) rfl (c' := s.place.enc.toArray) rfl ?_ | refine S_store H 2 T.ty23 rfl rfl rfl rfl (Nat.le_of_ble_eq_true rfl) rfl (c' := s.place.enc.toArray) rfl ?_ | refine S_store H 3 T.ty23 rfl rfl rfl rfl (Nat.le_of_ble_eq_true rfl) rfl (c' := s.place.enc.toArray) rfl ?_ | refine S_store H 4 T.ty23 rfl rfl rfl rfl (Nat.le_of_ble_eq_true rfl) rfl (c' := s.place.enc.toArray) rfl ?_ | refine S_store H 5 T.ty23 rfl rfl rfl rfl (Nat.le_of_ble_eq_true rfl) rfl (c' := s.place.enc.toArray) rfl ?_ | refine S_store H 6 T.ty23 rfl rfl rfl rfl (Nat.le_of_ble_eq_true rfl) rfl (c' := s.place.enc.toArray) rfl ?_ | refine S_store H 7 T.ty23 rfl rfl rfl rfl (Nat.le_of_ble_eq_true rfl) rfl (c' := s.place.enc.toArray) rfl ?_ | refine S_store H 8 T.ty23 rfl rfl rfl rfl (Nat.le_of_ble_eq_true rfl) rfl (c' := s.place.enc.toArray) rfl ?_ | refine S_store H 9 T.ty23 rfl rfl rfl rfl (Nat.le_of_ble_eq_true rfl) rfl (c' := s.place.enc.toArray) rfl ?_); intro w H))
    refine hK4 _ _ (W_keep (Keep.cons 0 rfl (Keep.cons 2 rfl (Keep.cons 7 rfl Keep.nil))) ?_)
    refine W_seq_k fun K6 hK6 => ?_
    refine W_seq_k fun K5 hK5 => ?_
    refine W_draw (.p 0 (.p 1 (.p 2 (.p 3 (.p 4 (.p 5 (.p 6 (.e 7 [5, 6] (.p 8 (.e 9 [] .nil .none)) .none)))))))) T.mixed rfl ?_
    replace H := H.drew
    apply DD_pure rfl rfl; next => (intro _; refine X_move rfl ⟨rfl, rfl⟩)
    apply DD_pure rfl rfl; next => (intro _; first | refine X_nil rfl ⟨rfl, rfl⟩ | refine X_nil_func rfl ⟨rfl, rfl⟩)
    apply DD_pure rfl rfl; next => (intro _; refine X_fieldAddr T.fd73_1 rfl ⟨rfl, rfl⟩)
    apply DD_read rfl rfl; next => ((first | refine S_load1 H 0 T.ty69 rfl rfl (v := .map (some m.r)) rfl ⟨rfl, rfl⟩ | refine S_load1 H 1 T.ty69 rfl rfl (v := .map (some m.r)) rfl ⟨rfl, rfl⟩ | refine S_load1 H 2 T.ty69 rfl rfl (v := .map (some m.r)) rfl ⟨rfl, rfl⟩ | refine S_load1 H 3 T.ty69 rfl rfl (v := .map (some m.r)) rfl ⟨rfl, rfl⟩ | refine S_load1 H 4 T.ty69 rfl rfl (v := .map (some m.r)) rfl ⟨rfl, rfl⟩ | refine S_load1 H 5 T.ty69 rfl rfl (v := .map (some m.r)) rfl ⟨rfl, rfl⟩ | refine S_load1 H 6 T.ty69 rfl rfl (v := .map (some m.r)) rfl ⟨rfl, rfl⟩ | refine S_load1 H 7 T.ty69 rfl rfl (v := .map (some m.r)) rfl ⟨rfl, rfl⟩ | refine S_load1 H 8 T.ty69 rfl rfl (v := .map (some m.r)) rfl ⟨rfl, rfl⟩ | refine S_load1 H 9 T.ty69 rfl rfl (v := .map (some m.r)) rfl ⟨rfl, rfl⟩))
    apply DD_read rfl rfl; next => ((first | refine S_load H 0 T.ty23 rfl rfl (l := s.place.enc) rfl (Nat.le_of_ble_eq_true rfl) ⟨rfl, rfl⟩ | refine S_load H 1 T.ty23 rfl rfl (l := s.place.enc) rfl (Nat.le_of_ble_eq_true rfl) ⟨rfl, rfl⟩ | refine S_load H 2 T.ty23 rfl rfl (l := s.place.enc) rfl (Nat.le_of_ble_eq_true rfl) ⟨rfl, rfl⟩ | refine S_load H 3 T.ty23 rfl rfl (l := s.place.enc) rfl (Nat.le_of_ble_eq_true rfl) ⟨rfl, rfl⟩ | refine S_load H 4 T.ty23 rfl rfl (l := s.place.enc) rfl (Nat.le_of_ble_eq_true rfl) ⟨rfl, rfl⟩ | refine S_load H 5 T.ty23 rfl rfl (l := s.place.enc) rfl (Nat.le_of_ble_eq_true rfl) ⟨rfl, rfl⟩ | refine S_load H 6 T.ty23 rfl rfl (l := s.place.enc) rfl (Nat.le_of_ble_eq_true rfl) ⟨rfl, rfl⟩ | refine S_load H 7 T.ty23 rfl rfl (l := s.place.enc) rfl (Nat.le_of_ble_eq_true rfl) ⟨rfl, rfl⟩ | refine S_load H 8 T.ty23 rfl rfl (l := s.place.enc) rfl (Nat.le_of_ble_eq_true rfl) ⟨rfl, rfl⟩ | refine S_load H 9 T.ty23 rfl rfl (l := s.place.enc) rfl (Nat.le_of_ble_eq_true rfl) ⟨rfl, rfl⟩))
    apply DD_read rfl rfl; next => (refine S_lookup (a := s.place) H 3 pl_law T.mp69 T.ze3 rfl rfl rfl ⟨rfl, rfl⟩)
    apply DD_pure rfl rfl; next => (intro _; first | refine X_int rfl rfl rfl (by omega) ⟨rfl, rfl⟩ | refine X_bin rfl rfl rfl ⟨rfl, rfl⟩)
    refine DD_eff rfl rfl ?_; (refine S_entry (a := s.place) H 3 pl_law T.mp69 T.ze3 rfl rfl rfl ?_ (fun hn => absurd (hR.idx_none.1 hn) hf0); intro j hj hidx hja w H)
    refine ⟨?_, ?_⟩; next => (repeat (first | exact rc_nil | refine rc_skip rfl ?_ | refine rc_true ?_ | (refine rc_read ?_ ?_; next => (first | (refine S_lookup (a := s.place) H 3 pl_law T.mp69 T.ze3 rfl rfl rfl ⟨rfl, rfl⟩)))))
    apply DD_pure rfl rfl; next => (intro _; refine X_extract rfl rfl ⟨rfl, rfl⟩)
    refine DD_eff rfl rfl ?_; (refine S_entryStore H 3 rfl rfl rfl rfl (stamp_idx hR.borns hj) ?_; intro w H)
    refine ⟨by repeat (first | exact rc_nil | refine rc_skip rfl ?_ | refine rc_true ?_), ?_⟩
    refine hK5 _ _ (W_keep (Keep.cons 0 rfl (Keep.cons 2 rfl (Keep.cons 7 rfl Keep.nil))) ?_)
    have hx1 : idxE (m.E.modify j fun x => (x.1, valE m.E s.place - 1, x.2.2)) s.place = some j := by rw [idx_modify]; exact hidx
    have hv1 : valE (m.E.modify j fun x => (x.1, valE m.E s.place - 1, x.2.2)) s.place = f s.place - 1 := by rw [val_modify hidx, hv]
    refine W_seq_k fun K7 hK7 => ?_
    refine W_draw (.p 0 (.p 1 (.p 2 (.p 3 (.p 4 (.p 5 (.p 6 .nil))))))) T.mixed rfl ?_
    replace H := H.drew
    apply DD_pure rfl rfl; next => (intro _; refine X_move rfl ⟨rfl, rfl⟩)
    apply DD_pure rfl rfl; next => (intro _; first | refine X_nil rfl ⟨rfl, rfl⟩ | refine X_nil_func rfl ⟨rfl, rfl⟩)
    apply DD_pure rfl rfl; next => (intro _; refine X_fieldAddr T.fd73_1 rfl ⟨rfl, rfl⟩)
    apply DD_read rfl rfl; next => ((first | refine S_load1 H 0 T.ty69 rfl rfl (v := .map (some m.r)) rfl ⟨rfl, rfl⟩ | refine S_load1 H 1 T.ty69 rfl rfl (v := .map (some m.r)) rfl ⟨rfl, rfl⟩ | refine S_load1 H 2 T.ty69 rfl rfl (v := .map (some m.r)) rfl ⟨rfl, rfl⟩ | refine S_load1 H 3 T.ty69 rfl rfl (v := .map (some m.r)) rfl ⟨rfl, rfl⟩ | refine S_load1 H 4 T.ty69 rfl rfl (v := .map (some m.r)) rfl ⟨rfl, rfl⟩ | refine S_load1 H 5 T.ty69 rfl rfl (v := .map (some m.r)) rfl ⟨rfl, rfl⟩ | refine S_load1 H 6 T.ty69 rfl rfl (v := .map (some m.r)) rfl ⟨rfl, rfl⟩ | refine S_load1 H 7 T.ty69 rfl rfl (v := .map (some m.r)) rfl ⟨rfl, rfl⟩ | refine S_load1 H 8 T.ty69 rfl rfl (v := .map (some m.r)) rfl ⟨rfl, rfl⟩ | refine S_load1 H 9 T.ty69 rfl rfl (v := .map (some m.r)) rfl ⟨rfl, rfl⟩))
    apply DD_read rfl rfl; next => ((first | refine S_load H 0 T.ty23 rfl rfl (l := s.place.enc) rfl (Nat.le_of_ble_eq_true rfl) ⟨rfl, rfl⟩ | refine S_load H 1 T.ty23 rfl rfl (l := s.place.enc) rfl (Nat.le_of_ble_eq_true rfl) ⟨rfl, rfl⟩ | refine S_load H 2 T.ty23 rfl rfl (l := s.place.enc) rfl (Nat.le_of_ble_eq_true rfl) ⟨rfl, rfl⟩ | refine S_load H 3 T.ty23 rfl rfl (l := s.place.enc) rfl (Nat.le_of_ble_eq_true rfl) ⟨rfl, rfl⟩ | refine S_load H 4 T.ty23 rfl rfl (l := s.place.enc) rfl (Nat.le_of_ble_eq_true rfl) ⟨rfl, rfl⟩ | refine S_load H 5 T.ty23 rfl rfl (l := s.place.enc) rfl (Nat.le_of_ble_eq_true rfl) ⟨rfl, rfl⟩ | refine S_load H 6 T.ty23 rfl rfl (l := s.place.enc) rfl (Nat.le_of_ble_eq_true rfl) ⟨rfl, rfl⟩ | refine S_load H 7 T.ty23 rfl rfl (l := s.place.enc) rfl (Nat.le_of_ble_eq_true rfl) ⟨rfl, rfl⟩ | refine S_load H 8 T.ty23 rfl rfl (l := s.place.enc) rfl (Nat.le_of_ble_eq_true rfl) ⟨rfl, rfl⟩ | refine S_load H 9 T.ty23 rfl rfl (l := s.place.enc) rfl (Nat.le_of_ble_eq_true rfl) ⟨rfl, rfl⟩))
    apply DD_read rfl rfl; next => (refine S_lookup (a := s.place) H 3 pl_law T.mp69 T.ze3 rfl rfl rfl ⟨rfl, rfl⟩)
    apply DD_pure rfl rfl; next => (intro _; first | refine X_cmp_t rfl rfl rfl (by first | assumption | omega) ⟨rfl, rfl⟩ | refine X_cmp_f rfl rfl rfl (by first | assumption | omega) ⟨rfl, rfl⟩ | refine X_bin rfl rfl rfl ⟨rfl, rfl⟩)
    refine hK7 _ _ (W_keep (Keep.cons 0 rfl (Keep.cons 2 rfl (Keep.cons 7 rfl (Keep.cons 30 rfl Keep.nil)))) ?_)
  · refine W_false rfl (W_skip (hK6 _ _ ?_))
    refine W_seq_k fun K8 hK8 => ?_
    refine W_draw (.p 0 (.p 1 (.p 2 (.p 3 (.p 4 (.e 5 [] .nil .none)))))) T.mixed rfl ?_
    replace H := H.drew
    apply DD_pure rfl rfl; next => (intro _; refine X_move rfl ⟨rfl, rfl⟩)
    apply DD_pure rfl rfl; next => (intro _; first | refine X_nil rfl ⟨rfl, rfl⟩ | refine X_nil_func rfl ⟨rfl, rfl⟩)
    apply DD_pure rfl rfl; next => (intro _; refine X_fieldAddr T.fd73_1 rfl ⟨rfl, rfl⟩)
    apply DD_read rfl rfl; next => ((first | refine S_load1 H 0 T.ty69 rfl rfl (v := .map (some m.r)) rfl ⟨rfl, rfl⟩ | refine S_load1 H 1 T.ty69 rfl rfl (v := .map (some m.r)) rfl ⟨rfl, rfl⟩ | refine S_load1 H 2 T.ty69 rfl rfl (v := .map (some m.r)) rfl ⟨rfl, rfl⟩ | refine S_load1 H 3 T.ty69 rfl rfl (v := .map (some m.r)) rfl ⟨rfl, rfl⟩ | refine S_load1 H 4 T.ty69 rfl rfl (v := .map (some m.r)) rfl ⟨rfl, rfl⟩ | refine S_load1 H 5 T.ty69 rfl rfl (v := .map (some m.r)) rfl ⟨rfl, rfl⟩ | refine S_load1 H 6 T.ty69 rfl rfl (v := .map (some m.r)) rfl ⟨rfl, rfl⟩ | refine S_load1 H 7 T.ty69 rfl rfl (v := .map (some m.r)) rfl ⟨rfl, rfl⟩ | refine S_load1 H 8 T.ty69 rfl rfl (v := .map (some m.r)) rfl ⟨rfl, rfl⟩ | refine S_load1 H 9 T.ty69 rfl rfl (v := .map (some m.r)) rfl ⟨rfl, rfl⟩))
    apply DD_read rfl rfl; next => ((first | refine S_load H 0 T.ty23 rfl rfl (l := s.place.enc) rfl (Nat.le_of_ble_eq_true rfl) ⟨rfl, rfl⟩ | refine S_load H 1 T.ty23 rfl rfl (l := s.place.enc) rfl (Nat.le_of_ble_eq_true rfl) ⟨rfl, rfl⟩ | refine S_load H 2 T.ty23 rfl rfl (l := s.place.enc) rfl (Nat.le_of_ble_eq_true rfl) ⟨rfl, rfl⟩ | refine S_load H 3 T.ty23 rfl rfl (l := s.place.enc) rfl (Nat.le_of_ble_eq_true rfl) ⟨rfl, rfl⟩ | refine S_load H 4 T.ty23 rfl rfl (l := s.place.enc) rfl (Nat.le_of_ble_eq_true rfl) ⟨rfl, rfl⟩ | refine S_load H 5 T.ty23 rfl rfl (l := s.place.enc) rfl (Nat.le_of_ble_eq_true rfl) ⟨rfl, rfl⟩ | refine S_load H 6 T.ty23 rfl rfl (l := s.place.enc) rfl (Nat.le_of_ble_eq_true rfl) ⟨rfl, rfl⟩ | refine S_load H 7 T.ty23 rfl rfl (l := s.place.enc) rfl (Nat.le_of_ble_eq_true rfl) ⟨rfl, rfl⟩ | refine S_load H 8 T.ty23 rfl rfl (l := s.place.enc) rfl (Nat.le_of_ble_eq_true rfl) ⟨rfl, rfl⟩ | refine S_load H 9 T.ty23 rfl rfl (l := s.place.enc) rfl (Nat.le_of_ble_eq_true rfl) ⟨rfl, rfl⟩))
    refine DD_eff rfl rfl ?_; (refine S_delete (a := s.place) H 3 pl_law T.mp69 rfl rfl rfl ?_; intro w H)
    refine ⟨by repeat (first | exact rc_nil | refine rc_skip rfl ?_ | refine rc_true ?_), ?_⟩
    refine hK8 _ _ (W_keep (Keep.cons 2 rfl (Keep.cons 7 rfl Keep.nil)) ?_)
    rw [hx1] at H
    simp only [erase_modify] at H
    refine W_seq_k fun K9 hK9 => ?_
    refine W_reg rfl ?_
    refine RL_some ?_; (refine X_move rfl ?_)
    refine RL_some ?_; ((first | refine S_load H 0 T.ty23 rfl rfl (l := s.place.enc) rfl (Nat.le_of_ble_eq_true rfl) ?_ | refine S_load H 1 T.ty23 rfl rfl (l := s.place.enc) rfl (Nat.le_of_ble_eq_true rfl) ?_ | refine S_load H 2 T.ty23 rfl rfl (l := s.place.enc) rfl (Nat.le_of_ble_eq_true rfl) ?_ | refine S_load H 3 T.ty23 rfl rfl (l := s.place.enc) rfl (Nat.le_of_ble_eq_true rfl) ?_ | refine S_load H 4 T.ty23 rfl rfl (l := s.place.enc) rfl (Nat.le_of_ble_eq_true rfl) ?_ | refine S_load H 5 T.ty23 rfl rfl (l := s.place.enc) rfl (Nat.le_of_ble_eq_true rfl) ?_ | refine S_load H 6 T.ty23 rfl rfl (l := s.place.enc) rfl (Nat.le_of_ble_eq_true rfl) ?_ | refine S_load H 7 T.ty23 rfl rfl (l := s.place.enc) rfl (Nat.le_of_ble_eq_true rfl) ?_ | refine S_load H 8 T.ty23 rfl rfl (l := s.place.enc) rfl (Nat.le_of_ble_eq_true rfl) ?_ | refine S_load H 9 T.ty23 rfl rfl (l := s.place.enc) rfl (Nat.le_of_ble_eq_true rfl) ?_))
    refine RL_some ?_; (refine S_lit (cells := s.place.enc.toArray) H T.sl41 T.ze23 rfl (by decide) (by decide) (fill1 rfl rfl) ?_; intro b9 w H)
    refine RL_some ?_; (refine S_append H 9 T.sl41 T.ze23 rfl (by decide) rfl rfl rfl (rd_of H 0 rfl rfl (Nat.le_of_ble_eq_true rfl)) rfl (by omega) (by omega) ?_; intro u w H)
    refine RL_some ?_; (refine X_assign rfl ?_)
    refine hK9 _ _ (W_keep (Keep.cons 6 rfl Keep.nil) ?_)
    refine W_ret ?_
    (try simp only [thenQ, blockQ, noGotoQ])
    refine body_tmp (.inr rfl) rfl rfl ?_
    refine ⟨m.E.eraseIdx j, m.clock, ?_, ?_⟩
    · have := hR.erase hidx
      refine cast (congrArg (REF _ _) ?_) this
      funext q
      by_cases e : q = s.place
      · simp [e, h1]
      · simp [e]
    · simp only [h1, if_true]
      exact St.perm (L := _ :: ((m.withE (m.E.eraseIdx j) m.clock).at_ ++ L)) H.swap.drop.swap.drop.swap.drop List.perm_middle.symm
  · refine W_true rfl ?_
    refine W_seq_k fun K8 hK8 => ?_
    refine W_reg rfl ?_
    refine RL_some ?_; (refine X_move rfl ?_)
    refine RL_some ?_; (refine X_assign rfl ?_)
    refine hK8 _ _ (W_keep (Keep.cons 6 rfl Keep.nil) ?_)
    refine W_ret ?_
    (try simp only [thenQ, blockQ, noGotoQ])
    refine body_tmp (.inr rfl) rfl rfl ?_
    refine ⟨m.E.modify j fun x => (x.1, f s.place - 1, x.2.2), m.clock, ?_, ?_⟩
    · refine cast (congrArg (REF _ _) ?_) (hR.modify hidx (v := f s.place - 1) (by omega))
      funext q
      by_cases e : q = s.place
      · simp [e]
      · simp [e]
    · rw [hv] at H
      simp only [h1, if_false, Nat.add_zero, List.append_nil]
      exact H.drop.drop
end Go.Proofs.Ytinngnckojbpnaa
