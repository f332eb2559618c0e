/- PagemapNil answers true whatever step it is given; its argument reads as it did. -/
import Derived.Test.YtinngnckojbpnaaPm9
/-! pagemap: a step as an argument; PagemapNil. -/
namespace Go.Proofs.Ytinngnckojbpnaa
open Go.Nep
set_option maxRecDepth 100000
set_option linter.unusedVariables false
set_option linter.unusedSimpArgs false
set_option maxHeartbeats 800000

structure StepT where
  kind : Int
  ns : Int
  size : Int
  s : Spot
  to : Pl
def StepT.enc (x : StepT) : List Value := [i64 x.kind, i64 x.ns, i64 x.size] ++ x.s.enc ++ x.to.enc
theorem step_cells : Try.prog.cellTypes Try.prog.depth 54 = some [3, 3, 3, 3, 3, 3, 3, 3, 24, 25, 25, 3, 3, 3, 24, 25, 25, 3, 3] := by kernel_rfl
theorem step_size : Try.prog.cellsOf 54 = 19 := by kernel_rfl

structure StepT.ok (x : StepT) : Prop where
  s : x.s.ok
  k0 : -9223372036854775808 ≤ x.kind
  k1 : x.kind ≤ 9223372036854775807
  n0 : -9223372036854775808 ≤ x.ns
  n1 : x.ns ≤ 9223372036854775807
  z0 : -9223372036854775808 ≤ x.size
  z1 : x.size ≤ 9223372036854775807

theorem step_row {w : World} {b : Nat} {cs : List Value} (hl : cs.length = 19) (hc : ∀ (i : Nat) (u : TypeId) (x : Value), cs[i]? = some x → [3, 3, 3, 3, 3, 3, 3, 3, 24, 25, 25, 3, 3, 3, 24, 25, 25, 3, 3][i]? = some u → Cell.okWide Try.prog w .any b u x) :
    ∃ s : StepT, cs = s.enc ∧ s.ok := by
  match cs, hl with
  | [v0, v1, v2, v3, v4, v5, v6, v7, v8, v9, v10, v11, v12, v13, v14, v15, v16, v17, v18], _ =>
    obtain ⟨n0, rfl, h0⟩ := cell_int Try.underlying3 (hc 0 3 v0 rfl rfl)
    obtain ⟨n1, rfl, h1⟩ := cell_int Try.underlying3 (hc 1 3 v1 rfl rfl)
    obtain ⟨n2, rfl, h2⟩ := cell_int Try.underlying3 (hc 2 3 v2 rfl rfl)
    obtain ⟨n3, rfl, h3⟩ := cell_int Try.underlying3 (hc 3 3 v3 rfl rfl)
    obtain ⟨n4, rfl, h4⟩ := cell_int Try.underlying3 (hc 4 3 v4 rfl rfl)
    obtain ⟨n5, rfl, h5⟩ := cell_int Try.underlying3 (hc 5 3 v5 rfl rfl)
    obtain ⟨n6, rfl, h6⟩ := cell_int Try.underlying3 (hc 6 3 v6 rfl rfl)
    obtain ⟨n7, rfl, h7⟩ := cell_int Try.underlying3 (hc 7 3 v7 rfl rfl)
    obtain ⟨n8, rfl, h8⟩ := cell_int Try.underlying24 (hc 8 24 v8 rfl rfl)
    obtain ⟨n9, rfl, h9⟩ := cell_int Try.underlying25 (hc 9 25 v9 rfl rfl)
    obtain ⟨n10, rfl, h10⟩ := cell_int Try.underlying25 (hc 10 25 v10 rfl rfl)
    obtain ⟨n11, rfl, h11⟩ := cell_int Try.underlying3 (hc 11 3 v11 rfl rfl)
    obtain ⟨n12, rfl, h12⟩ := cell_int Try.underlying3 (hc 12 3 v12 rfl rfl)
    obtain ⟨n13, rfl, h13⟩ := cell_int Try.underlying3 (hc 13 3 v13 rfl rfl)
    obtain ⟨n14, rfl, h14⟩ := cell_int Try.underlying24 (hc 14 24 v14 rfl rfl)
    obtain ⟨n15, rfl, h15⟩ := cell_int Try.underlying25 (hc 15 25 v15 rfl rfl)
    obtain ⟨n16, rfl, h16⟩ := cell_int Try.underlying25 (hc 16 25 v16 rfl rfl)
    obtain ⟨n17, rfl, h17⟩ := cell_int Try.underlying3 (hc 17 3 v17 rfl rfl)
    obtain ⟨n18, rfl, h18⟩ := cell_int Try.underlying3 (hc 18 3 v18 rfl rfl)
    refine ⟨⟨n0, n1, n2, ⟨⟨n3, n4⟩, ⟨n5, n6, n7, n8, n9, n10⟩, ⟨n11, n12, n13, n14, n15, n16⟩⟩, ⟨n17, n18⟩⟩, rfl, ?_⟩
    exact ⟨⟨⟨(has_u32 h8).1, Int.lt_add_one_of_le (has_u32 h8).2⟩, (has_i64 h3).1, (has_i64 h3).2, (has_i64 h4).1, (has_i64 h4).2, (has_i64 h6).1, (has_i64 h6).2, (has_i64 h7).1, (has_i64 h7).2⟩, (has_i64 h0).1, (has_i64 h0).2, (has_i64 h1).1, (has_i64 h1).2, (has_i64 h2).1, (has_i64 h2).2⟩

theorem step_of {w : World} {b : Nat} {v : Value} (h : Value.okWide Try.prog w .any b 54 v) : ∃ s : StepT, v = .agg s.enc.toArray ∧ s.ok := by
  obtain ⟨cs, rfl, hl, hc⟩ := agg_cells Try.underlying54 step_cells (by rw [step_size]; rfl) h
  obtain ⟨s, rfl, hs⟩ := step_row hl hc
  exact ⟨s, rfl, hs⟩

theorem Nil_spec (x : StepT) {w0 w : World} {L : List Asn} (H : St w0 w L) :
    Calls Try.prog 7 #[.agg x.enc.toArray] w (After fun v w' => v = .bool true ∧ St w0 w' L) := by
  refine calls_of_W (N := 94) (args := [.agg x.enc.toArray]) Try.func7 rfl Try.ntmps7 (by simp) ?_
  refine W_seq_k fun K1 hK1 => ?_
  refine W_reg rfl ?_
  refine RL_some ?_; (refine S_box H rfl ?_; intro b1 w H)
  refine RL_some ?_; (refine X_assign rfl ?_)
  refine hK1 _ _ (W_keep (Keep.cons 1 rfl Keep.nil) ?_)
  refine W_seq_k fun K2 hK2 => ?_
  refine W_reg rfl ?_
  refine RL_some ?_; (refine X_assign rfl ?_)
  refine hK2 _ _ (W_keep (Keep.cons 1 rfl (Keep.cons 3 rfl Keep.nil)) ?_)
  refine W_seq_k fun K3 hK3 => ?_
  refine W_reg rfl ?_
  refine RL_some ?_; (refine X_move rfl ?_)
  refine RL_some ?_; (refine X_fieldAddr T.fd54_1 rfl ?_)
  refine RL_some ?_; ((first | refine S_load1 H 0 T.ty3 rfl rfl (v := i64 x.ns) rfl ?_ | refine S_load1 H 1 T.ty3 rfl rfl (v := i64 x.ns) rfl ?_ | refine S_load1 H 2 T.ty3 rfl rfl (v := i64 x.ns) rfl ?_ | refine S_load1 H 3 T.ty3 rfl rfl (v := i64 x.ns) rfl ?_ | refine S_load1 H 4 T.ty3 rfl rfl (v := i64 x.ns) rfl ?_ | refine S_load1 H 5 T.ty3 rfl rfl (v := i64 x.ns) rfl ?_ | refine S_load1 H 6 T.ty3 rfl rfl (v := i64 x.ns) rfl ?_ | refine S_load1 H 7 T.ty3 rfl rfl (v := i64 x.ns) rfl ?_ | refine S_load1 H 8 T.ty3 rfl rfl (v := i64 x.ns) rfl ?_ | refine S_load1 H 9 T.ty3 rfl rfl (v := i64 x.ns) rfl ?_))
  refine RL_some ?_; (refine X_call T.ent22 rfl (calls_to (Drop_nil x.ns H) ?_); rintro v w ⟨rfl, H⟩)
  refine RL_some ?_; (refine X_move rfl ?_)
  refine RL_some ?_; (refine X_extract rfl rfl ?_)
  refine RL_some ?_; (refine X_extract rfl rfl ?_)
  refine RL_some ?_; (refine X_assign rfl ?_)
  refine RL_some ?_; (refine X_assign rfl ?_)
  refine hK3 _ _ (W_keep (Keep.cons 1 rfl (Keep.cons 3 rfl (Keep.cons 5 rfl Keep.nil))) ?_)
  refine W_seq_k fun K4 hK4 => ?_
  refine W_reg rfl ?_
  refine RL_some ?_; (refine X_move rfl ?_)
  refine RL_some ?_; (refine X_fieldAddr T.fd54_3 rfl ?_)
  refine RL_some ?_; ((first | refine S_load H 0 T.ty29 rfl rfl (l := x.s.enc) rfl (Nat.le_of_ble_eq_true rfl) ?_ | refine S_load H 1 T.ty29 rfl rfl (l := x.s.enc) rfl (Nat.le_of_ble_eq_true rfl) ?_ | refine S_load H 2 T.ty29 rfl rfl (l := x.s.enc) rfl (Nat.le_of_ble_eq_true rfl) ?_ | refine S_load H 3 T.ty29 rfl rfl (l := x.s.enc) rfl (Nat.le_of_ble_eq_true rfl) ?_ | refine S_load H 4 T.ty29 rfl rfl (l := x.s.enc) rfl (Nat.le_of_ble_eq_true rfl) ?_ | refine S_load H 5 T.ty29 rfl rfl (l := x.s.enc) rfl (Nat.le_of_ble_eq_true rfl) ?_ | refine S_load H 6 T.ty29 rfl rfl (l := x.s.enc) rfl (Nat.le_of_ble_eq_true rfl) ?_ | refine S_load H 7 T.ty29 rfl rfl (l := x.s.enc) rfl (Nat.le_of_ble_eq_true rfl) ?_ | refine S_load H 8 T.ty29 rfl rfl (l := x.s.enc) rfl (Nat.le_of_ble_eq_true rfl) ?_ | refine S_load H 9 T.ty29 rfl rfl (l := x.s.enc) rfl (Nat.le_of_ble_eq_true rfl) ?_))
  refine RL_some ?_; (refine X_call T.ent14 rfl (calls_to (Put_nil x.s H) ?_); rintro v w ⟨rfl, H⟩)
  refine RL_some ?_; (refine X_move rfl ?_)
  refine RL_some ?_; (refine X_extract rfl rfl ?_)
  refine RL_some ?_; (refine X_extract rfl rfl ?_)
  refine RL_some ?_; (refine X_assign rfl ?_)
  refine RL_some ?_; (refine X_assign rfl ?_)
  refine hK4 _ _ (W_keep (Keep.cons 1 rfl (Keep.cons 3 rfl (Keep.cons 5 rfl (Keep.cons 7 rfl Keep.nil)))) ?_)
  refine W_seq_k fun K5 hK5 => ?_
  refine W_reg rfl ?_
  refine RL_some ?_; (refine X_move rfl ?_)
  refine RL_some ?_; (refine X_fieldAddr T.fd54_1 rfl ?_)
  refine RL_some ?_; ((first | refine S_load1 H 0 T.ty3 rfl rfl (v := i64 x.ns) rfl ?_ | refine S_load1 H 1 T.ty3 rfl rfl (v := i64 x.ns) rfl ?_ | refine S_load1 H 2 T.ty3 rfl rfl (v := i64 x.ns) rfl ?_ | refine S_load1 H 3 T.ty3 rfl rfl (v := i64 x.ns) rfl ?_ | refine S_load1 H 4 T.ty3 rfl rfl (v := i64 x.ns) rfl ?_ | refine S_load1 H 5 T.ty3 rfl rfl (v := i64 x.ns) rfl ?_ | refine S_load1 H 6 T.ty3 rfl rfl (v := i64 x.ns) rfl ?_ | refine S_load1 H 7 T.ty3 rfl rfl (v := i64 x.ns) rfl ?_ | refine S_load1 H 8 T.ty3 rfl rfl (v := i64 x.ns) rfl ?_ | refine S_load1 H 9 T.ty3 rfl rfl (v := i64 x.ns) rfl ?_))
  refine RL_some ?_; (refine X_call T.ent15 rfl (calls_to (Get_nil x.ns 0 H) ?_); rintro v w ⟨rfl, H⟩)
  refine RL_some ?_; (refine X_move rfl ?_)
  refine RL_some ?_; (refine X_extract rfl rfl ?_)
  refine RL_some ?_; (refine X_extract rfl rfl ?_)
  refine RL_some ?_; (refine S_alloc H T.ze29 ?_; intro b8 w H)
  refine RL_none ?_; (refine S_store H 0 T.ty29 rfl rfl rfl rfl (Nat.le_of_ble_eq_true rfl) rfl (c' := noSpot.enc.toArray) rfl ?_; intro w H)
  refine RL_some ?_; (refine X_assign rfl ?_)
  refine hK5 _ _ (W_keep (Keep.cons 1 rfl (Keep.cons 3 rfl (Keep.cons 5 rfl (Keep.cons 7 rfl (Keep.cons 9 rfl Keep.nil))))) ?_)
  replace H := H.drop
  refine W_seq_k fun K6 hK6 => ?_
  refine W_reg rfl ?_
  refine RL_some ?_; (refine X_move rfl ?_)
  refine RL_some ?_; (refine X_fieldAddr T.fd54_1 rfl ?_)
  refine RL_some ?_; ((first | refine S_load1 H 0 T.ty3 rfl rfl (v := i64 x.ns) rfl ?_ | refine S_load1 H 1 T.ty3 rfl rfl (v := i64 x.ns) rfl ?_ | refine S_load1 H 2 T.ty3 rfl rfl (v := i64 x.ns) rfl ?_ | refine S_load1 H 3 T.ty3 rfl rfl (v := i64 x.ns) rfl ?_ | refine S_load1 H 4 T.ty3 rfl rfl (v := i64 x.ns) rfl ?_ | refine S_load1 H 5 T.ty3 rfl rfl (v := i64 x.ns) rfl ?_ | refine S_load1 H 6 T.ty3 rfl rfl (v := i64 x.ns) rfl ?_ | refine S_load1 H 7 T.ty3 rfl rfl (v := i64 x.ns) rfl ?_ | refine S_load1 H 8 T.ty3 rfl rfl (v := i64 x.ns) rfl ?_ | refine S_load1 H 9 T.ty3 rfl rfl (v := i64 x.ns) rfl ?_))
  refine RL_some ?_; (refine X_fieldAddr T.fd54_2 rfl ?_)
  refine RL_some ?_; ((first | refine S_load1 H 0 T.ty3 rfl rfl (v := i64 x.size) rfl ?_ | refine S_load1 H 1 T.ty3 rfl rfl (v := i64 x.size) rfl ?_ | refine S_load1 H 2 T.ty3 rfl rfl (v := i64 x.size) rfl ?_ | refine S_load1 H 3 T.ty3 rfl rfl (v := i64 x.size) rfl ?_ | refine S_load1 H 4 T.ty3 rfl rfl (v := i64 x.size) rfl ?_ | refine S_load1 H 5 T.ty3 rfl rfl (v := i64 x.size) rfl ?_ | refine S_load1 H 6 T.ty3 rfl rfl (v := i64 x.size) rfl ?_ | refine S_load1 H 7 T.ty3 rfl rfl (v := i64 x.size) rfl ?_ | refine S_load1 H 8 T.ty3 rfl rfl (v := i64 x.size) rfl ?_ | refine S_load1 H 9 T.ty3 rfl rfl (v := i64 x.size) rfl ?_))
  refine RL_some ?_; (refine X_call T.ent13 rfl (calls_to (Add_nil x.ns x.size) ?_); rintro v w ⟨rfl, rfl⟩)
  refine RL_some ?_; (first | refine X_cmp_t rfl rfl rfl (by first | assumption | omega) ?_ | refine X_cmp_f rfl rfl rfl (by first | assumption | omega) ?_ | refine X_bin rfl rfl rfl ?_)
  refine RL_some ?_; (refine X_move rfl ?_)
  (first | refine RL_off rfl rfl ?_ | refine RL_off' rfl rfl ?_ | (refine RL_on rfl rfl ?_; (refine X_move rfl ?_)))
  (first | refine RL_off rfl rfl ?_ | refine RL_off' rfl rfl ?_ | (refine RL_on rfl rfl ?_; (first | refine X_cmp_t rfl rfl rfl (by first | assumption | omega) ?_ | refine X_cmp_f rfl rfl rfl (by first | assumption | omega) ?_ | refine X_bin rfl rfl rfl ?_)))
  refine RL_some ?_; (refine X_pick rfl rfl ?_)
  refine RL_some ?_; (refine X_move rfl ?_)
  (first | refine RL_off rfl rfl ?_ | refine RL_off' rfl rfl ?_ | (refine RL_on rfl rfl ?_; (refine X_move rfl ?_)))
  (first | refine RL_off rfl rfl ?_ | refine RL_off' rfl rfl ?_ | (refine RL_on rfl rfl ?_; (first | refine X_cmp_t rfl rfl rfl (by first | assumption | omega) ?_ | refine X_cmp_f rfl rfl rfl (by first | assumption | omega) ?_ | refine X_bin rfl rfl rfl ?_)))
  refine RL_some ?_; (refine X_pick rfl rfl ?_)
  refine RL_some ?_; (refine X_move rfl ?_)
  (first | refine RL_off rfl rfl ?_ | refine RL_off' rfl rfl ?_ | (refine RL_on rfl rfl ?_; (refine X_move rfl ?_)))
  (first | refine RL_off rfl rfl ?_ | refine RL_off' rfl rfl ?_ | (refine RL_on rfl rfl ?_; (refine X_not rfl ?_)))
  refine RL_some ?_; (refine X_pick rfl rfl ?_)
  refine RL_some ?_; (refine X_move rfl ?_)
  (first | refine RL_off rfl rfl ?_ | refine RL_off' rfl rfl ?_ | (refine RL_on rfl rfl ?_; (refine X_move rfl ?_)))
  (first | refine RL_off rfl rfl ?_ | refine RL_off' rfl rfl ?_ | (refine RL_on rfl rfl ?_; (refine X_fieldAddr T.fd54_1 rfl ?_)))
  (first | refine RL_off rfl rfl ?_ | refine RL_off' rfl rfl ?_ | (refine RL_on rfl rfl ?_; ((first | refine S_load1 H 0 T.ty3 rfl rfl (v := i64 x.ns) rfl ?_ | refine S_load1 H 1 T.ty3 rfl rfl (v := i64 x.ns) rfl ?_ | refine S_load1 H 2 T.ty3 rfl rfl (v := i64 x.ns) rfl ?_ | refine S_load1 H 3 T.ty3 rfl rfl (v := i64 x.ns) rfl ?_ | refine S_load1 H 4 T.ty3 rfl rfl (v := i64 x.ns) rfl ?_ | refine S_load1 H 5 T.ty3 rfl rfl (v := i64 x.ns) rfl ?_ | refine S_load1 H 6 T.ty3 rfl rfl (v := i64 x.ns) rfl ?_ | refine S_load1 H 7 T.ty3 rfl rfl (v := i64 x.ns) rfl ?_ | refine S_load1 H 8 T.ty3 rfl rfl (v := i64 x.ns) rfl ?_ | refine S_load1 H 9 T.ty3 rfl rfl (v := i64 x.ns) rfl ?_))))
  (first | refine RL_off rfl rfl ?_ | refine RL_off' rfl rfl ?_ | (refine RL_on rfl rfl ?_; (refine X_call T.ent23 rfl (calls_to (Size_nil x.ns) ?_); rintro v w ⟨rfl, rfl⟩)))
  (first | refine RL_off rfl rfl ?_ | refine RL_off' rfl rfl ?_ | (refine RL_on rfl rfl ?_; (first | refine X_cmp_t rfl rfl rfl (by first | assumption | omega) ?_ | refine X_cmp_f rfl rfl rfl (by first | assumption | omega) ?_ | refine X_bin rfl rfl rfl ?_)))
  refine RL_some ?_; (refine X_pick rfl rfl ?_)
  refine RL_some ?_; (refine X_move rfl ?_)
  (first | refine RL_off rfl rfl ?_ | refine RL_off' rfl rfl ?_ | (refine RL_on rfl rfl ?_; (refine X_move rfl ?_)))
  (first | refine RL_off rfl rfl ?_ | refine RL_off' rfl rfl ?_ | (refine RL_on rfl rfl ?_; (refine X_fieldAddr T.fd54_4 rfl ?_)))
  (first | refine RL_off rfl rfl ?_ | refine RL_off' rfl rfl ?_ | (refine RL_on rfl rfl ?_; ((first | refine S_load H 0 T.ty23 rfl rfl (l := x.to.enc) rfl (Nat.le_of_ble_eq_true rfl) ?_ | refine S_load H 1 T.ty23 rfl rfl (l := x.to.enc) rfl (Nat.le_of_ble_eq_true rfl) ?_ | refine S_load H 2 T.ty23 rfl rfl (l := x.to.enc) rfl (Nat.le_of_ble_eq_true rfl) ?_ | refine S_load H 3 T.ty23 rfl rfl (l := x.to.enc) rfl (Nat.le_of_ble_eq_true rfl) ?_ | refine S_load H 4 T.ty23 rfl rfl (l := x.to.enc) rfl (Nat.le_of_ble_eq_true rfl) ?_ | refine S_load H 5 T.ty23 rfl rfl (l := x.to.enc) rfl (Nat.le_of_ble_eq_true rfl) ?_ | refine S_load H 6 T.ty23 rfl rfl (l := x.to.enc) rfl (Nat.le_of_ble_eq_true rfl) ?_ | refine S_load H 7 T.ty23 rfl rfl (l := x.to.enc) rfl (Nat.le_of_ble_eq_true rfl) ?_ | refine S_load H 8 T.ty23 rfl rfl (l := x.to.enc) rfl (Nat.le_of_ble_eq_true rfl) ?_ | refine S_load H 9 T.ty23 rfl rfl (l := x.to.enc) rfl (Nat.le_of_ble_eq_true rfl) ?_))))
  (first | refine RL_off rfl rfl ?_ | refine RL_off' rfl rfl ?_ | (refine RL_on rfl rfl ?_; (refine X_call T.ent18 rfl (calls_to (Refs_nil x.to H) ?_); rintro v w ⟨rfl, H⟩)))
  (first | refine RL_off rfl rfl ?_ | refine RL_off' rfl rfl ?_ | (refine RL_on rfl rfl ?_; (first | refine X_cmp_t rfl rfl rfl (by first | assumption | omega) ?_ | refine X_cmp_f rfl rfl rfl (by first | assumption | omega) ?_ | refine X_bin rfl rfl rfl ?_)))
  refine RL_some ?_; (refine X_pick rfl rfl ?_)
  refine RL_some ?_; (refine X_move rfl ?_)
  (first | refine RL_off rfl rfl ?_ | refine RL_off' rfl rfl ?_ | (refine RL_on rfl rfl ?_; (refine X_move rfl ?_)))
  (first | refine RL_off rfl rfl ?_ | refine RL_off' rfl rfl ?_ | (refine RL_on rfl rfl ?_; (refine X_fieldAddr T.fd54_4 rfl ?_)))
  (first | refine RL_off rfl rfl ?_ | refine RL_off' rfl rfl ?_ | (refine RL_on rfl rfl ?_; ((first | refine S_load H 0 T.ty23 rfl rfl (l := x.to.enc) rfl (Nat.le_of_ble_eq_true rfl) ?_ | refine S_load H 1 T.ty23 rfl rfl (l := x.to.enc) rfl (Nat.le_of_ble_eq_true rfl) ?_ | refine S_load H 2 T.ty23 rfl rfl (l := x.to.enc) rfl (Nat.le_of_ble_eq_true rfl) ?_ | refine S_load H 3 T.ty23 rfl rfl (l := x.to.enc) rfl (Nat.le_of_ble_eq_true rfl) ?_ | refine S_load H 4 T.ty23 rfl rfl (l := x.to.enc) rfl (Nat.le_of_ble_eq_true rfl) ?_ | refine S_load H 5 T.ty23 rfl rfl (l := x.to.enc) rfl (Nat.le_of_ble_eq_true rfl) ?_ | refine S_load H 6 T.ty23 rfl rfl (l := x.to.enc) rfl (Nat.le_of_ble_eq_true rfl) ?_ | refine S_load H 7 T.ty23 rfl rfl (l := x.to.enc) rfl (Nat.le_of_ble_eq_true rfl) ?_ | refine S_load H 8 T.ty23 rfl rfl (l := x.to.enc) rfl (Nat.le_of_ble_eq_true rfl) ?_ | refine S_load H 9 T.ty23 rfl rfl (l := x.to.enc) rfl (Nat.le_of_ble_eq_true rfl) ?_))))
  (first | refine RL_off rfl rfl ?_ | refine RL_off' rfl rfl ?_ | (refine RL_on rfl rfl ?_; (refine X_fieldAddr T.fd54_4 rfl ?_)))
  (first | refine RL_off rfl rfl ?_ | refine RL_off' rfl rfl ?_ | (refine RL_on rfl rfl ?_; ((first | refine S_load H 0 T.ty23 rfl rfl (l := x.to.enc) rfl (Nat.le_of_ble_eq_true rfl) ?_ | refine S_load H 1 T.ty23 rfl rfl (l := x.to.enc) rfl (Nat.le_of_ble_eq_true rfl) ?_ | refine S_load H 2 T.ty23 rfl rfl (l := x.to.enc) rfl (Nat.le_of_ble_eq_true rfl) ?_ | refine S_load H 3 T.ty23 rfl rfl (l := x.to.enc) rfl (Nat.le_of_ble_eq_true rfl) ?_ | refine S_load H 4 T.ty23 rfl rfl (l := x.to.enc) rfl (Nat.le_of_ble_eq_true rfl) ?_ | refine S_load H 5 T.ty23 rfl rfl (l := x.to.enc) rfl (Nat.le_of_ble_eq_true rfl) ?_ | refine S_load H 6 T.ty23 rfl rfl (l := x.to.enc) rfl (Nat.le_of_ble_eq_true rfl) ?_ | refine S_load H 7 T.ty23 rfl rfl (l := x.to.enc) rfl (Nat.le_of_ble_eq_true rfl) ?_ | refine S_load H 8 T.ty23 rfl rfl (l := x.to.enc) rfl (Nat.le_of_ble_eq_true rfl) ?_ | refine S_load H 9 T.ty23 rfl rfl (l := x.to.enc) rfl (Nat.le_of_ble_eq_true rfl) ?_))))
  (first | refine RL_off rfl rfl ?_ | refine RL_off' rfl rfl ?_ | (refine RL_on rfl rfl ?_; (refine X_fieldAddr T.fd54_3 rfl ?_)))
  (first | refine RL_off rfl rfl ?_ | refine RL_off' rfl rfl ?_ | (refine RL_on rfl rfl ?_; (refine X_fieldAddr T.fd29_2 rfl ?_)))
  (first | refine RL_off rfl rfl ?_ | refine RL_off' rfl rfl ?_ | (refine RL_on rfl rfl ?_; ((first | refine S_load H 0 T.ty27 rfl rfl (l := x.s.order.enc) rfl (Nat.le_of_ble_eq_true rfl) ?_ | refine S_load H 1 T.ty27 rfl rfl (l := x.s.order.enc) rfl (Nat.le_of_ble_eq_true rfl) ?_ | refine S_load H 2 T.ty27 rfl rfl (l := x.s.order.enc) rfl (Nat.le_of_ble_eq_true rfl) ?_ | refine S_load H 3 T.ty27 rfl rfl (l := x.s.order.enc) rfl (Nat.le_of_ble_eq_true rfl) ?_ | refine S_load H 4 T.ty27 rfl rfl (l := x.s.order.enc) rfl (Nat.le_of_ble_eq_true rfl) ?_ | refine S_load H 5 T.ty27 rfl rfl (l := x.s.order.enc) rfl (Nat.le_of_ble_eq_true rfl) ?_ | refine S_load H 6 T.ty27 rfl rfl (l := x.s.order.enc) rfl (Nat.le_of_ble_eq_true rfl) ?_ | refine S_load H 7 T.ty27 rfl rfl (l := x.s.order.enc) rfl (Nat.le_of_ble_eq_true rfl) ?_ | refine S_load H 8 T.ty27 rfl rfl (l := x.s.order.enc) rfl (Nat.le_of_ble_eq_true rfl) ?_ | refine S_load H 9 T.ty27 rfl rfl (l := x.s.order.enc) rfl (Nat.le_of_ble_eq_true rfl) ?_))))
  (first | refine RL_off rfl rfl ?_ | refine RL_off' rfl rfl ?_ | (refine RL_on rfl rfl ?_; (refine X_call T.ent24 rfl (calls_to (Move_nil x.to x.to x.s.order H) ?_); rintro v w ⟨rfl, H⟩)))
  (first | refine RL_off rfl rfl ?_ | refine RL_off' rfl rfl ?_ | (refine RL_on rfl rfl ?_; (first | refine X_cmp_t rfl rfl rfl (by first | assumption | omega) ?_ | refine X_cmp_f rfl rfl rfl (by first | assumption | omega) ?_ | refine X_bin rfl rfl rfl ?_)))
  refine RL_some ?_; (refine X_pick rfl rfl ?_)
  refine RL_some ?_; (refine X_move rfl ?_)
  (first | refine RL_off rfl rfl ?_ | refine RL_off' rfl rfl ?_ | (refine RL_on rfl rfl ?_; (refine X_move rfl ?_)))
  (first | refine RL_off rfl rfl ?_ | refine RL_off' rfl rfl ?_ | (refine RL_on rfl rfl ?_; (refine X_fieldAddr T.fd54_1 rfl ?_)))
  (first | refine RL_off rfl rfl ?_ | refine RL_off' rfl rfl ?_ | (refine RL_on rfl rfl ?_; ((first | refine S_load1 H 0 T.ty3 rfl rfl (v := i64 x.ns) rfl ?_ | refine S_load1 H 1 T.ty3 rfl rfl (v := i64 x.ns) rfl ?_ | refine S_load1 H 2 T.ty3 rfl rfl (v := i64 x.ns) rfl ?_ | refine S_load1 H 3 T.ty3 rfl rfl (v := i64 x.ns) rfl ?_ | refine S_load1 H 4 T.ty3 rfl rfl (v := i64 x.ns) rfl ?_ | refine S_load1 H 5 T.ty3 rfl rfl (v := i64 x.ns) rfl ?_ | refine S_load1 H 6 T.ty3 rfl rfl (v := i64 x.ns) rfl ?_ | refine S_load1 H 7 T.ty3 rfl rfl (v := i64 x.ns) rfl ?_ | refine S_load1 H 8 T.ty3 rfl rfl (v := i64 x.ns) rfl ?_ | refine S_load1 H 9 T.ty3 rfl rfl (v := i64 x.ns) rfl ?_))))
  (first | refine RL_off rfl rfl ?_ | refine RL_off' rfl rfl ?_ | (refine RL_on rfl rfl ?_; (refine X_call T.ent21 rfl (calls_to (In_nil x.ns H) ?_); rintro v w ⟨rfl, H⟩)))
  (first | refine RL_off rfl rfl ?_ | refine RL_off' rfl rfl ?_ | (refine RL_on rfl rfl ?_; (refine X_len T.sl35 rfl ?_)))
  (first | refine RL_off rfl rfl ?_ | refine RL_off' rfl rfl ?_ | (refine RL_on rfl rfl ?_; (first | refine X_cmp_t rfl rfl rfl (by first | assumption | omega) ?_ | refine X_cmp_f rfl rfl rfl (by first | assumption | omega) ?_ | refine X_bin rfl rfl rfl ?_)))
  refine RL_some ?_; (refine X_pick rfl rfl ?_)
  refine RL_some ?_; (refine X_move rfl ?_)
  (first | refine RL_off rfl rfl ?_ | refine RL_off' rfl rfl ?_ | (refine RL_on rfl rfl ?_; (refine X_move rfl ?_)))
  (first | refine RL_off rfl rfl ?_ | refine RL_off' rfl rfl ?_ | (refine RL_on rfl rfl ?_; (refine X_fieldAddr T.fd54_1 rfl ?_)))
  (first | refine RL_off rfl rfl ?_ | refine RL_off' rfl rfl ?_ | (refine RL_on rfl rfl ?_; ((first | refine S_load1 H 0 T.ty3 rfl rfl (v := i64 x.ns) rfl ?_ | refine S_load1 H 1 T.ty3 rfl rfl (v := i64 x.ns) rfl ?_ | refine S_load1 H 2 T.ty3 rfl rfl (v := i64 x.ns) rfl ?_ | refine S_load1 H 3 T.ty3 rfl rfl (v := i64 x.ns) rfl ?_ | refine S_load1 H 4 T.ty3 rfl rfl (v := i64 x.ns) rfl ?_ | refine S_load1 H 5 T.ty3 rfl rfl (v := i64 x.ns) rfl ?_ | refine S_load1 H 6 T.ty3 rfl rfl (v := i64 x.ns) rfl ?_ | refine S_load1 H 7 T.ty3 rfl rfl (v := i64 x.ns) rfl ?_ | refine S_load1 H 8 T.ty3 rfl rfl (v := i64 x.ns) rfl ?_ | refine S_load1 H 9 T.ty3 rfl rfl (v := i64 x.ns) rfl ?_))))
  (first | refine RL_off rfl rfl ?_ | refine RL_off' rfl rfl ?_ | (refine RL_on rfl rfl ?_; (refine X_call T.ent25 rfl (calls_to (Data_nil x.ns H) ?_); rintro v w ⟨rfl, H⟩)))
  (first | refine RL_off rfl rfl ?_ | refine RL_off' rfl rfl ?_ | (refine RL_on rfl rfl ?_; (first | refine X_cmp_t rfl rfl rfl (by first | assumption | omega) ?_ | refine X_cmp_f rfl rfl rfl (by first | assumption | omega) ?_ | refine X_bin rfl rfl rfl ?_)))
  refine RL_some ?_; (refine X_pick rfl rfl ?_)
  refine RL_some ?_; (refine X_move rfl ?_)
  (first | refine RL_off rfl rfl ?_ | refine RL_off' rfl rfl ?_ | (refine RL_on rfl rfl ?_; (refine X_call T.ent11 rfl (calls_to (awake_spec H) ?_); rintro v w ⟨rfl, H⟩)))
  refine RL_some ?_; (refine X_pick rfl rfl ?_)
  refine RL_some ?_; (refine X_assign rfl ?_)
  refine hK6 _ _ (W_keep (Keep.cons 2 rfl Keep.nil) ?_)
  refine W_ret ?_
  (try simp only [thenQ, blockQ, noGotoQ])
  refine body_tmp (.inr rfl) rfl rfl ?_
  exact ⟨rfl, H.drop⟩

theorem PagemapNil_lifted (os : Os) (started : os.Started) (H : Type) (enc : TypeId × Value → H) :
    ReturnsInHanded {} Try.checked os 7 .any (Rows.pagemapNilSpec.pre6 enc Try.prog Try.f7 Rows.pagemapNilRow.domain false) (Rows.pagemapNilSpec.post enc Try.prog Try.f7 false true false false) := by
  refine returnsInHanded_of_change (C := Try.checked) own_knob started (by kernel_rfl) Try.func7
    (ChangeSpec.witness6 (enc := enc) (C := Try.checked) false ⟨#[], #[.agg (StepT.enc ⟨0, 0, 0, noSpot, ⟨0, 0⟩⟩).toArray], []⟩ 8 (by kernel_rfl) (by kernel_rfl) (by kernel_rfl) (by kernel_rfl))
    (law_contract (tb := 4) laid_out (by kernel_rfl) rfl ?_ rfl Try.underlying4 ?_)
  · intro ds hd
    match ds, hd with
    | [d1], _ => rfl
  · intro W base args ds ps hsz hval _ _
    obtain ⟨v0, rfl⟩ := args_one hsz
    obtain ⟨a, rfl, _⟩ := step_of (hval 0 54 v0 rfl rfl)
    exact Nil_spec a (St.start W)

theorem PagemapNil_holds : Rows.PagemapNilSaid :=
  OpenClaim.holds_of_wide 7 Try.f7 rfl rfl rfl rfl rfl rfl rfl ⟨rfl, rfl, rfl, rfl, rfl⟩ rfl rfl rfl rfl rfl (by kernel_rfl) Try.func7 (by kernel_rfl)
    (of_decide_eq_true (by kernel_rfl)) (by unfold Func.isWrapper; first | (rw [if_pos (by decide +kernel)]; kernel_rfl) | (rw [if_neg (by decide +kernel)]; exact ⟨rfl, rfl⟩))
    (fun os started H enc _ => PagemapNil_lifted os started H enc)
end Go.Proofs.Ytinngnckojbpnaa
