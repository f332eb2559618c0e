import Derived.Test.YtinngnckojbpnaaPm1
/-! pagemap: Size, New, Refs, Get, Add. -/
namespace Go.Proofs.Ytinngnckojbpnaa
open Go.Nep
set_option maxRecDepth 100000
set_option linter.unusedVariables false
set_option linter.unusedSimpArgs false

theorem slv_len (b : Option Nat) (n : Nat) (h : b = none → n = 0) : ∃ ad, slv b n = .slice ad n n := by
  cases b with
  | none => exact ⟨none, by simp [slv, h rfl]⟩
  | some b => exact ⟨_, rfl⟩

/-- no block: no cells -/
theorem row_none {m : PMx} {w0 w : World} {L : List Asn} (H : St w0 w (m.at_ ++ L)) (k : Nat) (hk : k < 4) (h : m.bo k = none) : m.l k = [] := by
  have H1 := H.foc (2 + k) (at_get m k hk L)
  rw [h] at H1
  exact H1.pu.1

theorem own_len {m : PMx} {w0 w : World} {L : List Asn} (H : St w0 w (m.at_ ++ L)) (ns : Int) : ∃ ad, ownV m ns = .slice ad (if 0 ≤ ns ∧ ns < 4 then (m.l ns.toNat).length else 0) (if 0 ≤ ns ∧ ns < 4 then (m.l ns.toNat).length else 0) := by
  unfold ownV
  split
  · exact slv_len _ _ fun h => by rw [row_none H _ (by omega) h]; rfl
  · exact ⟨none, rfl⟩

/-- how many sectors a namespace has -/
def sizeOf_ (m : PMx) (ns : Int) : Nat := if 0 ≤ ns ∧ ns < 4 then (m.l ns.toNat).length else 0

theorem Size_nil (ns : Int) {w : World} : Calls Try.prog 23 #[.pointer none, i64 ns] w (After fun v w' => v = i64 0 ∧ w' = w) := by
  refine calls_of_W (N := 9) (args := [.pointer none, i64 ns]) Try.func23 rfl Try.ntmps23 (by simp) ?_
  refine W_seq_k fun K1 hK1 => ?_
  refine W_reg rfl ?_
  refine RL_some ?_; (refine X_assign rfl ?_)
  refine hK1 _ _ (W_keep (Keep.cons 0 rfl (Keep.cons 1 rfl Keep.nil)) ?_)
  refine W_seq_k fun K2 hK2 => ?_
  refine W_reg rfl ?_
  refine RL_some ?_; (refine X_move rfl ?_)
  refine RL_some ?_; (refine X_move rfl ?_)
  refine RL_some ?_; (refine X_call T.ent31 rfl ?_; refine calls_to (own_nil ns) ?_; rintro v w' ⟨rfl, rfl⟩)
  refine RL_some ?_; (refine X_len T.sl70 rfl ?_)
  refine RL_some ?_; (refine X_assign rfl ?_)
  refine hK2 _ _ (W_keep (Keep.cons 4 rfl Keep.nil) ?_)
  refine W_ret ?_
  (try simp only [thenQ, blockQ, noGotoQ])
  refine body_tmp (.inr rfl) rfl rfl ?_
  exact ⟨rfl, rfl⟩

theorem Size_spec (m : PMx) (ns : Int) {w0 w : World} {L : List Asn} (H : St w0 w (m.at_ ++ L)) :
    Calls Try.prog 23 #[pt m.p 0, i64 ns] w (After fun v w' => v = i64 (sizeOf_ m ns) ∧ w' = w) := by
  obtain ⟨ad, had⟩ := own_len H ns
  refine calls_of_W (N := 9) (args := [pt m.p 0, i64 ns]) Try.func23 rfl Try.ntmps23 (by simp) ?_
  refine W_seq_k fun K1 hK1 => ?_
  refine W_reg rfl ?_
  refine RL_some ?_; (refine X_assign rfl ?_)
  refine hK1 _ _ (W_keep (Keep.cons 0 rfl (Keep.cons 1 rfl Keep.nil)) ?_)
  refine W_seq_k fun K2 hK2 => ?_
  refine W_reg rfl ?_
  refine RL_some ?_; (refine X_move rfl ?_)
  refine RL_some ?_; (refine X_move rfl ?_)
  refine RL_some ?_; (refine X_call T.ent31 rfl ?_; refine calls_to (own_spec m ns H) ?_; rintro v w' ⟨rfl, rfl⟩; rw [had])
  refine RL_some ?_; (refine X_len T.sl70 rfl ?_)
  refine RL_some ?_; (refine X_assign rfl ?_)
  refine hK2 _ _ (W_keep (Keep.cons 4 rfl Keep.nil) ?_)
  refine W_ret ?_
  (try simp only [thenQ, blockQ, noGotoQ])
  refine body_tmp (.inr rfl) rfl rfl ?_
  exact ⟨rfl, rfl⟩

/-- a new map -/
def newM (p r : Nat) : PMx := ⟨p, r, fun _ => none, fun _ => [], [], 0⟩

theorem New_spec {w0 w : World} {L : List Asn} (H : St w0 w L) :
    Calls Try.prog 12 #[] w (After fun v w' => ∃ p r, v = pt p 0 ∧ St w0 w' ((newM p r).at_ ++ L)) := by
  refine calls_of_W (N := 4) (args := []) Try.func12 rfl Try.ntmps12 (by simp) ?_
  refine W_seq_k fun K1 hK1 => ?_
  refine W_reg rfl ?_
  refine RL_some ?_; (refine X_assign rfl ?_)
  refine hK1 _ _ (W_keep Keep.nil ?_)
  refine W_seq_k fun K2 hK2 => ?_
  refine W_reg rfl ?_
  refine RL_some ?_; (refine S_makeMap H pk ?_; intro r w H)
  refine RL_some ?_; (refine X_build (cells := #[.slice none 0 0, .slice none 0 0, .slice none 0 0, .slice none 0 0, .map (some r)]) T.sh73 T.ze73 rfl rfl ?_)
  refine RL_some ?_; (refine S_box H rfl ?_; intro p w H)
  refine RL_some ?_; (refine X_assign rfl ?_)
  refine hK2 _ _ (W_keep (Keep.cons 0 rfl Keep.nil) ?_)
  refine W_ret ?_
  (try simp only [thenQ, blockQ, noGotoQ])
  refine body_tmp (.inr rfl) rfl rfl ?_
  refine ⟨p, r, rfl, ?_⟩
  have e : ∀ L : List Asn, St w0 w L → St w0 w (CRow none [] :: L) := fun L H => St.mkPu rfl H.emp
  have H2 := e _ (e _ (e _ (e _ H)))
  exact H2.perm (by
    show List.Perm (CRow none [] :: CRow none [] :: CRow none [] :: CRow none [] :: Cs p _ _ :: Gm pk r [] 0 :: L) (Cs p _ _ :: Gm pk r [] 0 :: CRow none [] :: CRow none [] :: CRow none [] :: CRow none [] :: L)
    exact (List.perm_append_comm (l₁ := [CRow none [], CRow none [], CRow none [], CRow none []]) (l₂ := [Cs p _ _, Gm pk r [] 0])).append_right L)

theorem Refs_nil (a : Pl) {w0 w : World} {L : List Asn} (H : St w0 w L) :
    Calls Try.prog 18 #[.pointer none, pk a] w (After fun v w' => v = i64 0 ∧ St w0 w' L) := by
  refine calls_of_W (N := 13) (args := [.pointer none, pk a]) Try.func18 rfl Try.ntmps18 (by simp) ?_
  refine W_seq_k fun K1 hK1 => ?_
  refine W_reg rfl ?_
  refine RL_some ?_; (refine S_box H rfl ?_; intro b3 w H)
  refine RL_some ?_; (refine X_assign rfl ?_)
  refine hK1 _ _ (W_keep (Keep.cons 0 rfl (Keep.cons 3 rfl Keep.nil)) ?_)
  refine W_seq_k fun K2 hK2 => ?_
  refine W_seq_k fun K3 hK3 => ?_
  refine W_reg rfl ?_
  refine RL_some ?_; (refine X_move rfl ?_)
  refine RL_some ?_; (first | refine X_isnil T.pt37 rfl rfl ?_ | refine X_isnil' T.pt37 rfl rfl ?_)
  refine hK3 _ _ (W_keep (Keep.cons 0 rfl (Keep.cons 3 rfl (Keep.cons 6 rfl Keep.nil))) ?_)
  refine W_true rfl ?_
  refine W_seq_k fun K4 hK4 => ?_
  refine W_reg rfl ?_
  refine RL_some ?_; (refine X_assign rfl ?_)
  refine hK4 _ _ (W_keep (Keep.cons 4 rfl Keep.nil) ?_)
  refine W_ret ?_
  (try simp only [thenQ, blockQ, noGotoQ])
  refine body_tmp (.inr rfl) rfl rfl ?_
  exact ⟨rfl, H.drop⟩
theorem Refs_spec (m : PMx) (a : Pl) {w0 w : World} {L : List Asn} (H : St w0 w (m.at_ ++ L)) :
    Calls Try.prog 18 #[pt m.p 0, pk a] w (After fun v w' => v = i64 (valE m.E a) ∧ St w0 w' (m.at_ ++ L)) := by
  refine calls_of_W (N := 13) (args := [pt m.p 0, pk a]) Try.func18 rfl Try.ntmps18 (by simp) ?_
  refine W_seq_k fun K1 hK1 => ?_
  refine W_reg rfl ?_
  refine RL_some ?_; (refine S_box H rfl ?_; intro b3 w H)
  refine RL_some ?_; (refine X_assign rfl ?_)
  refine hK1 _ _ (W_keep (Keep.cons 0 rfl (Keep.cons 3 rfl Keep.nil)) ?_)
  refine W_seq_k fun K2 hK2 => ?_
  refine W_seq_k fun K3 hK3 => ?_
  refine W_reg rfl ?_
  refine RL_some ?_; (refine X_move rfl ?_)
  refine RL_some ?_; (first | refine X_isnil T.pt37 rfl rfl ?_ | refine X_isnil' T.pt37 rfl rfl ?_)
  refine hK3 _ _ (W_keep (Keep.cons 0 rfl (Keep.cons 3 rfl (Keep.cons 6 rfl Keep.nil))) ?_)
  refine W_false rfl (W_skip (hK2 _ _ ?_))
  refine W_seq_k fun K4 hK4 => ?_
  refine W_draw (.p 0 (.p 1 (.p 2 (.p 3 (.p 4 (.p 5 (.p 6 .nil))))))) T.mixed rfl ?_
  replace H := H.drew
  apply DD_pure rfl rfl; next => (intro _; refine X_move rfl ⟨rfl, rfl⟩)
  apply DD_pure rfl rfl; next => (intro _; first | refine X_nil rfl ⟨rfl, rfl⟩ | refine X_nil_func rfl ⟨rfl, rfl⟩)
  apply DD_pure rfl rfl; next => (intro _; refine X_fieldAddr T.fd73_1 rfl ⟨rfl, rfl⟩)
  apply DD_read rfl rfl; next => (refine S_load1 H 1 T.ty69 rfl rfl (v := .map (some m.r)) rfl ⟨rfl, rfl⟩)
  apply DD_read rfl rfl; next => (refine S_load H 0 T.ty23 rfl rfl (l := a.enc) rfl (Nat.le_of_ble_eq_true rfl) ⟨rfl, rfl⟩)
  apply DD_read rfl rfl; next => (refine S_lookup (a := a) H 2 pl_law T.mp69 T.ze3 rfl rfl rfl ⟨rfl, rfl⟩)
  apply DD_pure rfl rfl; next => (intro _; refine X_assign rfl ⟨rfl, rfl⟩)
  refine hK4 _ _ (W_keep (Keep.cons 4 rfl Keep.nil) ?_)
  refine W_ret ?_
  (try simp only [thenQ, blockQ, noGotoQ])
  refine body_tmp (.inr rfl) rfl rfl ?_
  exact ⟨rfl, H.drop⟩

/-- what Get tells -/
def getV (m : PMx) (ns lba : Int) : Option Spot := if 0 ≤ lba ∧ lba < sizeOf_ m ns then (m.l ns.toNat)[lba.toNat]?.join else none
def spotV (s : Option Spot) : Value := .tuple #[.agg (s.getD noSpot).enc.toArray, .bool s.isSome]

theorem Get_nil (ns lba : Int) {w0 w : World} {L : List Asn} (H : St w0 w L) :
    Calls Try.prog 15 #[.pointer none, i64 ns, i64 lba] w (After fun v w' => v = spotV none ∧ St w0 w' L) := by
  by_cases h : lba < 0
  all_goals
    refine calls_of_W (N := 34) (args := [.pointer none, i64 ns, i64 lba]) Try.func15 rfl Try.ntmps15 (by simp) ?_
    refine W_seq_k fun K1 hK1 => ?_
    refine W_reg rfl ?_
    refine RL_some ?_; (refine S_alloc H T.ze29 ?_; intro b6 w H)
    refine RL_some ?_; (refine X_assign rfl ?_)
    refine hK1 _ _ (W_keep (Keep.cons 0 rfl (Keep.cons 1 rfl (Keep.cons 2 rfl (Keep.cons 6 rfl Keep.nil)))) ?_)
    refine W_seq_k fun K2 hK2 => ?_
    refine W_reg rfl ?_
    refine RL_some ?_; (refine X_move rfl ?_)
    refine RL_some ?_; (refine X_move rfl ?_)
    refine RL_some ?_; (refine X_call T.ent31 rfl ?_; refine calls_to (own_nil ns) ?_; rintro v w' ⟨rfl, rfl⟩)
    refine RL_some ?_; (refine X_assign rfl ?_)
    refine hK2 _ _ (W_keep (Keep.cons 2 rfl (Keep.cons 6 rfl (Keep.cons 8 rfl Keep.nil))) ?_)
    refine W_seq_k fun K3 hK3 => ?_
    refine W_seq_k fun K4 hK4 => ?_
    refine W_reg rfl ?_
    refine RL_some ?_; (refine X_move rfl ?_)
    refine RL_some ?_; (first | refine X_cmp_t rfl rfl rfl (by first | assumption | omega) ?_ | refine X_cmp_f rfl rfl rfl (by first | assumption | omega) ?_ | refine X_bin rfl rfl rfl ?_)
    refine RL_some ?_; (refine X_move rfl ?_)
    (first | refine RL_off rfl rfl ?_ | refine RL_off' rfl rfl ?_ | (refine RL_on rfl rfl ?_; (refine X_move rfl ?_)))
    (first | refine RL_off rfl rfl ?_ | refine RL_off' rfl rfl ?_ | (refine RL_on rfl rfl ?_; (refine X_move rfl ?_)))
    (first | refine RL_off rfl rfl ?_ | refine RL_off' rfl rfl ?_ | (refine RL_on rfl rfl ?_; (refine X_len T.sl70 rfl ?_)))
    (first | refine RL_off rfl rfl ?_ | refine RL_off' rfl rfl ?_ | (refine RL_on rfl rfl ?_; (first | refine X_cmp_t rfl rfl rfl (by first | assumption | omega) ?_ | refine X_cmp_f rfl rfl rfl (by first | assumption | omega) ?_ | refine X_bin rfl rfl rfl ?_)))
    refine RL_some ?_; (refine X_pick rfl rfl ?_)
    refine RL_some ?_; (refine X_move rfl ?_)
    (first | refine RL_off rfl rfl ?_ | refine RL_off' rfl rfl ?_ | (refine RL_on rfl rfl ?_; (refine X_move rfl ?_)))
    (first | refine RL_off rfl rfl ?_ | refine RL_off' rfl rfl ?_ | (refine RL_on rfl rfl ?_; (refine X_move rfl ?_)))
    (first | refine RL_off rfl rfl ?_ | refine RL_off' rfl rfl ?_ | (refine RL_on rfl rfl ?_; (refine X_idx T.sl70 rfl rfl (by omega) (by omega) ?_)))
    (first | refine RL_off rfl rfl ?_ | refine RL_off' rfl rfl ?_ | (refine RL_on rfl rfl ?_; (refine X_fieldAddr T.fd76_0 rfl ?_)))
    (first | refine RL_off rfl rfl ?_ | refine RL_off' rfl rfl ?_ | (refine RL_on rfl rfl ?_; ((first | refine S_load1 H 0 T.ty4 rfl rfl rfl ?_ | refine S_load1 H 1 T.ty4 rfl rfl rfl ?_ | refine S_load1 H 2 T.ty4 rfl rfl rfl ?_ | refine S_load1 H 3 T.ty4 rfl rfl rfl ?_ | refine S_load1 H 4 T.ty4 rfl rfl rfl ?_ | refine S_load1 H 5 T.ty4 rfl rfl rfl ?_ | refine S_load1 H 6 T.ty4 rfl rfl rfl ?_ | refine S_load1 H 7 T.ty4 rfl rfl rfl ?_ | refine S_load1 H 8 T.ty4 rfl rfl rfl ?_ | refine S_load1 H 9 T.ty4 rfl rfl rfl ?_))))
    (first | refine RL_off rfl rfl ?_ | refine RL_off' rfl rfl ?_ | (refine RL_on rfl rfl ?_; (refine X_not rfl ?_)))
    refine RL_some ?_; (refine X_pick rfl rfl ?_)
    refine hK4 _ _ (W_keep (Keep.cons 2 rfl (Keep.cons 6 rfl (Keep.cons 8 rfl (Keep.cons 27 rfl Keep.nil)))) ?_)
    refine W_true rfl ?_
    refine W_seq_k fun K5 hK5 => ?_
    refine W_reg rfl ?_
    refine RL_some ?_; (refine X_build (cells := noSpot.enc.toArray) T.sh29 T.ze29 rfl rfl ?_)
    refine RL_none ?_; (refine S_store H 0 T.ty29 rfl rfl rfl rfl (Nat.le_of_ble_eq_true rfl) rfl (c' := noSpot.enc.toArray) rfl ?_; intro w H)
    refine RL_some ?_; (refine X_assign rfl ?_)
    refine hK5 _ _ (W_keep (Keep.cons 6 rfl (Keep.cons 7 rfl Keep.nil)) ?_)
    refine W_ret ?_
    (try simp only [thenQ, blockQ, noGotoQ])
    exact body_list (.inr rfl) rfl (.cell rfl (loadV_agg H 0 T.ty29 rfl (l := noSpot.enc) rfl (Nat.le_of_ble_eq_true rfl)) (.tmp rfl .nil)) (by simp) ⟨rfl, H.drop⟩
end Go.Proofs.Ytinngnckojbpnaa
