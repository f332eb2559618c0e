import Derived.Test.YtinngnckojbpnaaPm2
/-! pagemap: Get, Add. -/
namespace Go.Proofs.Ytinngnckojbpnaa
open Go.Nep
set_option maxRecDepth 100000
set_option linter.unusedVariables false
set_option linter.unusedSimpArgs false

/-- a namespace that has sectors has a block -/
theorem row_some {m : PMx} {w0 w : World} {L : List Asn} (H : St w0 w (m.at_ ++ L)) {k : Nat} (hk : k < 4) (h : 0 < (m.l k).length) :
    ∃ b, m.bo k = some b ∧ (m.at_ ++ L)[2 + k]? = some (Cs b ((m.l k).flatMap encC).toArray 76) := by
  cases hb : m.bo k with
  | none => rw [row_none H k hk hb] at h; simp at h
  | some b => exact ⟨b, rfl, by rw [at_get m k hk L, hb]; rfl⟩

theorem Get_spec (m : PMx) (ns lba : Int) {w0 w : World} {L : List Asn} (H : St w0 w (m.at_ ++ L)) :
    Calls Try.prog 15 #[pt m.p 0, i64 ns, i64 lba] w (After fun v w' => v = spotV (getV m ns lba) ∧ St w0 w' (m.at_ ++ L)) := by
  obtain ⟨ad, had⟩ := own_len H ns
  have hsz : (if 0 ≤ ns ∧ ns < 4 then (m.l ns.toNat).length else 0) = sizeOf_ m ns := rfl
  rw [hsz] at had
  by_cases h : 0 ≤ lba ∧ lba < sizeOf_ m ns
  · obtain ⟨h0, h1⟩ := h
    have hns : 0 ≤ ns ∧ ns < 4 := by
      unfold sizeOf_ at h1
      split at h1
      · assumption
      · omega
    have hsz2 : sizeOf_ m ns = (m.l ns.toNat).length := by unfold sizeOf_; rw [if_pos hns]
    obtain ⟨b, hbo, hrow⟩ := row_some H (k := ns.toNat) (by omega) (by omega)
    have hown : ownV m ns = sl b 0 (sizeOf_ m ns) (sizeOf_ m ns) := by unfold ownV; rw [if_pos hns, hbo, hsz2]; rfl
    obtain ⟨c, hc⟩ : ∃ c, (m.l ns.toNat)[lba.toNat]? = some c := ⟨_, List.getElem?_eq_getElem (by omega)⟩
    have hget : getV m ns lba = c := by unfold getV; rw [if_pos ⟨h0, h1⟩, hc]; rfl
    rw [hget]
    clear hget had hsz
    cases c with
    | none =>
      have hcell := flat_get encC encC_len (m.l ns.toNat) lba.toNat 0 hc (by omega)
      refine calls_of_W (N := 34) (args := [pt m.p 0, i64 ns, i64 lba]) Try.func15 rfl Try.ntmps15 (by simp) ?_
      refine W_seq_k fun K1 hK1 => ?_
      refine W_reg rfl ?_
      refine RL_some ?_; (refine S_alloc H T.ze29 ?_; intro b6 w H)
      refine RL_some ?_; (refine X_assign rfl ?_)
      refine hK1 _ _ (W_keep (Keep.cons 0 rfl (Keep.cons 1 rfl (Keep.cons 2 rfl (Keep.cons 6 rfl Keep.nil)))) ?_)
      refine W_seq_k fun K2 hK2 => ?_
      refine W_reg rfl ?_
      refine RL_some ?_; (refine X_move rfl ?_)
      refine RL_some ?_; (refine X_move rfl ?_)
      refine RL_some ?_; (refine X_call T.ent31 rfl ?_; refine calls_to (own_spec m ns (H.drop)) ?_; rintro v w' ⟨rfl, rfl⟩; rw [hown])
      refine RL_some ?_; (refine X_assign rfl ?_)
      refine hK2 _ _ (W_keep (Keep.cons 2 rfl (Keep.cons 6 rfl (Keep.cons 8 rfl Keep.nil))) ?_)
      refine W_seq_k fun K3 hK3 => ?_
      refine W_seq_k fun K4 hK4 => ?_
      refine W_reg rfl ?_
      refine RL_some ?_; (refine X_move rfl ?_)
      refine RL_some ?_; (first | refine X_cmp_t rfl rfl rfl (by first | assumption | omega) ?_ | refine X_cmp_f rfl rfl rfl (by first | assumption | omega) ?_ | refine X_bin rfl rfl rfl ?_)
      refine RL_some ?_; (refine X_move rfl ?_)
      (first | refine RL_off rfl rfl ?_ | refine RL_off' rfl rfl ?_ | (refine RL_on rfl rfl ?_; (refine X_move rfl ?_)))
      (first | refine RL_off rfl rfl ?_ | refine RL_off' rfl rfl ?_ | (refine RL_on rfl rfl ?_; (refine X_move rfl ?_)))
      (first | refine RL_off rfl rfl ?_ | refine RL_off' rfl rfl ?_ | (refine RL_on rfl rfl ?_; (refine X_len T.sl70 rfl ?_)))
      (first | refine RL_off rfl rfl ?_ | refine RL_off' rfl rfl ?_ | (refine RL_on rfl rfl ?_; (first | refine X_cmp_t rfl rfl rfl (by first | assumption | omega) ?_ | refine X_cmp_f rfl rfl rfl (by first | assumption | omega) ?_ | refine X_bin rfl rfl rfl ?_)))
      refine RL_some ?_; (refine X_pick rfl rfl ?_)
      refine RL_some ?_; (refine X_move rfl ?_)
      (first | refine RL_off rfl rfl ?_ | refine RL_off' rfl rfl ?_ | (refine RL_on rfl rfl ?_; (refine X_move rfl ?_)))
      (first | refine RL_off rfl rfl ?_ | refine RL_off' rfl rfl ?_ | (refine RL_on rfl rfl ?_; (refine X_move rfl ?_)))
      (first | refine RL_off rfl rfl ?_ | refine RL_off' rfl rfl ?_ | (refine RL_on rfl rfl ?_; (refine X_idx T.sl70 rfl rfl (by omega) (by omega) ?_)))
      (first | refine RL_off rfl rfl ?_ | refine RL_off' rfl rfl ?_ | (refine RL_on rfl rfl ?_; (refine X_fieldAddr T.fd76_0 rfl ?_)))
      (first | refine RL_off rfl rfl ?_ | refine RL_off' rfl rfl ?_ | (refine RL_on rfl rfl ?_; (refine S_load1 H (2 + ns.toNat + 1) T.ty4 rfl hrow (by simpa [encC] using hcell) ?_)))
      (first | refine RL_off rfl rfl ?_ | refine RL_off' rfl rfl ?_ | (refine RL_on rfl rfl ?_; (refine X_not rfl ?_)))
      refine RL_some ?_; (refine X_pick rfl rfl ?_)
      refine hK4 _ _ (W_keep (Keep.cons 2 rfl (Keep.cons 6 rfl (Keep.cons 8 rfl (Keep.cons 27 rfl Keep.nil)))) ?_)
      refine W_true rfl ?_
      refine W_seq_k fun K5 hK5 => ?_
      refine W_reg rfl ?_
      refine RL_some ?_; (refine X_build (cells := noSpot.enc.toArray) T.sh29 T.ze29 rfl rfl ?_)
      refine RL_none ?_; (refine S_store H 0 T.ty29 rfl rfl rfl rfl (Nat.le_of_ble_eq_true rfl) rfl (c' := noSpot.enc.toArray) rfl ?_; intro w H)
      refine RL_some ?_; (refine X_assign rfl ?_)
      refine hK5 _ _ (W_keep (Keep.cons 6 rfl (Keep.cons 7 rfl Keep.nil)) ?_)
      refine W_ret ?_
      (try simp only [thenQ, blockQ, noGotoQ])
      exact body_list (.inr rfl) rfl (.cell rfl (loadV_agg H 0 T.ty29 rfl (l := noSpot.enc) rfl (Nat.le_of_ble_eq_true rfl)) (.tmp rfl .nil)) (by simp) ⟨rfl, H.drop⟩
    | some s =>
      have hcell := flat_get encC encC_len (m.l ns.toNat) lba.toNat 0 hc (by omega)
      have hseg : ((List.flatMap encC (m.l ns.toNat)).drop (lba.toNat * 15 + 1)).take 14 = s.enc := flat_sub encC encC_len (m.l ns.toNat) lba.toNat 1 14 hc (by omega)
      refine calls_of_W (N := 34) (args := [pt m.p 0, i64 ns, i64 lba]) Try.func15 rfl Try.ntmps15 (by simp) ?_
      refine W_seq_k fun K1 hK1 => ?_
      refine W_reg rfl ?_
      refine RL_some ?_; (refine S_alloc H T.ze29 ?_; intro b6 w H)
      refine RL_some ?_; (refine X_assign rfl ?_)
      refine hK1 _ _ (W_keep (Keep.cons 0 rfl (Keep.cons 1 rfl (Keep.cons 2 rfl (Keep.cons 6 rfl Keep.nil)))) ?_)
      refine W_seq_k fun K2 hK2 => ?_
      refine W_reg rfl ?_
      refine RL_some ?_; (refine X_move rfl ?_)
      refine RL_some ?_; (refine X_move rfl ?_)
      refine RL_some ?_; (refine X_call T.ent31 rfl ?_; refine calls_to (own_spec m ns (H.drop)) ?_; rintro v w' ⟨rfl, rfl⟩; rw [hown])
      refine RL_some ?_; (refine X_assign rfl ?_)
      refine hK2 _ _ (W_keep (Keep.cons 2 rfl (Keep.cons 6 rfl (Keep.cons 8 rfl Keep.nil))) ?_)
      refine W_seq_k fun K3 hK3 => ?_
      refine W_seq_k fun K4 hK4 => ?_
      refine W_reg rfl ?_
      refine RL_some ?_; (refine X_move rfl ?_)
      refine RL_some ?_; (first | refine X_cmp_t rfl rfl rfl (by first | assumption | omega) ?_ | refine X_cmp_f rfl rfl rfl (by first | assumption | omega) ?_ | refine X_bin rfl rfl rfl ?_)
      refine RL_some ?_; (refine X_move rfl ?_)
      (first | refine RL_off rfl rfl ?_ | refine RL_off' rfl rfl ?_ | (refine RL_on rfl rfl ?_; (refine X_move rfl ?_)))
      (first | refine RL_off rfl rfl ?_ | refine RL_off' rfl rfl ?_ | (refine RL_on rfl rfl ?_; (refine X_move rfl ?_)))
      (first | refine RL_off rfl rfl ?_ | refine RL_off' rfl rfl ?_ | (refine RL_on rfl rfl ?_; (refine X_len T.sl70 rfl ?_)))
      (first | refine RL_off rfl rfl ?_ | refine RL_off' rfl rfl ?_ | (refine RL_on rfl rfl ?_; (first | refine X_cmp_t rfl rfl rfl (by first | assumption | omega) ?_ | refine X_cmp_f rfl rfl rfl (by first | assumption | omega) ?_ | refine X_bin rfl rfl rfl ?_)))
      refine RL_some ?_; (refine X_pick rfl rfl ?_)
      refine RL_some ?_; (refine X_move rfl ?_)
      (first | refine RL_off rfl rfl ?_ | refine RL_off' rfl rfl ?_ | (refine RL_on rfl rfl ?_; (refine X_move rfl ?_)))
      (first | refine RL_off rfl rfl ?_ | refine RL_off' rfl rfl ?_ | (refine RL_on rfl rfl ?_; (refine X_move rfl ?_)))
      (first | refine RL_off rfl rfl ?_ | refine RL_off' rfl rfl ?_ | (refine RL_on rfl rfl ?_; (refine X_idx T.sl70 rfl rfl (by omega) (by omega) ?_)))
      (first | refine RL_off rfl rfl ?_ | refine RL_off' rfl rfl ?_ | (refine RL_on rfl rfl ?_; (refine X_fieldAddr T.fd76_0 rfl ?_)))
      (first | refine RL_off rfl rfl ?_ | refine RL_off' rfl rfl ?_ | (refine RL_on rfl rfl ?_; (refine S_load1 H (2 + ns.toNat + 1) T.ty4 rfl hrow (by simpa [encC] using hcell) ?_)))
      (first | refine RL_off rfl rfl ?_ | refine RL_off' rfl rfl ?_ | (refine RL_on rfl rfl ?_; (refine X_not rfl ?_)))
      refine RL_some ?_; (refine X_pick rfl rfl ?_)
      refine hK4 _ _ (W_keep (Keep.cons 2 rfl (Keep.cons 6 rfl (Keep.cons 8 rfl (Keep.cons 27 rfl Keep.nil)))) ?_)
      refine W_false rfl (W_skip (hK3 _ _ ?_))
      refine W_seq_k fun K5 hK5 => ?_
      refine W_reg rfl ?_
      refine RL_some ?_; (refine X_move rfl ?_)
      refine RL_some ?_; (refine X_move rfl ?_)
      refine RL_some ?_; (refine X_idx T.sl70 rfl rfl (by omega) (by omega) ?_)
      refine RL_some ?_; (refine X_fieldAddr T.fd76_1 rfl ?_)
      refine RL_some ?_; (refine S_load H (2 + ns.toNat + 1) T.ty29 rfl hrow (l := s.enc) (by simpa using hseg) (by rw [List.size_toArray, flat_len encC encC_len]; omega) ?_)
      refine RL_none ?_; (refine S_store H 0 T.ty29 rfl rfl rfl rfl (Nat.le_of_ble_eq_true rfl) rfl (c' := s.enc.toArray) rfl ?_; intro w H)
      refine RL_some ?_; (refine X_assign rfl ?_)
      refine hK5 _ _ (W_keep (Keep.cons 6 rfl (Keep.cons 7 rfl Keep.nil)) ?_)
      refine W_ret ?_
      (try simp only [thenQ, blockQ, noGotoQ])
      exact body_list (.inr rfl) rfl (.cell rfl (loadV_agg H 0 T.ty29 rfl (l := s.enc) rfl (Nat.le_of_ble_eq_true rfl)) (.tmp rfl .nil)) (by simp) ⟨rfl, H.drop⟩
  · have hget : getV m ns lba = none := by unfold getV; rw [if_neg h]
    rw [hget]
    have h' : lba < 0 ∨ (0 ≤ lba ∧ (sizeOf_ m ns : Int) ≤ lba) := by omega
    rcases h' with h' | ⟨h', h2⟩
    all_goals
      refine calls_of_W (N := 34) (args := [pt m.p 0, i64 ns, i64 lba]) Try.func15 rfl Try.ntmps15 (by simp) ?_
      refine W_seq_k fun K1 hK1 => ?_
      refine W_reg rfl ?_
      refine RL_some ?_; (refine S_alloc H T.ze29 ?_; intro b6 w H)
      refine RL_some ?_; (refine X_assign rfl ?_)
      refine hK1 _ _ (W_keep (Keep.cons 0 rfl (Keep.cons 1 rfl (Keep.cons 2 rfl (Keep.cons 6 rfl Keep.nil)))) ?_)
      refine W_seq_k fun K2 hK2 => ?_
      refine W_reg rfl ?_
      refine RL_some ?_; (refine X_move rfl ?_)
      refine RL_some ?_; (refine X_move rfl ?_)
      refine RL_some ?_; (refine X_call T.ent31 rfl ?_; refine calls_to (own_spec m ns (H.drop)) ?_; rintro v w' ⟨rfl, rfl⟩; rw [had])
      refine RL_some ?_; (refine X_assign rfl ?_)
      refine hK2 _ _ (W_keep (Keep.cons 2 rfl (Keep.cons 6 rfl (Keep.cons 8 rfl Keep.nil))) ?_)
      refine W_seq_k fun K3 hK3 => ?_
      refine W_seq_k fun K4 hK4 => ?_
      refine W_reg rfl ?_
      refine RL_some ?_; (refine X_move rfl ?_)
      refine RL_some ?_; (first | refine X_cmp_t rfl rfl rfl (by first | assumption | omega) ?_ | refine X_cmp_f rfl rfl rfl (by first | assumption | omega) ?_ | refine X_bin rfl rfl rfl ?_)
      refine RL_some ?_; (refine X_move rfl ?_)
      (first | refine RL_off rfl rfl ?_ | refine RL_off' rfl rfl ?_ | (refine RL_on rfl rfl ?_; (refine X_move rfl ?_)))
      (first | refine RL_off rfl rfl ?_ | refine RL_off' rfl rfl ?_ | (refine RL_on rfl rfl ?_; (refine X_move rfl ?_)))
      (first | refine RL_off rfl rfl ?_ | refine RL_off' rfl rfl ?_ | (refine RL_on rfl rfl ?_; (refine X_len T.sl70 rfl ?_)))
      (first | refine RL_off rfl rfl ?_ | refine RL_off' rfl rfl ?_ | (refine RL_on rfl rfl ?_; (first | refine X_cmp_t rfl rfl rfl (by first | assumption | omega) ?_ | refine X_cmp_f rfl rfl rfl (by first | assumption | omega) ?_ | refine X_bin rfl rfl rfl ?_)))
      refine RL_some ?_; (refine X_pick rfl rfl ?_)
      refine RL_some ?_; (refine X_move rfl ?_)
      (first | refine RL_off rfl rfl ?_ | refine RL_off' rfl rfl ?_ | (refine RL_on rfl rfl ?_; (refine X_move rfl ?_)))
      (first | refine RL_off rfl rfl ?_ | refine RL_off' rfl rfl ?_ | (refine RL_on rfl rfl ?_; (refine X_move rfl ?_)))
      (first | refine RL_off rfl rfl ?_ | refine RL_off' rfl rfl ?_ | (refine RL_on rfl rfl ?_; (refine X_idx T.sl70 rfl rfl (by omega) (by omega) ?_)))
      (first | refine RL_off rfl rfl ?_ | refine RL_off' rfl rfl ?_ | (refine RL_on rfl rfl ?_; (refine X_fieldAddr T.fd76_0 rfl ?_)))
      (first | refine RL_off rfl rfl ?_ | refine RL_off' rfl rfl ?_ | (refine RL_on rfl rfl ?_; ((first | refine S_load1 H 0 T.ty4 rfl rfl rfl ?_ | refine S_load1 H 1 T.ty4 rfl rfl rfl ?_ | refine S_load1 H 2 T.ty4 rfl rfl rfl ?_ | refine S_load1 H 3 T.ty4 rfl rfl rfl ?_ | refine S_load1 H 4 T.ty4 rfl rfl rfl ?_ | refine S_load1 H 5 T.ty4 rfl rfl rfl ?_ | refine S_load1 H 6 T.ty4 rfl rfl rfl ?_ | refine S_load1 H 7 T.ty4 rfl rfl rfl ?_ | refine S_load1 H 8 T.ty4 rfl rfl rfl ?_ | refine S_load1 H 9 T.ty4 rfl rfl rfl ?_))))
      (first | refine RL_off rfl rfl ?_ | refine RL_off' rfl rfl ?_ | (refine RL_on rfl rfl ?_; (refine X_not rfl ?_)))
      refine RL_some ?_; (refine X_pick rfl rfl ?_)
      refine hK4 _ _ (W_keep (Keep.cons 2 rfl (Keep.cons 6 rfl (Keep.cons 8 rfl (Keep.cons 27 rfl Keep.nil)))) ?_)
      refine W_true rfl ?_
      refine W_seq_k fun K5 hK5 => ?_
      refine W_reg rfl ?_
      refine RL_some ?_; (refine X_build (cells := noSpot.enc.toArray) T.sh29 T.ze29 rfl rfl ?_)
      refine RL_none ?_; (refine S_store H 0 T.ty29 rfl rfl rfl rfl (Nat.le_of_ble_eq_true rfl) rfl (c' := noSpot.enc.toArray) rfl ?_; intro w H)
      refine RL_some ?_; (refine X_assign rfl ?_)
      refine hK5 _ _ (W_keep (Keep.cons 6 rfl (Keep.cons 7 rfl Keep.nil)) ?_)
      refine W_ret ?_
      (try simp only [thenQ, blockQ, noGotoQ])
      exact body_list (.inr rfl) rfl (.cell rfl (loadV_agg H 0 T.ty29 rfl (l := noSpot.enc) rfl (Nat.le_of_ble_eq_true rfl)) (.tmp rfl .nil)) (by simp) ⟨rfl, H.drop⟩

/-- what Add tells -/
def addE (m : PMx) (ns size : Int) : Int := if ns < 0 ∨ 4 ≤ ns ∨ size < 1 ∨ 65535 < size then 2 else if 0 < (m.l ns.toNat).length then 11 else 0
/-- a namespace more -/
def PMx.grown (m : PMx) (k b n : Nat) : PMx := { m with bo := fun j => if j = k then some b else m.bo j, l := fun j => if j = k then List.replicate n none else m.l j }

theorem zrow_cells (n : Nat) : zrow (encC none).toArray (n * 15) = ((List.replicate n none).flatMap encC).toArray := by
  apply Array.ext'
  simp only [zrow, Array.toList_map, Array.toList_range]
  induction n with
  | zero => rfl
  | succ n ih =>
    rw [show (n + 1) * 15 = n * 15 + 15 by omega, List.range_add, List.map_append, List.replicate_succ', List.flatMap_append]
    congr 1
    simp only [List.map_map]
    have : ∀ j, (fun i => (encC none).toArray[i % (encC none).toArray.size]!) (n * 15 + j) = (encC none).toArray[j % 15]! := by
      intro j
      show (encC none).toArray[(n * 15 + j) % 15]! = _
      congr 1
      omega
    rw [show (fun i => (encC none).toArray[i % (encC none).toArray.size]!) ∘ (fun x => n * 15 + x) = fun j => (encC none).toArray[j % 15]! from funext this]
    rfl

theorem grown_at (m : PMx) (k b n : Nat) (hk : k < 4) (L : List Asn) :
    (((m.at_ ++ L).set 0 (Cs m.p (m.grown k b n).vs 73)).set (2 + k) (Cs b ((List.replicate n none).flatMap encC).toArray 76)) = (m.grown k b n).at_ ++ L := by
  obtain rfl | rfl | rfl | rfl : k = 0 ∨ k = 1 ∨ k = 2 ∨ k = 3 := by omega
  all_goals rfl

theorem vs_splice (m : PMx) (k b n : Nat) (hk : k < 4) : splice m.vs k [sl b 0 n n] = (m.grown k b n).vs := by
  obtain rfl | rfl | rfl | rfl : k = 0 ∨ k = 1 ∨ k = 2 ∨ k = 3 := by omega
  all_goals
    simp [splice, PMx.vs, PMx.grown, slv]

theorem Add_nil (ns size : Int) {w : World} : Calls Try.prog 13 #[.pointer none, i64 ns, i64 size] w (After fun v w' => v = i64 2 ∧ w' = w) := by
  refine calls_of_W (N := 49) (args := [.pointer none, i64 ns, i64 size]) Try.func13 rfl Try.ntmps13 (by simp) ?_
  refine W_seq_k fun K1 hK1 => ?_
  refine W_reg rfl ?_
  refine RL_some ?_; (refine X_assign rfl ?_)
  refine hK1 _ _ (W_keep (Keep.cons 0 rfl (Keep.cons 1 rfl (Keep.cons 2 rfl Keep.nil))) ?_)
  refine W_seq_k fun K2 hK2 => ?_
  refine W_seq_k fun K3 hK3 => ?_
  refine W_reg rfl ?_
  refine RL_some ?_; (refine X_move rfl ?_)
  refine RL_some ?_; (first | refine X_isnil T.pt37 rfl rfl ?_ | refine X_isnil' T.pt37 rfl rfl ?_)
  refine RL_some ?_; (refine X_move rfl ?_)
  (first | refine RL_off rfl rfl ?_ | refine RL_off' rfl rfl ?_ | (refine RL_on rfl rfl ?_; (refine X_move rfl ?_)))
  (first | refine RL_off rfl rfl ?_ | refine RL_off' rfl rfl ?_ | (refine RL_on rfl rfl ?_; (first | refine X_cmp_t rfl rfl rfl (by first | assumption | omega) ?_ | refine X_cmp_f rfl rfl rfl (by first | assumption | omega) ?_ | refine X_bin rfl rfl rfl ?_)))
  refine RL_some ?_; (refine X_pick rfl rfl ?_)
  refine RL_some ?_; (refine X_move rfl ?_)
  (first | refine RL_off rfl rfl ?_ | refine RL_off' rfl rfl ?_ | (refine RL_on rfl rfl ?_; (refine X_move rfl ?_)))
  (first | refine RL_off rfl rfl ?_ | refine RL_off' rfl rfl ?_ | (refine RL_on rfl rfl ?_; (first | refine X_cmp_t rfl rfl rfl (by first | assumption | omega) ?_ | refine X_cmp_f rfl rfl rfl (by first | assumption | omega) ?_ | refine X_bin rfl rfl rfl ?_)))
  refine RL_some ?_; (refine X_pick rfl rfl ?_)
  refine RL_some ?_; (refine X_move rfl ?_)
  (first | refine RL_off rfl rfl ?_ | refine RL_off' rfl rfl ?_ | (refine RL_on rfl rfl ?_; (refine X_move rfl ?_)))
  (first | refine RL_off rfl rfl ?_ | refine RL_off' rfl rfl ?_ | (refine RL_on rfl rfl ?_; (first | refine X_cmp_t rfl rfl rfl (by first | assumption | omega) ?_ | refine X_cmp_f rfl rfl rfl (by first | assumption | omega) ?_ | refine X_bin rfl rfl rfl ?_)))
  refine RL_some ?_; (refine X_pick rfl rfl ?_)
  refine RL_some ?_; (refine X_move rfl ?_)
  (first | refine RL_off rfl rfl ?_ | refine RL_off' rfl rfl ?_ | (refine RL_on rfl rfl ?_; (refine X_move rfl ?_)))
  (first | refine RL_off rfl rfl ?_ | refine RL_off' rfl rfl ?_ | (refine RL_on rfl rfl ?_; (first | refine X_cmp_t rfl rfl rfl (by first | assumption | omega) ?_ | refine X_cmp_f rfl rfl rfl (by first | assumption | omega) ?_ | refine X_bin rfl rfl rfl ?_)))
  refine RL_some ?_; (refine X_pick rfl rfl ?_)
  refine hK3 _ _ (W_keep (Keep.cons 0 rfl (Keep.cons 1 rfl (Keep.cons 2 rfl (Keep.cons 24 rfl Keep.nil)))) ?_)
  refine W_true rfl ?_
  refine W_seq_k fun K4 hK4 => ?_
  refine W_reg rfl ?_
  refine RL_some ?_; (refine X_assign rfl ?_)
  refine hK4 _ _ (W_keep (Keep.cons 6 rfl Keep.nil) ?_)
  refine W_ret ?_
  (try simp only [thenQ, blockQ, noGotoQ])
  refine body_tmp (.inr rfl) rfl rfl ?_
  exact ⟨rfl, rfl⟩

theorem Add_spec (m : PMx) (ns size : Int) {w0 w : World} {L : List Asn} (H : St w0 w (m.at_ ++ L)) :
    Calls Try.prog 13 #[pt m.p 0, i64 ns, i64 size] w (After fun v w' => v = i64 (addE m ns size) ∧
      (addE m ns size ≠ 0 → w' = w) ∧ (addE m ns size = 0 → ∃ b, St w0 w' ((m.grown ns.toNat b size.toNat).at_ ++ L))) := by
  by_cases h : ns < 0 ∨ 4 ≤ ns ∨ size < 1 ∨ 65535 < size
  · have he : addE m ns size = 2 := by simp [addE, h]
    rw [he]
    have h' : ns < 0 ∨ (0 ≤ ns ∧ 4 ≤ ns) ∨ (0 ≤ ns ∧ ns < 4 ∧ size < 1) ∨ (0 ≤ ns ∧ ns < 4 ∧ 1 ≤ size ∧ 65535 < size) := by omega
    clear h he
    rcases h' with h' | ⟨h1, h2⟩ | ⟨h1, h2, h3⟩ | ⟨h1, h2, h3, h4⟩
    all_goals
      refine calls_of_W (N := 49) (args := [pt m.p 0, i64 ns, i64 size]) Try.func13 rfl Try.ntmps13 (by simp) ?_
      refine W_seq_k fun K1 hK1 => ?_
      refine W_reg rfl ?_
      refine RL_some ?_; (refine X_assign rfl ?_)
      refine hK1 _ _ (W_keep (Keep.cons 0 rfl (Keep.cons 1 rfl (Keep.cons 2 rfl Keep.nil))) ?_)
      refine W_seq_k fun K2 hK2 => ?_
      refine W_seq_k fun K3 hK3 => ?_
      refine W_reg rfl ?_
      refine RL_some ?_; (refine X_move rfl ?_)
      refine RL_some ?_; (first | refine X_isnil T.pt37 rfl rfl ?_ | refine X_isnil' T.pt37 rfl rfl ?_)
      refine RL_some ?_; (refine X_move rfl ?_)
      (first | refine RL_off rfl rfl ?_ | refine RL_off' rfl rfl ?_ | (refine RL_on rfl rfl ?_; (refine X_move rfl ?_)))
      (first | refine RL_off rfl rfl ?_ | refine RL_off' rfl rfl ?_ | (refine RL_on rfl rfl ?_; (first | refine X_cmp_t rfl rfl rfl (by first | assumption | omega) ?_ | refine X_cmp_f rfl rfl rfl (by first | assumption | omega) ?_ | refine X_bin rfl rfl rfl ?_)))
      refine RL_some ?_; (refine X_pick rfl rfl ?_)
      refine RL_some ?_; (refine X_move rfl ?_)
      (first | refine RL_off rfl rfl ?_ | refine RL_off' rfl rfl ?_ | (refine RL_on rfl rfl ?_; (refine X_move rfl ?_)))
      (first | refine RL_off rfl rfl ?_ | refine RL_off' rfl rfl ?_ | (refine RL_on rfl rfl ?_; (first | refine X_cmp_t rfl rfl rfl (by first | assumption | omega) ?_ | refine X_cmp_f rfl rfl rfl (by first | assumption | omega) ?_ | refine X_bin rfl rfl rfl ?_)))
      refine RL_some ?_; (refine X_pick rfl rfl ?_)
      refine RL_some ?_; (refine X_move rfl ?_)
      (first | refine RL_off rfl rfl ?_ | refine RL_off' rfl rfl ?_ | (refine RL_on rfl rfl ?_; (refine X_move rfl ?_)))
      (first | refine RL_off rfl rfl ?_ | refine RL_off' rfl rfl ?_ | (refine RL_on rfl rfl ?_; (first | refine X_cmp_t rfl rfl rfl (by first | assumption | omega) ?_ | refine X_cmp_f rfl rfl rfl (by first | assumption | omega) ?_ | refine X_bin rfl rfl rfl ?_)))
      refine RL_some ?_; (refine X_pick rfl rfl ?_)
      refine RL_some ?_; (refine X_move rfl ?_)
      (first | refine RL_off rfl rfl ?_ | refine RL_off' rfl rfl ?_ | (refine RL_on rfl rfl ?_; (refine X_move rfl ?_)))
      (first | refine RL_off rfl rfl ?_ | refine RL_off' rfl rfl ?_ | (refine RL_on rfl rfl ?_; (first | refine X_cmp_t rfl rfl rfl (by first | assumption | omega) ?_ | refine X_cmp_f rfl rfl rfl (by first | assumption | omega) ?_ | refine X_bin rfl rfl rfl ?_)))
      refine RL_some ?_; (refine X_pick rfl rfl ?_)
      refine hK3 _ _ (W_keep (Keep.cons 0 rfl (Keep.cons 1 rfl (Keep.cons 2 rfl (Keep.cons 24 rfl Keep.nil)))) ?_)
      refine W_true rfl ?_
      refine W_seq_k fun K4 hK4 => ?_
      refine W_reg rfl ?_
      refine RL_some ?_; (refine X_assign rfl ?_)
      refine hK4 _ _ (W_keep (Keep.cons 6 rfl Keep.nil) ?_)
      refine W_ret ?_
      (try simp only [thenQ, blockQ, noGotoQ])
      refine body_tmp (.inr rfl) rfl rfl ?_
      exact ⟨rfl, fun _ => rfl, fun h => absurd h (by decide)⟩
  · have h0 : 0 ≤ ns := by omega
    have h4 : ns < 4 := by omega
    have h5 : 1 ≤ size := by omega
    have h6 : size ≤ 65535 := by omega
    have hv := vs_get m ns.toNat (by omega)
    obtain ⟨ad, had⟩ := slv_len (m.bo ns.toNat) (m.l ns.toNat).length (fun h => by rw [row_none H _ (by omega) h]; rfl)
    rw [had] at hv
    by_cases hl : 0 < (m.l ns.toNat).length
    · have he : addE m ns size = 11 := by simp [addE, h, hl]
      rw [he]
      clear h he had
      refine calls_of_W (N := 49) (args := [pt m.p 0, i64 ns, i64 size]) Try.func13 rfl Try.ntmps13 (by simp) ?_
      refine W_seq_k fun K1 hK1 => ?_
      refine W_reg rfl ?_
      refine RL_some ?_; (refine X_assign rfl ?_)
      refine hK1 _ _ (W_keep (Keep.cons 0 rfl (Keep.cons 1 rfl (Keep.cons 2 rfl Keep.nil))) ?_)
      refine W_seq_k fun K2 hK2 => ?_
      refine W_seq_k fun K3 hK3 => ?_
      refine W_reg rfl ?_
      refine RL_some ?_; (refine X_move rfl ?_)
      refine RL_some ?_; (first | refine X_isnil T.pt37 rfl rfl ?_ | refine X_isnil' T.pt37 rfl rfl ?_)
      refine RL_some ?_; (refine X_move rfl ?_)
      (first | refine RL_off rfl rfl ?_ | refine RL_off' rfl rfl ?_ | (refine RL_on rfl rfl ?_; (refine X_move rfl ?_)))
      (first | refine RL_off rfl rfl ?_ | refine RL_off' rfl rfl ?_ | (refine RL_on rfl rfl ?_; (first | refine X_cmp_t rfl rfl rfl (by first | assumption | omega) ?_ | refine X_cmp_f rfl rfl rfl (by first | assumption | omega) ?_ | refine X_bin rfl rfl rfl ?_)))
      refine RL_some ?_; (refine X_pick rfl rfl ?_)
      refine RL_some ?_; (refine X_move rfl ?_)
      (first | refine RL_off rfl rfl ?_ | refine RL_off' rfl rfl ?_ | (refine RL_on rfl rfl ?_; (refine X_move rfl ?_)))
      (first | refine RL_off rfl rfl ?_ | refine RL_off' rfl rfl ?_ | (refine RL_on rfl rfl ?_; (first | refine X_cmp_t rfl rfl rfl (by first | assumption | omega) ?_ | refine X_cmp_f rfl rfl rfl (by first | assumption | omega) ?_ | refine X_bin rfl rfl rfl ?_)))
      refine RL_some ?_; (refine X_pick rfl rfl ?_)
      refine RL_some ?_; (refine X_move rfl ?_)
      (first | refine RL_off rfl rfl ?_ | refine RL_off' rfl rfl ?_ | (refine RL_on rfl rfl ?_; (refine X_move rfl ?_)))
      (first | refine RL_off rfl rfl ?_ | refine RL_off' rfl rfl ?_ | (refine RL_on rfl rfl ?_; (first | refine X_cmp_t rfl rfl rfl (by first | assumption | omega) ?_ | refine X_cmp_f rfl rfl rfl (by first | assumption | omega) ?_ | refine X_bin rfl rfl rfl ?_)))
      refine RL_some ?_; (refine X_pick rfl rfl ?_)
      refine RL_some ?_; (refine X_move rfl ?_)
      (first | refine RL_off rfl rfl ?_ | refine RL_off' rfl rfl ?_ | (refine RL_on rfl rfl ?_; (refine X_move rfl ?_)))
      (first | refine RL_off rfl rfl ?_ | refine RL_off' rfl rfl ?_ | (refine RL_on rfl rfl ?_; (first | refine X_cmp_t rfl rfl rfl (by first | assumption | omega) ?_ | refine X_cmp_f rfl rfl rfl (by first | assumption | omega) ?_ | refine X_bin rfl rfl rfl ?_)))
      refine RL_some ?_; (refine X_pick rfl rfl ?_)
      refine hK3 _ _ (W_keep (Keep.cons 0 rfl (Keep.cons 1 rfl (Keep.cons 2 rfl (Keep.cons 24 rfl Keep.nil)))) ?_)
      refine W_false rfl (W_skip (hK2 _ _ ?_))
      refine W_seq_k fun K4 hK4 => ?_
      refine W_seq_k fun K5 hK5 => ?_
      refine W_reg rfl ?_
      refine RL_some ?_; (refine X_move rfl ?_)
      refine RL_some ?_; (refine X_move rfl ?_)
      refine RL_some ?_; (first | refine X_nil rfl ?_ | refine X_nil_func rfl ?_)
      refine RL_some ?_; (refine X_fieldAddr T.fd73_0 rfl ?_)
      refine RL_some ?_; (refine X_idxA T.ar71 rfl rfl (by omega) (by omega) ?_)
      refine RL_some ?_; (refine X_load1 T.ty70 rfl (by rw [cell_of (H.rdC 0 rfl)]; simpa using hv) ?_)
      refine RL_some ?_; (refine X_len T.sl70 rfl ?_)
      refine RL_some ?_; (first | refine X_cmp_t rfl rfl rfl (by first | assumption | omega) ?_ | refine X_cmp_f rfl rfl rfl (by first | assumption | omega) ?_ | refine X_bin rfl rfl rfl ?_)
      refine hK5 _ _ (W_keep (Keep.cons 0 rfl (Keep.cons 1 rfl (Keep.cons 2 rfl (Keep.cons 32 rfl Keep.nil)))) ?_)
      refine W_true rfl ?_
      refine W_seq_k fun K6 hK6 => ?_
      refine W_reg rfl ?_
      refine RL_some ?_; (refine X_assign rfl ?_)
      refine hK6 _ _ (W_keep (Keep.cons 6 rfl Keep.nil) ?_)
      refine W_ret ?_
      (try simp only [thenQ, blockQ, noGotoQ])
      refine body_tmp (.inr rfl) rfl rfl ?_
      exact ⟨rfl, fun _ => rfl, fun h => absurd h (by decide)⟩
    · have he : addE m ns size = 0 := by simp [addE, h, hl]
      rw [he]
      clear h he had
      refine calls_of_W (N := 49) (args := [pt m.p 0, i64 ns, i64 size]) Try.func13 rfl Try.ntmps13 (by simp) ?_
      refine W_seq_k fun K1 hK1 => ?_
      refine W_reg rfl ?_
      refine RL_some ?_; (refine X_assign rfl ?_)
      refine hK1 _ _ (W_keep (Keep.cons 0 rfl (Keep.cons 1 rfl (Keep.cons 2 rfl Keep.nil))) ?_)
      refine W_seq_k fun K2 hK2 => ?_
      refine W_seq_k fun K3 hK3 => ?_
      refine W_reg rfl ?_
      refine RL_some ?_; (refine X_move rfl ?_)
      refine RL_some ?_; (first | refine X_isnil T.pt37 rfl rfl ?_ | refine X_isnil' T.pt37 rfl rfl ?_)
      refine RL_some ?_; (refine X_move rfl ?_)
      (first | refine RL_off rfl rfl ?_ | refine RL_off' rfl rfl ?_ | (refine RL_on rfl rfl ?_; (refine X_move rfl ?_)))
      (first | refine RL_off rfl rfl ?_ | refine RL_off' rfl rfl ?_ | (refine RL_on rfl rfl ?_; (first | refine X_cmp_t rfl rfl rfl (by first | assumption | omega) ?_ | refine X_cmp_f rfl rfl rfl (by first | assumption | omega) ?_ | refine X_bin rfl rfl rfl ?_)))
      refine RL_some ?_; (refine X_pick rfl rfl ?_)
      refine RL_some ?_; (refine X_move rfl ?_)
      (first | refine RL_off rfl rfl ?_ | refine RL_off' rfl rfl ?_ | (refine RL_on rfl rfl ?_; (refine X_move rfl ?_)))
      (first | refine RL_off rfl rfl ?_ | refine RL_off' rfl rfl ?_ | (refine RL_on rfl rfl ?_; (first | refine X_cmp_t rfl rfl rfl (by first | assumption | omega) ?_ | refine X_cmp_f rfl rfl rfl (by first | assumption | omega) ?_ | refine X_bin rfl rfl rfl ?_)))
      refine RL_some ?_; (refine X_pick rfl rfl ?_)
      refine RL_some ?_; (refine X_move rfl ?_)
      (first | refine RL_off rfl rfl ?_ | refine RL_off' rfl rfl ?_ | (refine RL_on rfl rfl ?_; (refine X_move rfl ?_)))
      (first | refine RL_off rfl rfl ?_ | refine RL_off' rfl rfl ?_ | (refine RL_on rfl rfl ?_; (first | refine X_cmp_t rfl rfl rfl (by first | assumption | omega) ?_ | refine X_cmp_f rfl rfl rfl (by first | assumption | omega) ?_ | refine X_bin rfl rfl rfl ?_)))
      refine RL_some ?_; (refine X_pick rfl rfl ?_)
      refine RL_some ?_; (refine X_move rfl ?_)
      (first | refine RL_off rfl rfl ?_ | refine RL_off' rfl rfl ?_ | (refine RL_on rfl rfl ?_; (refine X_move rfl ?_)))
      (first | refine RL_off rfl rfl ?_ | refine RL_off' rfl rfl ?_ | (refine RL_on rfl rfl ?_; (first | refine X_cmp_t rfl rfl rfl (by first | assumption | omega) ?_ | refine X_cmp_f rfl rfl rfl (by first | assumption | omega) ?_ | refine X_bin rfl rfl rfl ?_)))
      refine RL_some ?_; (refine X_pick rfl rfl ?_)
      refine hK3 _ _ (W_keep (Keep.cons 0 rfl (Keep.cons 1 rfl (Keep.cons 2 rfl (Keep.cons 24 rfl Keep.nil)))) ?_)
      refine W_false rfl (W_skip (hK2 _ _ ?_))
      refine W_seq_k fun K4 hK4 => ?_
      refine W_seq_k fun K5 hK5 => ?_
      refine W_reg rfl ?_
      refine RL_some ?_; (refine X_move rfl ?_)
      refine RL_some ?_; (refine X_move rfl ?_)
      refine RL_some ?_; (first | refine X_nil rfl ?_ | refine X_nil_func rfl ?_)
      refine RL_some ?_; (refine X_fieldAddr T.fd73_0 rfl ?_)
      refine RL_some ?_; (refine X_idxA T.ar71 rfl rfl (by omega) (by omega) ?_)
      refine RL_some ?_; (refine X_load1 T.ty70 rfl (by rw [cell_of (H.rdC 0 rfl)]; simpa using hv) ?_)
      refine RL_some ?_; (refine X_len T.sl70 rfl ?_)
      refine RL_some ?_; (first | refine X_cmp_t rfl rfl rfl (by first | assumption | omega) ?_ | refine X_cmp_f rfl rfl rfl (by first | assumption | omega) ?_ | refine X_bin rfl rfl rfl ?_)
      refine hK5 _ _ (W_keep (Keep.cons 0 rfl (Keep.cons 1 rfl (Keep.cons 2 rfl (Keep.cons 32 rfl Keep.nil)))) ?_)
      refine W_false rfl (W_skip (hK4 _ _ ?_))
      refine W_seq_k fun K6 hK6 => ?_
      refine W_seq_k fun K7 hK7 => ?_
      refine W_reg rfl ?_
      refine RL_some ?_; (refine X_move rfl ?_)
      refine RL_some ?_; (first | refine X_nil rfl ?_ | refine X_nil_func rfl ?_)
      refine RL_some ?_; (refine X_fieldAddr T.fd73_1 rfl ?_)
      refine RL_some ?_; (refine S_load1 H 0 T.ty69 rfl rfl (v := .map (some m.r)) rfl ?_)
      refine RL_some ?_; (refine X_mapnil T.mp69 rfl rfl ?_)
      refine hK7 _ _ (W_keep (Keep.cons 0 rfl (Keep.cons 1 rfl (Keep.cons 2 rfl (Keep.cons 37 rfl Keep.nil)))) ?_)
      refine W_false rfl (W_skip (hK6 _ _ ?_))
      refine W_seq_k fun K8 hK8 => ?_
      refine W_draw (.p 0 (.p 1 (.p 2 (.p 4 (.p 5 (.e 3 [0, 1, 4, 5] (.p 6 (.e 7 [] .nil .none)) .none)))))) T.mixed rfl ?_
      replace H := H.drew
      apply DD_pure rfl rfl; next => (intro _; refine X_move rfl ⟨rfl, rfl⟩)
      apply DD_pure rfl rfl; next => (intro _; refine X_move rfl ⟨rfl, rfl⟩)
      apply DD_pure rfl rfl; next => (intro _; refine X_move rfl ⟨rfl, rfl⟩)
      apply DD_pure rfl rfl; next => (intro _; first | refine X_nil rfl ⟨rfl, rfl⟩ | refine X_nil_func rfl ⟨rfl, rfl⟩)
      apply DD_pure rfl rfl; next => (intro _; refine X_fieldAddr T.fd73_0 rfl ⟨rfl, rfl⟩)
      refine DD_eff rfl rfl ?_; (refine S_make H T.sl70 T.ze76 rfl rfl (by omega) (by omega) (by omega) ?_; intro b w H)
      refine ⟨by repeat (first | exact rc_nil | refine rc_skip rfl ?_ | refine rc_true ?_), ?_⟩
      apply DD_pure rfl rfl; next => (intro _; refine X_idxA T.ar71 rfl rfl (by omega) (by omega) ⟨rfl, rfl⟩)
      refine DD_eff rfl rfl ?_; (refine S_store H 1 T.ty70 rfl rfl rfl rfl (by simp [PMx.vs]; omega) rfl rfl ?_; intro w H)
      refine ⟨by repeat (first | exact rc_nil | refine rc_skip rfl ?_ | refine rc_true ?_), ?_⟩
      refine hK8 _ _ (W_keep Keep.nil ?_)
      refine W_seq_k fun K9 hK9 => ?_
      refine W_reg rfl ?_
      refine RL_some ?_; (refine X_assign rfl ?_)
      refine hK9 _ _ (W_keep (Keep.cons 6 rfl Keep.nil) ?_)
      refine W_ret ?_
      (try simp only [thenQ, blockQ, noGotoQ])
      refine body_tmp (.inr rfl) rfl rfl ?_
      refine ⟨rfl, fun h => absurd rfl h, fun _ => ⟨b, ?_⟩⟩
      have e1 : ns.toNat < 4 := by omega
      have H1 : St w0 w (Cs b (zrow (encC none).toArray (size.toNat * 15)) 76 :: (m.at_ ++ L).set 0 (Cs m.p (splice m.vs ns.toNat [sl b 0 size.toNat size.toNat]) 73)) := by
        have H1 := H
        simp only [Nat.zero_add, Nat.mul_one, Nat.add_zero] at H1
        exact H1
      rw [zrow_cells, vs_splice m _ _ _ e1] at H1
      have H2 := H1.putAt (2 + ns.toNat) (by simp [PMx.at_]; omega)
      rw [grown_at m _ _ _ e1] at H2
      exact H2
end Go.Proofs.Ytinngnckojbpnaa
