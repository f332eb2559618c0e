import Derived.Test.YtinngnckojbpnaaPm5
/-! pagemap: Put. -/
namespace Go.Proofs.Ytinngnckojbpnaa
open Go.Nep
set_option maxRecDepth 100000
set_option linter.unusedVariables false
set_option linter.unusedSimpArgs false
set_option maxHeartbeats 800000

/-- a map in the midst of a Put -/
def PMx.mid (m : PMx) (s : Spot) (i : Nat) : PMx := m.withL s.head.ns.toNat (putL s s.head.lba.toNat i (m.l s.head.ns.toNat))

theorem atK_atK (f : Nat → List (Option Spot)) (k : Nat) (l l' : List (Option Spot)) : atK (atK f k l) k l' = atK f k l' := by
  funext j
  unfold atK
  by_cases h : j = k <;> simp [h]
/-- what holds at each round's head -/
def PutI (m : PMx) (s : Spot) (w0 : World) (L : List Asn) (b3 : Nat) (sv : Value) (left : Nat) (pf : PF) (w : World) : Prop :=
  ∃ i E clock outs v, i + left = s.head.count.toNat ∧ REF E clock (cnt (m.mid s i).l) ∧ OutsOK (cnt m.l) (cnt (m.mid s i).l) s.place outs ∧ outs.length ≤ i ∧
    Keep pf [(0, pt m.p 0), (3, pt b3 0), (6, sv), (7, v), (16, sv), (17, i64 s.head.count.toNat), (18, i64 i)] ∧
    St w0 w (((m.mid s i).withE E clock).at_ ++ Row v 23 2 outs.length (outs.flatMap Pl.enc) :: Cs b3 s.enc.toArray 29 :: L)

theorem set_same {α : Type} (l : List α) (i : Nat) {a : α} (h : l[i]? = some a) : l.set i a = l := by
  apply List.ext_getElem?
  intro j
  rw [List.getElem?_set]
  obtain ⟨hi, ha⟩ := List.getElem?_eq_some_iff.1 h
  by_cases e : i = j
  · subst e; simp [hi, ha]
  · simp [e]

theorem mid_old (m : PMx) (s : Spot) (i : Nat) {o : Spot} (h : (m.l s.head.ns.toNat)[s.head.lba.toNat + i]? = some (some o)) (hn : newer s o = false) : m.mid s (i + 1) = m.mid s i := by
  have h1 : (putL s s.head.lba.toNat i (m.l s.head.ns.toNat))[s.head.lba.toNat + i]? = some (some o) := by rw [putL_get, if_neg (by omega), h]
  unfold PMx.mid
  congr 1
  show List.modify _ _ _ = _
  rw [modify_set _ _ _ h1]
  exact set_same _ _ (by rw [h1]; simp [stepC, hn])
theorem mid_new (m : PMx) (s : Spot) (i : Nat) {c : Option Spot} (h : (m.l s.head.ns.toNat)[s.head.lba.toNat + i]? = some c) (hn : stepC s c = some s) :
    m.mid s (i + 1) = m.withL s.head.ns.toNat ((putL s s.head.lba.toNat i (m.l s.head.ns.toNat)).set (s.head.lba.toNat + i) (some s)) := by
  have h1 : (putL s s.head.lba.toNat i (m.l s.head.ns.toNat))[s.head.lba.toNat + i]? = some c := by rw [putL_get, if_neg (by omega), h]
  unfold PMx.mid
  congr 1
  show List.modify _ _ _ = _
  rw [modify_set _ _ _ h1, hn]
theorem mid_cnt (m : PMx) (s : Spot) (i : Nat) (hk : s.head.ns.toNat < 4) {c : Option Spot} (h : (m.l s.head.ns.toNat)[s.head.lba.toNat + i]? = some c) (hn : stepC s c = some s) (q : Pl) :
    cnt (m.mid s (i + 1)).l q = cnt (m.mid s i).l q + (if q = s.place then 1 else 0) - plOf c q := by
  have h1 : (putL s s.head.lba.toNat i (m.l s.head.ns.toNat))[s.head.lba.toNat + i]? = some c := by rw [putL_get, if_neg (by omega), h]
  rw [mid_new m s i h hn]
  have e1 := cnt_atK m.l s.head.ns.toNat hk ((putL s s.head.lba.toNat i (m.l s.head.ns.toNat)).set (s.head.lba.toNat + i) (some s)) q
  have e2 := cnt_atK m.l s.head.ns.toNat hk (putL s s.head.lba.toNat i (m.l s.head.ns.toNat)) q
  have e3 := cntL_set _ _ (some s) q h1
  show cnt (atK _ _ _) q = cnt (atK _ _ _) q + _ - _
  rw [e1, e2, e3]
  simp only [plOf]
  omega

theorem mid_zero (m : PMx) (s : Spot) : m.mid s 0 = m := by
  unfold PMx.mid PMx.withL atK putL
  have : (fun j => if j = s.head.ns.toNat then m.l s.head.ns.toNat else m.l j) = m.l := by
    funext j
    by_cases h : j = s.head.ns.toNat <;> simp [h]
  rw [this]
theorem Put_bad (m : PMx) (s : Spot) (hok : s.head.ok) (hr : ¬ rightS m s) (hn : sizeOf_ m s.head.ns ≤ 65535) {w0 w : World} {L : List Asn} (H : St w0 w (m.at_ ++ L)) :
    Calls Try.prog 14 #[pt m.p 0, .agg s.enc.toArray] w (After fun v w' => v = .tuple #[.slice none 0 0, i64 2] ∧ St w0 w' (m.at_ ++ L)) := by
  refine calls_of_W (N := 54) (args := [pt m.p 0, .agg s.enc.toArray]) Try.func14 rfl Try.ntmps14 (by simp) ?_
  refine W_seq_k fun K1 hK1 => ?_
  refine W_reg rfl ?_
  refine RL_some ?_; (refine S_box H rfl ?_; intro b3 w H)
  refine RL_some ?_; (refine X_assign rfl ?_)
  refine RL_some ?_; (refine X_assign rfl ?_)
  refine hK1 _ _ (W_keep (Keep.cons 0 rfl (Keep.cons 3 rfl Keep.nil)) ?_)
  replace H := H.perm (List.perm_middle (l₁ := m.at_)).symm
  refine W_seq_k fun K2 hK2 => ?_
  refine W_reg rfl ?_
  refine RL_some ?_; (refine X_move rfl ?_)
  refine RL_some ?_; ((first | refine S_load H 0 T.ty29 rfl rfl (l := s.enc) rfl (Nat.le_of_ble_eq_true rfl) ?_ | refine S_load H 1 T.ty29 rfl rfl (l := s.enc) rfl (Nat.le_of_ble_eq_true rfl) ?_ | refine S_load H 2 T.ty29 rfl rfl (l := s.enc) rfl (Nat.le_of_ble_eq_true rfl) ?_ | refine S_load H 3 T.ty29 rfl rfl (l := s.enc) rfl (Nat.le_of_ble_eq_true rfl) ?_ | refine S_load H 4 T.ty29 rfl rfl (l := s.enc) rfl (Nat.le_of_ble_eq_true rfl) ?_ | refine S_load H 5 T.ty29 rfl rfl (l := s.enc) rfl (Nat.le_of_ble_eq_true rfl) ?_ | refine S_load H 6 T.ty29 rfl rfl (l := s.enc) rfl (Nat.le_of_ble_eq_true rfl) ?_ | refine S_load H 7 T.ty29 rfl rfl (l := s.enc) rfl (Nat.le_of_ble_eq_true rfl) ?_ | refine S_load H 8 T.ty29 rfl rfl (l := s.enc) rfl (Nat.le_of_ble_eq_true rfl) ?_ | refine S_load H 9 T.ty29 rfl rfl (l := s.enc) rfl (Nat.le_of_ble_eq_true rfl) ?_))
  refine RL_some ?_; (refine X_call T.ent28 rfl (calls_to (speaks_no m s hok hr hn H) ?_); rintro v w ⟨rfl, H⟩)
  refine RL_some ?_; (refine X_assign rfl ?_)
  refine hK2 _ _ (W_keep (Keep.cons 0 rfl (Keep.cons 3 rfl (Keep.cons 6 rfl Keep.nil))) ?_)
  refine W_seq_k fun K3 hK3 => ?_
  refine W_seq_k fun K4 hK4 => ?_
  refine W_reg rfl ?_
  refine RL_some ?_; (refine X_move rfl ?_)
  refine RL_some ?_; (refine X_len T.sl70 rfl ?_)
  refine RL_some ?_; (first | refine X_cmp_t rfl rfl rfl (by first | assumption | omega) ?_ | refine X_cmp_f rfl rfl rfl (by first | assumption | omega) ?_ | refine X_bin rfl rfl rfl ?_)
  refine hK4 _ _ (W_keep (Keep.cons 0 rfl (Keep.cons 3 rfl (Keep.cons 6 rfl (Keep.cons 15 rfl Keep.nil)))) ?_)
  refine W_true rfl ?_
  refine W_seq_k fun K5 hK5 => ?_
  refine W_reg rfl ?_
  refine RL_some ?_; (refine X_assign rfl ?_)
  refine RL_some ?_; (refine X_assign rfl ?_)
  refine hK5 _ _ (W_keep (Keep.cons 4 rfl (Keep.cons 5 rfl Keep.nil)) ?_)
  refine W_ret ?_
  (try simp only [thenQ, blockQ, noGotoQ])
  refine body_tmp2 (.inr rfl) rfl rfl rfl ?_
  exact ⟨rfl, (H.perm (List.perm_middle (l₁ := m.at_))).drop⟩

theorem Put_spec (m : PMx) (s : Spot) (hok : s.head.ok) (hr : rightS m s) (hlen : ∀ k, k < 4 → (m.l k).length ≤ 65535) (hR : REF m.E m.clock (cnt m.l))
    (sortP : List Pl → List Pl) (told : ∀ outs, OutsOK (cnt m.l) (cnt (m.mid s s.head.count.toNat).l) s.place outs → outs.length ≤ 65535 → ∀ v w0 w L, St w0 w (Row v 23 2 outs.length (outs.flatMap Pl.enc) :: L) →
      Calls Try.prog 30 #[v] w (After fun u w' => St w0 w' (Row u 23 2 outs.length ((sortP outs).flatMap Pl.enc) :: L)))
    {w0 w : World} {L : List Asn} (H : St w0 w (m.at_ ++ L)) :
    Calls Try.prog 14 #[pt m.p 0, .agg s.enc.toArray] w (After fun v w' => ∃ u E' clock' outs, v = .tuple #[u, i64 0] ∧ REF E' clock' (cnt (m.mid s s.head.count.toNat).l) ∧
      OutsOK (cnt m.l) (cnt (m.mid s s.head.count.toNat).l) s.place outs ∧ outs.length ≤ 65535 ∧ St w0 w' (((m.mid s s.head.count.toNat).withE E' clock').at_ ++ Row u 23 2 outs.length ((sortP outs).flatMap Pl.enc) :: L)) := by
  have hr' := hr
  obtain ⟨hk, c2, c3, c4⟩ := hr'
  obtain ⟨hl0, hl1⟩ := hok
  have hns : 0 ≤ s.head.ns ∧ s.head.ns < 4 := by
    unfold sizeOf_ at c3
    split at c3
    · assumption
    · omega
  have hk4 : s.head.ns.toNat < 4 := by omega
  have hsz : sizeOf_ m s.head.ns = (m.l s.head.ns.toNat).length := by unfold sizeOf_; rw [if_pos hns]
  have hsz2 := hlen _ hk4
  obtain ⟨b, hbo, _⟩ := row_some H hk4 (by omega)
  refine calls_of_W (N := 54) (args := [pt m.p 0, .agg s.enc.toArray]) Try.func14 rfl Try.ntmps14 (by simp) ?_
  refine W_seq_k fun K1 hK1 => ?_
  refine W_reg rfl ?_
  refine RL_some ?_; (refine S_box H rfl ?_; intro b3 w H)
  refine RL_some ?_; (refine X_assign rfl ?_)
  refine RL_some ?_; (refine X_assign rfl ?_)
  refine hK1 _ _ (W_keep (Keep.cons 0 rfl (Keep.cons 3 rfl Keep.nil)) ?_)
  replace H := H.perm (List.perm_middle (l₁ := m.at_)).symm
  refine W_seq_k fun K2 hK2 => ?_
  refine W_reg rfl ?_
  refine RL_some ?_; (refine X_move rfl ?_)
  refine RL_some ?_; ((first | refine S_load H 0 T.ty29 rfl rfl (l := s.enc) rfl (Nat.le_of_ble_eq_true rfl) ?_ | refine S_load H 1 T.ty29 rfl rfl (l := s.enc) rfl (Nat.le_of_ble_eq_true rfl) ?_ | refine S_load H 2 T.ty29 rfl rfl (l := s.enc) rfl (Nat.le_of_ble_eq_true rfl) ?_ | refine S_load H 3 T.ty29 rfl rfl (l := s.enc) rfl (Nat.le_of_ble_eq_true rfl) ?_ | refine S_load H 4 T.ty29 rfl rfl (l := s.enc) rfl (Nat.le_of_ble_eq_true rfl) ?_ | refine S_load H 5 T.ty29 rfl rfl (l := s.enc) rfl (Nat.le_of_ble_eq_true rfl) ?_ | refine S_load H 6 T.ty29 rfl rfl (l := s.enc) rfl (Nat.le_of_ble_eq_true rfl) ?_ | refine S_load H 7 T.ty29 rfl rfl (l := s.enc) rfl (Nat.le_of_ble_eq_true rfl) ?_ | refine S_load H 8 T.ty29 rfl rfl (l := s.enc) rfl (Nat.le_of_ble_eq_true rfl) ?_ | refine S_load H 9 T.ty29 rfl rfl (l := s.enc) rfl (Nat.le_of_ble_eq_true rfl) ?_))
  refine RL_some ?_; (refine X_call T.ent28 rfl (calls_to (speaks_yes m s ⟨hl0, hl1⟩ hr (by omega) H hbo) ?_); rintro v w ⟨rfl, H⟩)
  refine RL_some ?_; (refine X_assign rfl ?_)
  refine hK2 _ _ (W_keep (Keep.cons 0 rfl (Keep.cons 3 rfl (Keep.cons 6 rfl Keep.nil))) ?_)
  refine W_seq_k fun K3 hK3 => ?_
  refine W_seq_k fun K4 hK4 => ?_
  refine W_reg rfl ?_
  refine RL_some ?_; (refine X_move rfl ?_)
  refine RL_some ?_; (refine X_len T.sl70 rfl ?_)
  refine RL_some ?_; (first | refine X_cmp_t rfl rfl rfl (by first | assumption | omega) ?_ | refine X_cmp_f rfl rfl rfl (by first | assumption | omega) ?_ | refine X_bin rfl rfl rfl ?_)
  refine hK4 _ _ (W_keep (Keep.cons 0 rfl (Keep.cons 3 rfl (Keep.cons 6 rfl (Keep.cons 15 rfl Keep.nil)))) ?_)
  refine W_false rfl (W_skip (hK3 _ _ ?_))
  refine W_seq_k fun K5 hK5 => ?_
  refine W_reg rfl ?_
  refine RL_some ?_; (refine X_assign rfl ?_)
  refine hK5 _ _ (W_keep (Keep.cons 0 rfl (Keep.cons 3 rfl (Keep.cons 6 rfl (Keep.cons 7 rfl Keep.nil)))) ?_)
  refine W_seq_k fun K6 hK6 => ?_
  refine W_seq_k fun K7 hK7 => ?_
  refine W_reg rfl ?_
  refine RL_some ?_; (refine X_move rfl ?_)
  refine RL_some ?_; (refine X_len T.sl70 rfl ?_)
  refine RL_some ?_; (refine X_move rfl ?_)
  refine hK7 _ _ (W_keep (Keep.cons 0 rfl (Keep.cons 3 rfl (Keep.cons 6 rfl (Keep.cons 7 rfl (Keep.cons 16 rfl (Keep.cons 17 rfl (Keep.cons 18 rfl Keep.nil))))))) ?_)
  refine W_block ?_
  refine W_loop (PutI m s w0 L b3 (sl b (s.head.lba.toNat * 15) s.head.count.toNat (sizeOf_ m s.head.ns - s.head.lba.toNat))) s.head.count.toNat ?_ ?_
  · refine ⟨0, m.E, m.clock, [], .slice none 0 0, by omega, ?_, ?_, by simp, by rw [show ((s.head.count.toNat : Nat) : Int) = s.head.count by omega]; exact (Keep.cons 0 rfl (Keep.cons 3 rfl (Keep.cons 6 rfl (Keep.cons 7 rfl (Keep.cons 16 rfl (Keep.cons 17 rfl (Keep.cons 18 rfl Keep.nil))))))), ?_⟩
    · rw [mid_zero]; exact hR
    · rw [mid_zero]; exact .start
    · rw [mid_zero]
      exact H.rowNil.perm (List.perm_middle (l₁ := m.at_)).symm
  rintro left pf w ⟨i, E, clock, outs, v, hi, hR', hO, hlo, hpf, H⟩
  refine W_keep hpf ?_
  clear hpf
  have hcc : ((s.head.count.toNat : Nat) : Int) = s.head.count := by omega
  by_cases hend : i = s.head.count.toNat
  · subst hend
    refine W_seq_k fun K8 hK8 => ?_
    refine W_reg rfl ?_
    refine RL_some ?_; (first | refine X_cmp_t rfl rfl rfl (by first | assumption | omega) ?_ | refine X_cmp_f rfl rfl rfl (by first | assumption | omega) ?_ | refine X_bin rfl rfl rfl ?_)
    refine hK8 _ _ (W_keep (Keep.cons 0 rfl (Keep.cons 3 rfl (Keep.cons 6 rfl (Keep.cons 7 rfl (Keep.cons 16 rfl (Keep.cons 17 rfl (Keep.cons 18 rfl (Keep.cons 19 rfl Keep.nil)))))))) ?_)
    refine W_seq_k fun K9 hK9 => ?_
    refine W_false rfl (W_exit ?_)
    simp only [thenQ, blockQ, if_true]
    refine hK6 _ _ ?_
    refine W_seq_k fun K10 hK10 => ?_
    refine W_reg rfl ?_
    refine RL_some ?_; (refine X_move rfl ?_)
    refine RL_some ?_; (refine X_call T.ent30 rfl (calls_to (told outs hO (by omega) v w0 w _ (H.perm (List.perm_middle (l₁ := (PMx.withE _ _ _).at_)))) ?_); intro u w H)
    refine RL_some ?_; (refine X_assign rfl ?_)
    refine RL_some ?_; (refine X_assign rfl ?_)
    refine hK10 _ _ (W_keep (Keep.cons 4 rfl (Keep.cons 5 rfl Keep.nil)) ?_)
    refine W_ret ?_
    (try simp only [thenQ, blockQ, noGotoQ])
    refine body_tmp2 (.inr rfl) rfl rfl rfl ?_
    exact ⟨u, E, clock, outs, rfl, hR', hO, by omega, (St.into (A := (PMx.withE _ _ _).at_) H).cut2⟩
  have hlt : i < s.head.count.toNat := by omega
  have hcell0 : ∃ c, (m.l s.head.ns.toNat)[s.head.lba.toNat + i]? = some c := ⟨_, List.getElem?_eq_getElem (by omega)⟩
  obtain ⟨c, hc⟩ := hcell0
  have hc1 : (putL s s.head.lba.toNat i (m.l s.head.ns.toNat))[s.head.lba.toNat + i]? = some c := by rw [putL_get, if_neg (by omega), hc]
  have hrow : ∀ (E : Ents Pl) (clock : Nat) (v : Value), (((m.mid s i).withE E clock).at_ ++ Row v 23 2 outs.length (outs.flatMap Pl.enc) :: Cs b3 s.enc.toArray 29 :: L)[2 + s.head.ns.toNat]? = some (Cs b ((putL s s.head.lba.toNat i (m.l s.head.ns.toNat)).flatMap encC).toArray 76) := by
    intro E clock v
    rw [at_get _ _ hk4]
    show some (CRow (m.bo _) (atK _ _ _ _)) = _
    rw [hbo]
    simp only [CRow, atK, if_true]
  have hseg := flat_seg encC encC_len _ _ hc1
  have hfl := flat_len encC encC_len (putL s s.head.lba.toNat i (m.l s.head.ns.toNat))
  rw [putL_len] at hfl
  rw [Nat.add_mul] at hseg
  have hin : i * 15 + 15 ≤ (sizeOf_ m s.head.ns - s.head.lba.toNat) * 15 := by omega
  have hall : ∀ q, cnt (m.mid s i).l q ≤ 262140 := by
    intro q
    have h1 := (cnt_le (m.mid s i).l q).2
    have h2 : ∀ j, j < 4 → ((m.mid s i).l j).length ≤ 65535 := by
      intro j hj
      show (atK _ _ _ j).length ≤ _
      unfold atK
      by_cases e : j = s.head.ns.toNat
      · rw [if_pos e, putL_len]; exact hsz2
      · rw [if_neg e]; exact hlen j hj
    have a0 := h2 0 (by omega)
    have a1 := h2 1 (by omega)
    have a2 := h2 2 (by omega)
    have a3 := h2 3 (by omega)
    omega
  have hvb : 0 ≤ valE E s.place ∧ valE E s.place ≤ 262140 := by rw [hR'.val]; exact ⟨(cnt_le _ _).1, hall _⟩
  refine W_seq_k fun K8 hK8 => ?_
  refine W_reg rfl ?_
  refine RL_some ?_; (first | refine X_cmp_t rfl rfl rfl (by first | assumption | omega) ?_ | refine X_cmp_f rfl rfl rfl (by first | assumption | omega) ?_ | refine X_bin rfl rfl rfl ?_)
  refine hK8 _ _ (W_keep (Keep.cons 0 rfl (Keep.cons 3 rfl (Keep.cons 6 rfl (Keep.cons 7 rfl (Keep.cons 16 rfl (Keep.cons 17 rfl (Keep.cons 18 rfl (Keep.cons 19 rfl Keep.nil)))))))) ?_)
  refine W_seq_k fun K9 hK9 => ?_
  refine W_true rfl (W_skip (hK9 _ _ ?_))
  refine W_seq_k fun K10 hK10 => ?_
  refine W_block ?_
  refine W_seq_k fun K11 hK11 => ?_
  refine W_reg rfl ?_
  refine RL_some ?_; (refine X_move rfl ?_)
  refine RL_some ?_; (refine X_idx T.sl70 rfl rfl (by omega) (by omega) ?_)
  refine RL_some ?_; (refine S_load H (2 + s.head.ns.toNat) T.ty76 rfl (hrow E clock v) (l := encC c) (by simpa using hseg) (by rw [List.size_toArray, hfl]; omega) ?_)
  refine RL_some ?_; (refine S_alloc H T.ze76 ?_; intro b9 w H)
  refine RL_some ?_; (refine X_assign rfl ?_)
  refine RL_none ?_; (refine S_store H 0 T.ty76 rfl rfl rfl (encC_len c) (Nat.le_of_ble_eq_true rfl) (by cases c <;> rfl) (c' := (encC c).toArray) (by cases c <;> rfl) ?_; intro w H)
  refine hK11 _ _ (W_keep (Keep.cons 0 rfl (Keep.cons 3 rfl (Keep.cons 6 rfl (Keep.cons 7 rfl (Keep.cons 8 rfl (Keep.cons 9 rfl (Keep.cons 16 rfl (Keep.cons 17 rfl (Keep.cons 18 rfl Keep.nil))))))))) ?_)
  refine W_seq_k fun K12 hK12 => ?_
  have rest : stepC s c = some s → ∀ w pf, Keep pf [(0, pt m.p 0), (3, pt b3 0), (6, sl b (s.head.lba.toNat * 15) s.head.count.toNat (sizeOf_ m s.head.ns - s.head.lba.toNat)), (7, v), (8, i64 i), (9, pt b9 0), (16, sl b (s.head.lba.toNat * 15) s.head.count.toNat (sizeOf_ m s.head.ns - s.head.lba.toNat)), (17, i64 s.head.count.toNat), (18, i64 i)] → St w0 w (Cs b9 (encC c).toArray 76 :: (((m.mid s i).withE E clock).at_ ++ Row v 23 2 outs.length (outs.flatMap Pl.enc) :: Cs b3 s.enc.toArray 29 :: L)) →
      K12 pf w := by
    clear H
    intro hst w pf hpf H
    refine hK12 _ _ (W_keep hpf ?_)
    clear hpf
    refine W_seq_k fun K14 hK14 => ?_
    have rest2 : ∀ E' clock' w pf, Keep pf [(0, pt m.p 0), (3, pt b3 0), (6, sl b (s.head.lba.toNat * 15) s.head.count.toNat (sizeOf_ m s.head.ns - s.head.lba.toNat)), (7, v), (8, i64 i), (9, pt b9 0), (16, sl b (s.head.lba.toNat * 15) s.head.count.toNat (sizeOf_ m s.head.ns - s.head.lba.toNat)), (17, i64 s.head.count.toNat), (18, i64 i)] → REF E' clock' (fun q => cnt (m.mid s i).l q + if q = s.place then 1 else 0) → St w0 w (Cs b9 (encC c).toArray 76 :: (((m.mid s i).withE E' clock').at_ ++ Row v 23 2 outs.length (outs.flatMap Pl.enc) :: Cs b3 s.enc.toArray 29 :: L)) →
        K14 pf w := by
      clear H
      intro E' clock' w pf hpf hR2 H
      refine hK14 _ _ (W_keep hpf ?_)
      clear hpf
      refine W_seq_k fun K15 hK15 => ?_
      refine W_reg rfl ?_
      refine RL_some ?_; (refine X_move rfl ?_)
      refine RL_some ?_; (refine X_move rfl ?_)
      refine RL_some ?_; (refine S_load H 8 T.ty29 rfl rfl (l := s.enc) rfl (Nat.le_of_ble_eq_true rfl) ?_)
      refine RL_some ?_; (refine X_build (cells := (encC (some s)).toArray) T.sh76 T.ze76 rfl (fill_put rfl rfl (Nat.le_of_ble_eq_true rfl) rfl (fill_put rfl rfl (Nat.le_of_ble_eq_true rfl) rfl rfl)) ?_)
      refine RL_some ?_; (refine X_idx T.sl70 rfl rfl (by omega) (by omega) ?_)
      refine RL_none ?_; (refine S_store H (2 + s.head.ns.toNat + 1) T.ty76 rfl rfl (hrow E' clock' v) rfl (by rw [List.size_toArray, hfl]; omega) rfl (c' := (((putL s s.head.lba.toNat i (m.l s.head.ns.toNat)).set (s.head.lba.toNat + i) (some s)).flatMap encC).toArray) (by rw [← flat_splice encC encC_len _ _ _ (by rw [putL_len]; omega), Nat.add_mul]; rfl) ?_; intro w H)
      refine hK15 _ _ (W_keep (Keep.cons 0 rfl (Keep.cons 3 rfl (Keep.cons 6 rfl (Keep.cons 7 rfl (Keep.cons 9 rfl (Keep.cons 16 rfl (Keep.cons 17 rfl (Keep.cons 18 rfl Keep.nil)))))))) ?_)
      replace H : St w0 w (Cs b9 (encC c).toArray 76 :: (((m.mid s (i + 1)).withE E' clock').at_ ++ Row v 23 2 outs.length (outs.flatMap Pl.enc) :: Cs b3 s.enc.toArray 29 :: L)) := by
        have e : (((m.mid s i).withE E' clock').at_ ++ Row v 23 2 outs.length (outs.flatMap Pl.enc) :: Cs b3 s.enc.toArray 29 :: L).set (2 + s.head.ns.toNat) (Cs b (((putL s s.head.lba.toNat i (m.l s.head.ns.toNat)).set (s.head.lba.toNat + i) (some s)).flatMap encC).toArray 76) =
            ((m.mid s (i + 1)).withE E' clock').at_ ++ Row v 23 2 outs.length (outs.flatMap Pl.enc) :: Cs b3 s.enc.toArray 29 :: L := by
          rw [withL_at ((m.mid s i).withE E' clock') _ hk4 hbo _ ?_, mid_new m s i hc hst]
          · have e2 : ((m.mid s i).withE E' clock').withL s.head.ns.toNat ((putL s s.head.lba.toNat i (m.l s.head.ns.toNat)).set (s.head.lba.toNat + i) (some s)) = (m.withL s.head.ns.toNat ((putL s s.head.lba.toNat i (m.l s.head.ns.toNat)).set (s.head.lba.toNat + i) (some s))).withE E' clock' := by
              simp only [PMx.withL, PMx.withE, PMx.mid, atK_atK]
            rw [e2]
          · show _ = (atK _ _ _ _).length
            simp only [atK, if_true, List.length_set, putL_len]
        rw [← e]
        exact H
      have hR3 : ∀ q, cnt (m.mid s (i + 1)).l q = (cnt (m.mid s i).l q + if q = s.place then 1 else 0) - plOf c q := mid_cnt m s i hk4 hc hst
      cases c with
      | none =>
        refine W_reg rfl ?_
        refine RL_some ?_; (refine X_move rfl ?_)
        refine RL_some ?_; ((first | refine S_load H 0 T.ty76 rfl rfl (l := encC none) rfl (Nat.le_of_ble_eq_true rfl) ?_ | refine S_load H 1 T.ty76 rfl rfl (l := encC none) rfl (Nat.le_of_ble_eq_true rfl) ?_ | refine S_load H 2 T.ty76 rfl rfl (l := encC none) rfl (Nat.le_of_ble_eq_true rfl) ?_ | refine S_load H 3 T.ty76 rfl rfl (l := encC none) rfl (Nat.le_of_ble_eq_true rfl) ?_ | refine S_load H 4 T.ty76 rfl rfl (l := encC none) rfl (Nat.le_of_ble_eq_true rfl) ?_ | refine S_load H 5 T.ty76 rfl rfl (l := encC none) rfl (Nat.le_of_ble_eq_true rfl) ?_ | refine S_load H 6 T.ty76 rfl rfl (l := encC none) rfl (Nat.le_of_ble_eq_true rfl) ?_ | refine S_load H 7 T.ty76 rfl rfl (l := encC none) rfl (Nat.le_of_ble_eq_true rfl) ?_ | refine S_load H 8 T.ty76 rfl rfl (l := encC none) rfl (Nat.le_of_ble_eq_true rfl) ?_ | refine S_load H 9 T.ty76 rfl rfl (l := encC none) rfl (Nat.le_of_ble_eq_true rfl) ?_))
        refine RL_some ?_; (refine X_move rfl ?_)
        refine RL_some ?_; (refine X_call T.ent29 rfl (calls_to (lose_none (PMx.withE _ _ _) v H.drop) ?_); rintro u w ⟨rfl, H⟩)
        refine RL_some ?_; (refine X_assign rfl ?_)
        refine hK10 _ _ (W_keep (Keep.cons 0 rfl (Keep.cons 3 rfl (Keep.cons 6 rfl (Keep.cons 7 rfl (Keep.cons 16 rfl (Keep.cons 17 rfl (Keep.cons 18 rfl Keep.nil))))))) ?_)
        refine W_reg rfl ?_
        refine RL_some ?_; (first | refine X_int rfl rfl rfl (by omega) ?_ | refine X_bin rfl rfl rfl ?_)
        refine RL_some ?_; (refine X_move rfl ?_)
        refine ⟨left - 1, by omega, i + 1, E', clock', outs, u, by omega, ?_, ?_, by omega, (Keep.cons 0 rfl (Keep.cons 3 rfl (Keep.cons 6 rfl (Keep.cons 7 rfl (Keep.cons 16 rfl (Keep.cons 17 rfl (Keep.cons 18 rfl Keep.nil))))))), H⟩
        · refine cast (congrArg (REF _ _) ?_) hR2
          funext q
          rw [hR3]; simp [plOf]
        · exact hO.first (fun q => (cnt_le _ q).1) (fun q => (cnt_le _ q).1) (fun q => by rw [hR3]; simp [plOf])
      | some o =>
        have hget := cntL_get _ _ hc1
        have hcn := cntL_cnt (m.mid s i).l s.head.ns.toNat hk4 o.place
        have hsame : (m.mid s i).l s.head.ns.toNat = putL s s.head.lba.toNat i (m.l s.head.ns.toNat) := by
          show atK _ _ _ _ = _
          simp only [atK, if_true]
        rw [hsame] at hcn
        have hone : 1 ≤ cnt (m.mid s i).l o.place := by omega
        have hone0 : cnt m.l o.place ≠ 0 := by
          have h1 := cntL_get _ _ hc
          have h2 := cntL_cnt m.l s.head.ns.toNat hk4 o.place
          omega
        have hle := hall o.place
        have hO2 := hO.other (op := o.place) (C' := cnt (m.mid s (i + 1)).l) (fun q => (cnt_le _ q).1) (fun q => (cnt_le _ q).1) (fun q => by rw [hR3]; rfl) hone hone0
        refine W_reg rfl ?_
        refine RL_some ?_; (refine X_move rfl ?_)
        refine RL_some ?_; ((first | refine S_load H 0 T.ty76 rfl rfl (l := encC (some o)) rfl (Nat.le_of_ble_eq_true rfl) ?_ | refine S_load H 1 T.ty76 rfl rfl (l := encC (some o)) rfl (Nat.le_of_ble_eq_true rfl) ?_ | refine S_load H 2 T.ty76 rfl rfl (l := encC (some o)) rfl (Nat.le_of_ble_eq_true rfl) ?_ | refine S_load H 3 T.ty76 rfl rfl (l := encC (some o)) rfl (Nat.le_of_ble_eq_true rfl) ?_ | refine S_load H 4 T.ty76 rfl rfl (l := encC (some o)) rfl (Nat.le_of_ble_eq_true rfl) ?_ | refine S_load H 5 T.ty76 rfl rfl (l := encC (some o)) rfl (Nat.le_of_ble_eq_true rfl) ?_ | refine S_load H 6 T.ty76 rfl rfl (l := encC (some o)) rfl (Nat.le_of_ble_eq_true rfl) ?_ | refine S_load H 7 T.ty76 rfl rfl (l := encC (some o)) rfl (Nat.le_of_ble_eq_true rfl) ?_ | refine S_load H 8 T.ty76 rfl rfl (l := encC (some o)) rfl (Nat.le_of_ble_eq_true rfl) ?_ | refine S_load H 9 T.ty76 rfl rfl (l := encC (some o)) rfl (Nat.le_of_ble_eq_true rfl) ?_))
        refine RL_some ?_; (refine X_move rfl ?_)
        refine RL_some ?_; (refine X_call T.ent29 rfl (calls_to (lose_some ((m.mid s (i + 1)).withE E' clock') o hR2 (by show 1 ≤ cnt _ _ + ite _ _ _; split <;> omega) (by show cnt _ _ + ite _ _ _ ≤ _; split <;> omega) (by omega) H.drop) ?_); rintro u w ⟨E2, clock2, hR4, H⟩)
        refine RL_some ?_; (refine X_assign rfl ?_)
        refine hK10 _ _ (W_keep (Keep.cons 0 rfl (Keep.cons 3 rfl (Keep.cons 6 rfl (Keep.cons 7 rfl (Keep.cons 16 rfl (Keep.cons 17 rfl (Keep.cons 18 rfl Keep.nil))))))) ?_)
        refine W_reg rfl ?_
        refine RL_some ?_; (first | refine X_int rfl rfl rfl (by omega) ?_ | refine X_bin rfl rfl rfl ?_)
        refine RL_some ?_; (refine X_move rfl ?_)
        have hlen2 : (outs ++ if cnt (m.mid s i).l o.place + (if o.place = s.place then 1 else 0) = 1 then [o.place] else []).length = outs.length + if cnt (m.mid s i).l o.place + (if o.place = s.place then 1 else 0) = 1 then 1 else 0 := by
          by_cases hz : cnt (m.mid s i).l o.place + (if o.place = s.place then 1 else 0) = 1
          · simp only [if_pos hz]; simp
          · simp only [if_neg hz]; simp
        have henc : (outs ++ if cnt (m.mid s i).l o.place + (if o.place = s.place then 1 else 0) = 1 then [o.place] else []).flatMap Pl.enc = outs.flatMap Pl.enc ++ if cnt (m.mid s i).l o.place + (if o.place = s.place then 1 else 0) = 1 then o.place.enc else [] := by
          by_cases hz : cnt (m.mid s i).l o.place + (if o.place = s.place then 1 else 0) = 1
          · simp only [if_pos hz]; simp
          · simp only [if_neg hz]; simp
        refine ⟨left - 1, by omega, i + 1, E2, clock2, _, u, by omega, ?_, hO2, ?_, (Keep.cons 0 rfl (Keep.cons 3 rfl (Keep.cons 6 rfl (Keep.cons 7 rfl (Keep.cons 16 rfl (Keep.cons 17 rfl (Keep.cons 18 rfl Keep.nil))))))), ?_⟩
        · refine cast (congrArg (REF _ _) ?_) hR4
          funext q
          rw [hR3]
          simp only [plOf]
          by_cases e : q = o.place
          · subst e; simp
          · simp [e]
        · rw [hlen2]
          by_cases hz : cnt (m.mid s i).l o.place + (if o.place = s.place then 1 else 0) = 1
          · rw [if_pos hz]; omega
          · rw [if_neg hz]; omega
        · rw [hlen2, henc]
          exact H
    by_cases hz : cnt (m.mid s i).l s.place = 0
    · refine W_draw (.p 0 (.p 1 (.p 2 (.p 3 (.p 4 (.p 5 (.p 6 (.p 7 (.e 8 [6, 7] (.p 9 (.e 10 [] .nil .none)) .none))))))))) T.mixed rfl ?_
      replace H := H.drew
      apply DD_pure rfl rfl; next => (intro _; refine X_move rfl ⟨rfl, rfl⟩)
      apply DD_pure rfl rfl; next => (intro _; first | refine X_nil rfl ⟨rfl, rfl⟩ | refine X_nil_func rfl ⟨rfl, rfl⟩)
      apply DD_pure rfl rfl; next => (intro _; refine X_fieldAddr T.fd73_1 rfl ⟨rfl, rfl⟩)
      apply DD_read rfl rfl; next => ((first | refine S_load1 H 0 T.ty69 rfl rfl (v := .map (some m.r)) rfl ⟨rfl, rfl⟩ | refine S_load1 H 1 T.ty69 rfl rfl (v := .map (some m.r)) rfl ⟨rfl, rfl⟩ | refine S_load1 H 2 T.ty69 rfl rfl (v := .map (some m.r)) rfl ⟨rfl, rfl⟩ | refine S_load1 H 3 T.ty69 rfl rfl (v := .map (some m.r)) rfl ⟨rfl, rfl⟩ | refine S_load1 H 4 T.ty69 rfl rfl (v := .map (some m.r)) rfl ⟨rfl, rfl⟩ | refine S_load1 H 5 T.ty69 rfl rfl (v := .map (some m.r)) rfl ⟨rfl, rfl⟩ | refine S_load1 H 6 T.ty69 rfl rfl (v := .map (some m.r)) rfl ⟨rfl, rfl⟩ | refine S_load1 H 7 T.ty69 rfl rfl (v := .map (some m.r)) rfl ⟨rfl, rfl⟩ | refine S_load1 H 8 T.ty69 rfl rfl (v := .map (some m.r)) rfl ⟨rfl, rfl⟩ | refine S_load1 H 9 T.ty69 rfl rfl (v := .map (some m.r)) rfl ⟨rfl, rfl⟩))
      apply DD_pure rfl rfl; next => (intro _; refine X_fieldAddr T.fd29_0 rfl ⟨rfl, rfl⟩)
      apply DD_read rfl rfl; next => (refine S_load H 8 T.ty23 rfl rfl (l := s.place.enc) rfl (Nat.le_of_ble_eq_true rfl) ⟨rfl, rfl⟩)
      apply DD_read rfl rfl; next => (refine S_lookup (a := s.place) H 2 pl_law T.mp69 T.ze3 rfl rfl rfl ⟨rfl, rfl⟩)
      apply DD_pure rfl rfl; next => (intro _; refine X_int (e := valE E s.place + 1) rfl rfl rfl ⟨by omega, by omega⟩ ⟨rfl, rfl⟩)
      refine DD_eff rfl rfl ?_; (refine S_entry (a := s.place) H 2 pl_law T.mp69 T.ze3 rfl rfl rfl (fun j hj hidx _ => absurd (hR'.idx_none.2 hz) (by have h2 : idxE E s.place = some j := hidx; rw [h2]; simp)) ?_; intro hidx w H)
      refine ⟨?_, ?_⟩; next => (repeat (first | exact rc_nil | refine rc_skip rfl ?_ | refine rc_true ?_ | (refine rc_read ?_ ?_; next => (refine S_lookup (a := s.place) H 2 pl_law T.mp69 T.ze3 rfl rfl rfl ?_; exact ⟨by rw [val_push0 hidx], rfl⟩))))
      apply DD_pure rfl rfl; next => (intro _; refine X_extract rfl rfl ⟨rfl, rfl⟩)
      refine DD_eff rfl rfl ?_; (refine S_entryStore H 2 rfl rfl rfl rfl (push_stamp hR' s.place) ?_; intro w H)
      refine ⟨by repeat (first | exact rc_nil | refine rc_skip rfl ?_ | refine rc_true ?_), ?_⟩
      refine rest2 (List.modify (E ++ [(s.place, (0 : Int), clock)]) E.length fun x => (x.1, valE E s.place + 1, x.2.2)) (clock + 1) w _ (Keep.cons 0 rfl (Keep.cons 3 rfl (Keep.cons 6 rfl (Keep.cons 7 rfl (Keep.cons 8 rfl (Keep.cons 9 rfl (Keep.cons 16 rfl (Keep.cons 17 rfl (Keep.cons 18 rfl Keep.nil))))))))) ?_ H
      show REF (List.modify (E ++ [(s.place, (0 : Int), clock)]) E.length fun x => (x.1, valE E s.place + 1, x.2.2)) _ _
      rw [push_modify]
      refine cast (congrArg (REF _ _) ?_) (hR'.push hz (v := valE E s.place + 1) (by rw [hR'.val, hz]; decide))
      funext q
      rw [hR'.val]
      by_cases e : q = s.place <;> simp [e]
    · refine W_draw (.p 0 (.p 1 (.p 2 (.p 3 (.p 4 (.p 5 (.p 6 (.p 7 (.e 8 [6, 7] (.p 9 (.e 10 [] .nil .none)) .none))))))))) T.mixed rfl ?_
      replace H := H.drew
      apply DD_pure rfl rfl; next => (intro _; refine X_move rfl ⟨rfl, rfl⟩)
      apply DD_pure rfl rfl; next => (intro _; first | refine X_nil rfl ⟨rfl, rfl⟩ | refine X_nil_func rfl ⟨rfl, rfl⟩)
      apply DD_pure rfl rfl; next => (intro _; refine X_fieldAddr T.fd73_1 rfl ⟨rfl, rfl⟩)
      apply DD_read rfl rfl; next => ((first | refine S_load1 H 0 T.ty69 rfl rfl (v := .map (some m.r)) rfl ⟨rfl, rfl⟩ | refine S_load1 H 1 T.ty69 rfl rfl (v := .map (some m.r)) rfl ⟨rfl, rfl⟩ | refine S_load1 H 2 T.ty69 rfl rfl (v := .map (some m.r)) rfl ⟨rfl, rfl⟩ | refine S_load1 H 3 T.ty69 rfl rfl (v := .map (some m.r)) rfl ⟨rfl, rfl⟩ | refine S_load1 H 4 T.ty69 rfl rfl (v := .map (some m.r)) rfl ⟨rfl, rfl⟩ | refine S_load1 H 5 T.ty69 rfl rfl (v := .map (some m.r)) rfl ⟨rfl, rfl⟩ | refine S_load1 H 6 T.ty69 rfl rfl (v := .map (some m.r)) rfl ⟨rfl, rfl⟩ | refine S_load1 H 7 T.ty69 rfl rfl (v := .map (some m.r)) rfl ⟨rfl, rfl⟩ | refine S_load1 H 8 T.ty69 rfl rfl (v := .map (some m.r)) rfl ⟨rfl, rfl⟩ | refine S_load1 H 9 T.ty69 rfl rfl (v := .map (some m.r)) rfl ⟨rfl, rfl⟩))
      apply DD_pure rfl rfl; next => (intro _; refine X_fieldAddr T.fd29_0 rfl ⟨rfl, rfl⟩)
      apply DD_read rfl rfl; next => (refine S_load H 8 T.ty23 rfl rfl (l := s.place.enc) rfl (Nat.le_of_ble_eq_true rfl) ⟨rfl, rfl⟩)
      apply DD_read rfl rfl; next => (refine S_lookup (a := s.place) H 2 pl_law T.mp69 T.ze3 rfl rfl rfl ⟨rfl, rfl⟩)
      apply DD_pure rfl rfl; next => (intro _; refine X_int (e := valE E s.place + 1) rfl rfl rfl ⟨by omega, by omega⟩ ⟨rfl, rfl⟩)
      refine DD_eff rfl rfl ?_; (refine S_entry (a := s.place) H 2 pl_law T.mp69 T.ze3 rfl rfl rfl ?_ (fun hn => absurd (hR'.idx_none.1 hn) hz); intro j hj hidx hja w H)
      refine ⟨?_, ?_⟩; next => (repeat (first | exact rc_nil | refine rc_skip rfl ?_ | refine rc_true ?_ | (refine rc_read ?_ ?_; next => (first | (refine S_lookup (a := s.place) H 2 pl_law T.mp69 T.ze3 rfl rfl rfl ⟨rfl, rfl⟩)))))
      apply DD_pure rfl rfl; next => (intro _; refine X_extract rfl rfl ⟨rfl, rfl⟩)
      refine DD_eff rfl rfl ?_; (refine S_entryStore H 2 rfl rfl rfl rfl (stamp_idx hR'.borns hj) ?_; intro w H)
      refine ⟨by repeat (first | exact rc_nil | refine rc_skip rfl ?_ | refine rc_true ?_), ?_⟩
      refine rest2 (E.modify j fun x => (x.1, valE E s.place + 1, x.2.2)) clock w _ (Keep.cons 0 rfl (Keep.cons 3 rfl (Keep.cons 6 rfl (Keep.cons 7 rfl (Keep.cons 8 rfl (Keep.cons 9 rfl (Keep.cons 16 rfl (Keep.cons 17 rfl (Keep.cons 18 rfl Keep.nil))))))))) ?_ H
      have hp := (cnt_le (m.mid s i).l s.place).1
      refine cast (congrArg (REF _ _) ?_) (hR'.modify hidx (v := valE E s.place + 1) (by rw [hR'.val]; omega))
      funext q
      rw [hR'.val]
      by_cases e : q = s.place <;> simp [e]
  cases c with
  | none =>
    refine W_seq_k fun K13 hK13 => ?_
    refine W_reg rfl ?_
    refine RL_some ?_; (refine X_fieldAddr T.fd76_0 rfl ?_)
    refine RL_some ?_; ((first | refine S_load1 H 0 T.ty4 rfl rfl (v := .bool false) rfl ?_ | refine S_load1 H 1 T.ty4 rfl rfl (v := .bool false) rfl ?_ | refine S_load1 H 2 T.ty4 rfl rfl (v := .bool false) rfl ?_ | refine S_load1 H 3 T.ty4 rfl rfl (v := .bool false) rfl ?_ | refine S_load1 H 4 T.ty4 rfl rfl (v := .bool false) rfl ?_ | refine S_load1 H 5 T.ty4 rfl rfl (v := .bool false) rfl ?_ | refine S_load1 H 6 T.ty4 rfl rfl (v := .bool false) rfl ?_ | refine S_load1 H 7 T.ty4 rfl rfl (v := .bool false) rfl ?_ | refine S_load1 H 8 T.ty4 rfl rfl (v := .bool false) rfl ?_ | refine S_load1 H 9 T.ty4 rfl rfl (v := .bool false) rfl ?_))
    refine RL_some ?_; (refine X_move rfl ?_)
    (first | refine RL_off rfl rfl ?_ | refine RL_off' rfl rfl ?_ | (refine RL_on rfl rfl ?_; ((first | refine S_load H 0 T.ty29 rfl rfl rfl (Nat.le_of_ble_eq_true rfl) ?_ | refine S_load H 1 T.ty29 rfl rfl rfl (Nat.le_of_ble_eq_true rfl) ?_ | refine S_load H 2 T.ty29 rfl rfl rfl (Nat.le_of_ble_eq_true rfl) ?_ | refine S_load H 3 T.ty29 rfl rfl rfl (Nat.le_of_ble_eq_true rfl) ?_ | refine S_load H 4 T.ty29 rfl rfl rfl (Nat.le_of_ble_eq_true rfl) ?_ | refine S_load H 5 T.ty29 rfl rfl rfl (Nat.le_of_ble_eq_true rfl) ?_ | refine S_load H 6 T.ty29 rfl rfl rfl (Nat.le_of_ble_eq_true rfl) ?_ | refine S_load H 7 T.ty29 rfl rfl rfl (Nat.le_of_ble_eq_true rfl) ?_ | refine S_load H 8 T.ty29 rfl rfl rfl (Nat.le_of_ble_eq_true rfl) ?_ | refine S_load H 9 T.ty29 rfl rfl rfl (Nat.le_of_ble_eq_true rfl) ?_))))
    (first | refine RL_off rfl rfl ?_ | refine RL_off' rfl rfl ?_ | (refine RL_on rfl rfl ?_; (refine X_fieldAddr T.fd76_1 rfl ?_)))
    (first | refine RL_off rfl rfl ?_ | refine RL_off' rfl rfl ?_ | (refine RL_on rfl rfl ?_; ((first | refine S_load H 0 T.ty29 rfl rfl rfl (Nat.le_of_ble_eq_true rfl) ?_ | refine S_load H 1 T.ty29 rfl rfl rfl (Nat.le_of_ble_eq_true rfl) ?_ | refine S_load H 2 T.ty29 rfl rfl rfl (Nat.le_of_ble_eq_true rfl) ?_ | refine S_load H 3 T.ty29 rfl rfl rfl (Nat.le_of_ble_eq_true rfl) ?_ | refine S_load H 4 T.ty29 rfl rfl rfl (Nat.le_of_ble_eq_true rfl) ?_ | refine S_load H 5 T.ty29 rfl rfl rfl (Nat.le_of_ble_eq_true rfl) ?_ | refine S_load H 6 T.ty29 rfl rfl rfl (Nat.le_of_ble_eq_true rfl) ?_ | refine S_load H 7 T.ty29 rfl rfl rfl (Nat.le_of_ble_eq_true rfl) ?_ | refine S_load H 8 T.ty29 rfl rfl rfl (Nat.le_of_ble_eq_true rfl) ?_ | refine S_load H 9 T.ty29 rfl rfl rfl (Nat.le_of_ble_eq_true rfl) ?_))))
    (first | refine RL_off rfl rfl ?_ | refine RL_off' rfl rfl ?_ | (refine RL_on rfl rfl ?_; (refine X_call T.ent8 rfl ?_)))
    (first | refine RL_off rfl rfl ?_ | refine RL_off' rfl rfl ?_ | (refine RL_on rfl rfl ?_; (refine X_not rfl ?_)))
    refine RL_some ?_; (refine X_pick rfl rfl ?_)
    refine hK13 _ _ (W_keep (Keep.cons 0 rfl (Keep.cons 3 rfl (Keep.cons 6 rfl (Keep.cons 7 rfl (Keep.cons 8 rfl (Keep.cons 9 rfl (Keep.cons 16 rfl (Keep.cons 17 rfl (Keep.cons 18 rfl (Keep.cons 31 rfl Keep.nil)))))))))) ?_)
    refine W_false rfl (W_skip (rest rfl w _ (Keep.cons 0 rfl (Keep.cons 3 rfl (Keep.cons 6 rfl (Keep.cons 7 rfl (Keep.cons 8 rfl (Keep.cons 9 rfl (Keep.cons 16 rfl (Keep.cons 17 rfl (Keep.cons 18 rfl Keep.nil))))))))) H))
  | some o =>
    cases hn : newer s o with
    | true =>
      refine W_seq_k fun K13 hK13 => ?_
      refine W_reg rfl ?_
      refine RL_some ?_; (refine X_fieldAddr T.fd76_0 rfl ?_)
      refine RL_some ?_; ((first | refine S_load1 H 0 T.ty4 rfl rfl (v := .bool true) rfl ?_ | refine S_load1 H 1 T.ty4 rfl rfl (v := .bool true) rfl ?_ | refine S_load1 H 2 T.ty4 rfl rfl (v := .bool true) rfl ?_ | refine S_load1 H 3 T.ty4 rfl rfl (v := .bool true) rfl ?_ | refine S_load1 H 4 T.ty4 rfl rfl (v := .bool true) rfl ?_ | refine S_load1 H 5 T.ty4 rfl rfl (v := .bool true) rfl ?_ | refine S_load1 H 6 T.ty4 rfl rfl (v := .bool true) rfl ?_ | refine S_load1 H 7 T.ty4 rfl rfl (v := .bool true) rfl ?_ | refine S_load1 H 8 T.ty4 rfl rfl (v := .bool true) rfl ?_ | refine S_load1 H 9 T.ty4 rfl rfl (v := .bool true) rfl ?_))
      refine RL_some ?_; (refine X_move rfl ?_)
      (first | refine RL_off rfl rfl ?_ | refine RL_off' rfl rfl ?_ | (refine RL_on rfl rfl ?_; (refine S_load H 8 T.ty29 rfl rfl (l := s.enc) rfl (Nat.le_of_ble_eq_true rfl) ?_)))
      (first | refine RL_off rfl rfl ?_ | refine RL_off' rfl rfl ?_ | (refine RL_on rfl rfl ?_; (refine X_fieldAddr T.fd76_1 rfl ?_)))
      (first | refine RL_off rfl rfl ?_ | refine RL_off' rfl rfl ?_ | (refine RL_on rfl rfl ?_; ((first | refine S_load H 0 T.ty29 rfl rfl (l := o.enc) rfl (Nat.le_of_ble_eq_true rfl) ?_ | refine S_load H 1 T.ty29 rfl rfl (l := o.enc) rfl (Nat.le_of_ble_eq_true rfl) ?_ | refine S_load H 2 T.ty29 rfl rfl (l := o.enc) rfl (Nat.le_of_ble_eq_true rfl) ?_ | refine S_load H 3 T.ty29 rfl rfl (l := o.enc) rfl (Nat.le_of_ble_eq_true rfl) ?_ | refine S_load H 4 T.ty29 rfl rfl (l := o.enc) rfl (Nat.le_of_ble_eq_true rfl) ?_ | refine S_load H 5 T.ty29 rfl rfl (l := o.enc) rfl (Nat.le_of_ble_eq_true rfl) ?_ | refine S_load H 6 T.ty29 rfl rfl (l := o.enc) rfl (Nat.le_of_ble_eq_true rfl) ?_ | refine S_load H 7 T.ty29 rfl rfl (l := o.enc) rfl (Nat.le_of_ble_eq_true rfl) ?_ | refine S_load H 8 T.ty29 rfl rfl (l := o.enc) rfl (Nat.le_of_ble_eq_true rfl) ?_ | refine S_load H 9 T.ty29 rfl rfl (l := o.enc) rfl (Nat.le_of_ble_eq_true rfl) ?_))))
      (first | refine RL_off rfl rfl ?_ | refine RL_off' rfl rfl ?_ | (refine RL_on rfl rfl ?_; (refine X_call T.ent8 rfl ?_; refine Newer_calls s o H rfl ?_; intro w H; rw [hn])))
      (first | refine RL_off rfl rfl ?_ | refine RL_off' rfl rfl ?_ | (refine RL_on rfl rfl ?_; (refine X_not rfl ?_)))
      refine RL_some ?_; (refine X_pick rfl rfl ?_)
      refine hK13 _ _ (W_keep (Keep.cons 0 rfl (Keep.cons 3 rfl (Keep.cons 6 rfl (Keep.cons 7 rfl (Keep.cons 8 rfl (Keep.cons 9 rfl (Keep.cons 16 rfl (Keep.cons 17 rfl (Keep.cons 18 rfl (Keep.cons 31 rfl Keep.nil)))))))))) ?_)
      refine W_false rfl (W_skip (rest (by simp [stepC, hn]) w _ (Keep.cons 0 rfl (Keep.cons 3 rfl (Keep.cons 6 rfl (Keep.cons 7 rfl (Keep.cons 8 rfl (Keep.cons 9 rfl (Keep.cons 16 rfl (Keep.cons 17 rfl (Keep.cons 18 rfl Keep.nil))))))))) H))
    | false =>
      refine W_seq_k fun K13 hK13 => ?_
      refine W_reg rfl ?_
      refine RL_some ?_; (refine X_fieldAddr T.fd76_0 rfl ?_)
      refine RL_some ?_; ((first | refine S_load1 H 0 T.ty4 rfl rfl (v := .bool true) rfl ?_ | refine S_load1 H 1 T.ty4 rfl rfl (v := .bool true) rfl ?_ | refine S_load1 H 2 T.ty4 rfl rfl (v := .bool true) rfl ?_ | refine S_load1 H 3 T.ty4 rfl rfl (v := .bool true) rfl ?_ | refine S_load1 H 4 T.ty4 rfl rfl (v := .bool true) rfl ?_ | refine S_load1 H 5 T.ty4 rfl rfl (v := .bool true) rfl ?_ | refine S_load1 H 6 T.ty4 rfl rfl (v := .bool true) rfl ?_ | refine S_load1 H 7 T.ty4 rfl rfl (v := .bool true) rfl ?_ | refine S_load1 H 8 T.ty4 rfl rfl (v := .bool true) rfl ?_ | refine S_load1 H 9 T.ty4 rfl rfl (v := .bool true) rfl ?_))
      refine RL_some ?_; (refine X_move rfl ?_)
      (first | refine RL_off rfl rfl ?_ | refine RL_off' rfl rfl ?_ | (refine RL_on rfl rfl ?_; (refine S_load H 8 T.ty29 rfl rfl (l := s.enc) rfl (Nat.le_of_ble_eq_true rfl) ?_)))
      (first | refine RL_off rfl rfl ?_ | refine RL_off' rfl rfl ?_ | (refine RL_on rfl rfl ?_; (refine X_fieldAddr T.fd76_1 rfl ?_)))
      (first | refine RL_off rfl rfl ?_ | refine RL_off' rfl rfl ?_ | (refine RL_on rfl rfl ?_; ((first | refine S_load H 0 T.ty29 rfl rfl (l := o.enc) rfl (Nat.le_of_ble_eq_true rfl) ?_ | refine S_load H 1 T.ty29 rfl rfl (l := o.enc) rfl (Nat.le_of_ble_eq_true rfl) ?_ | refine S_load H 2 T.ty29 rfl rfl (l := o.enc) rfl (Nat.le_of_ble_eq_true rfl) ?_ | refine S_load H 3 T.ty29 rfl rfl (l := o.enc) rfl (Nat.le_of_ble_eq_true rfl) ?_ | refine S_load H 4 T.ty29 rfl rfl (l := o.enc) rfl (Nat.le_of_ble_eq_true rfl) ?_ | refine S_load H 5 T.ty29 rfl rfl (l := o.enc) rfl (Nat.le_of_ble_eq_true rfl) ?_ | refine S_load H 6 T.ty29 rfl rfl (l := o.enc) rfl (Nat.le_of_ble_eq_true rfl) ?_ | refine S_load H 7 T.ty29 rfl rfl (l := o.enc) rfl (Nat.le_of_ble_eq_true rfl) ?_ | refine S_load H 8 T.ty29 rfl rfl (l := o.enc) rfl (Nat.le_of_ble_eq_true rfl) ?_ | refine S_load H 9 T.ty29 rfl rfl (l := o.enc) rfl (Nat.le_of_ble_eq_true rfl) ?_))))
      (first | refine RL_off rfl rfl ?_ | refine RL_off' rfl rfl ?_ | (refine RL_on rfl rfl ?_; (refine X_call T.ent8 rfl ?_; refine Newer_calls s o H rfl ?_; intro w H; rw [hn])))
      (first | refine RL_off rfl rfl ?_ | refine RL_off' rfl rfl ?_ | (refine RL_on rfl rfl ?_; (refine X_not rfl ?_)))
      refine RL_some ?_; (refine X_pick rfl rfl ?_)
      refine hK13 _ _ (W_keep (Keep.cons 0 rfl (Keep.cons 3 rfl (Keep.cons 6 rfl (Keep.cons 7 rfl (Keep.cons 8 rfl (Keep.cons 9 rfl (Keep.cons 16 rfl (Keep.cons 17 rfl (Keep.cons 18 rfl (Keep.cons 31 rfl Keep.nil)))))))))) ?_)
      refine W_true rfl (W_exit ?_)
      simp only [thenQ, blockQ, if_true]
      refine hK10 _ _ (W_keep (Keep.cons 0 rfl (Keep.cons 3 rfl (Keep.cons 6 rfl (Keep.cons 7 rfl (Keep.cons 16 rfl (Keep.cons 17 rfl (Keep.cons 18 rfl Keep.nil))))))) ?_)
      refine W_reg rfl ?_
      refine RL_some ?_; (first | refine X_int rfl rfl rfl (by omega) ?_ | refine X_bin rfl rfl rfl ?_)
      refine RL_some ?_; (refine X_move rfl ?_)
      have hm := mid_old m s i hc hn
      refine ⟨left - 1, by omega, i + 1, E, clock, outs, v, by omega, by rw [hm]; exact hR', by rw [hm]; exact hO, by omega, (Keep.cons 0 rfl (Keep.cons 3 rfl (Keep.cons 6 rfl (Keep.cons 7 rfl (Keep.cons 16 rfl (Keep.cons 17 rfl (Keep.cons 18 rfl Keep.nil))))))), ?_⟩
      rw [hm]
      exact H.drop
end Go.Proofs.Ytinngnckojbpnaa
