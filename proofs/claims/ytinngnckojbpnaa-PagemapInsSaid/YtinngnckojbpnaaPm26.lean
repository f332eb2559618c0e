/- PagemapRuns answers true whatever steps it is given; its argument reads as it did. -/
import Derived.Test.YtinngnckojbpnaaPm25
/-! pagemap: same, PagemapRuns. -/
namespace Go.Proofs.Ytinngnckojbpnaa
open Go.Nep Go.ChangeShapes Go.WideShapes
set_option maxRecDepth 100000
set_option linter.unusedVariables false
set_option linter.unusedSimpArgs false
set_option maxHeartbeats 3200000

theorem Get_pmV (m : PMx) (ns lba : Int) {w0 w : World} {L : List Asn} (H : St w0 w (PM m :: L)) :
    Calls Try.prog 15 #[pt m.p 0, i64 ns, i64 lba] w (After fun v w' => v = spotV (getV m ns lba) ∧ St w0 w' (PM m :: L)) := Get_pm m ns lba H
theorem Size_pm (m : PMx) (ns : Int) {w0 w : World} {L : List Asn} (H : St w0 w (PM m :: L)) :
    Calls Try.prog 23 #[pt m.p 0, i64 ns] w (After fun v w' => v = i64 (sizeOf_ m ns) ∧ St w0 w' (PM m :: L)) := by
  refine calls_to (Size_spec m ns H.open_) ?_
  rintro v w' ⟨rfl, rfl⟩
  exact ⟨rfl, H⟩
theorem Data_pm (m : PMx) (ns : Int) (hlen : (cellsOf m ns).length ≤ 65535) {w0 w : World} {L : List Asn} (H : St w0 w (PM m :: L)) :
    Calls Try.prog 25 #[pt m.p 0, i64 ns] w (After fun v w' => v = i64 (dataM m ns) ∧ St w0 w' (PM m :: L)) := by
  refine calls_to (Data_spec m ns hlen H.open_) ?_
  rintro v w' ⟨rfl, H⟩
  exact ⟨rfl, H.shut⟩
theorem RelM.refs {m : PMx} {z : Z4} {cs : List Cell} (h : RelM m z cs) (a : Pl) {w0 w : World} {L : List Asn} (H : St w0 w (PM m :: L)) :
    Calls Try.prog 18 #[pt m.p 0, pk a] w (After fun v w' => v = i64 (refsD cs a) ∧ St w0 w' (PM m :: L)) := by
  refine calls_to (Refs_spec m a H.open_) ?_
  rintro v w' ⟨rfl, H⟩
  rw [h.ref.val, ← h.rel.refs]
  exact ⟨rfl, H.shut⟩
theorem sizeOf_le {m : PMx} {z : Z4} {cs : List Cell} (h : RelM m z cs) (ns : Int) : sizeOf_ m ns ≤ 40 := by
  unfold sizeOf_
  split
  · exact h.small _ (by omega)
  · omega
theorem cellsOf_le {m : PMx} {z : Z4} {cs : List Cell} (h : RelM m z cs) (ns : Int) : (cellsOf m ns).length ≤ 65535 := by
  unfold cellsOf
  split
  · exact h.big _ (by omega)
  · simp

theorem rspot_eq (d : Nat) (a b : Spot) : EqT Try.prog (d + 3) 32 (.agg a.enc.toArray) (.agg b.enc.toArray) (decide (a = b)) := by
  refine (EqT_struct Try.underlying32 T.sn32 (EqF_cons (by decide) T.ty23 (px := pk a.place) (py := pk b.place) rfl rfl (pl_eq d a.place b.place) (EqF_cons (by decide) T.ty27 (px := .agg a.head.enc.toArray) (py := .agg b.head.enc.toArray) rfl rfl (hd_eq d a.head b.head)
    (EqF_cons (by decide) T.ty27 (px := .agg a.order.enc.toArray) (py := .agg b.order.enc.toArray) rfl rfl (hd_eq d a.order b.order) .nil)))).of ?_
  cases a; cases b
  rw [Bool.eq_iff_iff]
  simp

theorem same_spec {m : PMx} {z : Z4} {cs : List Cell} (h : RelM m z cs) (v : Value) (ns : Int) {w0 w : World} {L : List Asn} (H : St w0 w (PM m :: CT v cs :: L)) :
    Calls Try.prog 20 #[pt m.p 0, .agg (dmc z v), i64 ns] w (After fun r w' => r = .bool true ∧ St w0 w' (PM m :: CT v cs :: L)) := by
  have hlen := h.len
  have hsz := sizeOf_le h ns
  obtain ⟨ad, cap, rfl, _⟩ := H.tabVal' 1 rfl
  refine calls_of_W (N := 79) (args := [pt m.p 0, .agg (dmc z (.slice ad cs.length cap)), i64 ns]) Try.func20 rfl Try.ntmps20 (by simp) ?_
  refine W_seq_k fun K1 hK1 => ?_
  refine W_reg rfl ?_
  refine RL_some ?_; (refine S_box H rfl ?_; intro b4 w H)
  refine RL_some ?_; (refine X_assign rfl ?_)
  refine hK1 _ _ (W_keep (Keep.cons 0 rfl (Keep.cons 2 rfl (Keep.cons 4 rfl Keep.nil))) ?_)
  refine W_seq_k fun K2 hK2 => ?_
  refine W_reg rfl ?_
  refine RL_some ?_; (refine X_assign rfl ?_)
  refine hK2 _ _ (W_keep (Keep.cons 0 rfl (Keep.cons 2 rfl (Keep.cons 4 rfl (Keep.cons 7 rfl Keep.nil)))) ?_)
  refine W_cut (fun pf w => Keep pf [(0, pt m.p 0), (2, i64 ns), (4, pt b4 0), (7, i64 (sizeOf_ m ns))] ∧ St w0 w (Cs b4 (dmc z (.slice ad cs.length cap)) 51 :: PM m :: CT (.slice ad cs.length cap) cs :: L)) ?_ ?_
  · skip
    refine W_seq_k fun K4 hK4 => ?_
    refine W_boolR 17 (0 ≤ ns ∧ ns < 4) [0, 2, 4, 7] H ?_ ?_
    · by_cases e : 0 ≤ ns
      all_goals
        refine W_reg rfl ?_
        refine RL_some ?_; (refine X_move rfl ?_)
        refine RL_some ?_; (first | refine X_cmp_t rfl rfl rfl (by first | assumption | omega) ?_ | refine X_cmp_f rfl rfl rfl (by first | assumption | omega) ?_ | refine X_bin rfl rfl rfl ?_)
        refine RL_some ?_; (refine X_move rfl ?_)
        (first | refine RL_off rfl rfl ?_ | refine RL_off' rfl rfl ?_ | (refine RL_on rfl rfl ?_; (refine X_move rfl ?_)))
        (first | refine RL_off rfl rfl ?_ | refine RL_off' rfl rfl ?_ | (refine RL_on rfl rfl ?_; (first | refine X_cmp_t rfl rfl rfl (by first | assumption | omega) ?_ | refine X_cmp_f rfl rfl rfl (by first | assumption | omega) ?_ | refine X_bin rfl rfl rfl ?_)))
        refine RL_some ?_; (refine X_pick rfl rfl ?_)
        exact ⟨_, by first | (simp [e]; done) | (simp; omega), rfl, ⟨rfl, rfl, rfl, rfl, trivial⟩, H⟩
    intro q w hq H
    skip
    refine hK4 _ _ (W_keep (Keep.cons 0 rfl (Keep.cons 2 rfl (Keep.cons 4 rfl (Keep.cons 7 rfl (Keep.cons 17 rfl Keep.nil))))) ?_)
    refine W_if rfl (fun c => ?_) (fun c => ?_)
    · skip
      have hin := hq.1 c
      refine W_reg rfl ?_
      refine RL_some ?_; (refine X_move rfl ?_)
      refine RL_some ?_; (refine X_fieldAddr T.fd51_0 rfl ?_)
      refine RL_some ?_; (refine X_idxA T.ar48 rfl rfl (by omega) (by omega) ?_)
      refine RL_some ?_; (refine S_load1 (v := i64 (z.get ns.toNat)) H 0 T.ty3 rfl rfl (by have := hq.1 c; rw [Nat.mul_one, Nat.zero_add]; exact dmc_get z _ (by omega)) ?_)
      refine RL_some ?_; (refine X_assign rfl ?_)
      refine ⟨?_, H⟩
      rw [← h.get ns (hq.1 c)]
      exact (Keep.cons 0 rfl (Keep.cons 2 rfl (Keep.cons 4 rfl (Keep.cons 7 rfl Keep.nil))))
    refine W_skip ?_
    refine ⟨?_, H⟩
    have hno : ¬ (0 ≤ ns ∧ ns < 4) := fun e => by rw [hq.2 e] at c; cases c
    rw [show sizeOf_ m ns = 0 by unfold sizeOf_; rw [if_neg hno]]
    exact (Keep.cons 0 rfl (Keep.cons 2 rfl (Keep.cons 4 rfl (Keep.cons 7 rfl Keep.nil))))
  clear H
  rintro pf w ⟨hpf, H⟩
  refine W_keep hpf ?_
  clear hpf
  refine W_seq_k fun K5 hK5 => ?_
  refine W_seq_k fun K6 hK6 => ?_
  refine W_boolR 35 (False) [0, 2, 4, 7] H ?_ ?_
  · skip
    all_goals
      refine W_draw (.p 0 (.p 1 (.p 3 (.e 2 [3] (.p 4 (.p 5 (.p 6 (.p 7 (.p 9 (.p 10 (.e 8 [9, 10] (.e 11 [] (.p 12 (.p 13 .nil)) .none) .none))))))) .none)))) T.mixed rfl ?_
      replace H := H.drew
      apply DD_pure rfl rfl; next => (intro _; refine X_move rfl ⟨rfl, rfl⟩)
      apply DD_pure rfl rfl; next => (intro _; refine X_move rfl ⟨rfl, rfl⟩)
      apply DD_pure rfl rfl; next => (intro _; refine X_move rfl ⟨rfl, rfl⟩)
      refine DD_eff rfl rfl ?_; (refine X_call T.ent23 rfl (calls_to (Size_pm m ns H.swap) ?_); rintro r w ⟨rfl, H⟩; replace H := H.swap)
      refine ⟨by repeat (first | exact rc_nil | refine rc_skip rfl ?_ | refine rc_true ?_), ?_⟩
      apply DD_pure rfl rfl; next => (intro _; first | refine X_ne_t rfl rfl rfl (by first | assumption | omega) ⟨rfl, rfl⟩ | refine X_ne_f rfl rfl rfl (by first | assumption | omega) ⟨rfl, rfl⟩ | refine X_bin rfl rfl rfl ⟨rfl, rfl⟩)
      apply DD_pure rfl rfl; next => (intro _; refine X_move rfl ⟨rfl, rfl⟩)
      (first | refine DD_off rfl rfl rfl rfl ?_ | refine DD_off' rfl rfl rfl rfl ?_ | (apply DD_on rfl rfl rfl rfl; next => (intro _; refine X_move rfl ⟨rfl, rfl⟩)))
      (first | refine DD_off rfl rfl rfl rfl ?_ | refine DD_off' rfl rfl rfl rfl ?_ | (apply DD_on rfl rfl rfl rfl; next => (intro _; refine X_move rfl ⟨rfl, rfl⟩)))
      (first | refine DD_off rfl rfl rfl rfl ?_ | refine DD_off' rfl rfl rfl rfl ?_ | (apply DD_read_on rfl rfl rfl rfl; next => ((first | refine S_load H 0 T.ty51 rfl rfl (l := zl z (.slice ad cs.length cap)) rfl (Nat.le_of_ble_eq_true rfl) ⟨rfl, rfl⟩ | refine S_load H 1 T.ty51 rfl rfl (l := zl z (.slice ad cs.length cap)) rfl (Nat.le_of_ble_eq_true rfl) ⟨rfl, rfl⟩ | refine S_load H 2 T.ty51 rfl rfl (l := zl z (.slice ad cs.length cap)) rfl (Nat.le_of_ble_eq_true rfl) ⟨rfl, rfl⟩ | refine S_load H 3 T.ty51 rfl rfl (l := zl z (.slice ad cs.length cap)) rfl (Nat.le_of_ble_eq_true rfl) ⟨rfl, rfl⟩ | refine S_load H 4 T.ty51 rfl rfl (l := zl z (.slice ad cs.length cap)) rfl (Nat.le_of_ble_eq_true rfl) ⟨rfl, rfl⟩ | refine S_load H 5 T.ty51 rfl rfl (l := zl z (.slice ad cs.length cap)) rfl (Nat.le_of_ble_eq_true rfl) ⟨rfl, rfl⟩ | refine S_load H 6 T.ty51 rfl rfl (l := zl z (.slice ad cs.length cap)) rfl (Nat.le_of_ble_eq_true rfl) ⟨rfl, rfl⟩ | refine S_load H 7 T.ty51 rfl rfl (l := zl z (.slice ad cs.length cap)) rfl (Nat.le_of_ble_eq_true rfl) ⟨rfl, rfl⟩ | refine S_load H 8 T.ty51 rfl rfl (l := zl z (.slice ad cs.length cap)) rfl (Nat.le_of_ble_eq_true rfl) ⟨rfl, rfl⟩ | refine S_load H 9 T.ty51 rfl rfl (l := zl z (.slice ad cs.length cap)) rfl (Nat.le_of_ble_eq_true rfl) ⟨rfl, rfl⟩))))
      (first | refine DD_off rfl rfl rfl rfl ?_ | refine DD_off' rfl rfl rfl rfl ?_ | (apply DD_on rfl rfl rfl rfl; next => (intro _; refine X_move rfl ⟨rfl, rfl⟩)))
      (first | refine DD_eff_off rfl rfl rfl rfl ?_ | (refine DD_eff_on rfl rfl rfl rfl ?_; (refine X_call T.ent25 rfl (calls_to (Data_pm m ns (cellsOf_le h ns) H.swap) ?_); rintro r w ⟨rfl, H⟩; replace H := H.swap)))
      refine ⟨?_, ?_⟩; next => (repeat (first | exact rc_nil | refine rc_skip rfl ?_ | refine rc_true ?_ | (refine rc_read ?_ ?_; next => (first | ((first | refine S_load H 0 T.ty51 rfl rfl (l := zl z (.slice ad cs.length cap)) rfl (Nat.le_of_ble_eq_true rfl) ⟨rfl, rfl⟩ | refine S_load H 1 T.ty51 rfl rfl (l := zl z (.slice ad cs.length cap)) rfl (Nat.le_of_ble_eq_true rfl) ⟨rfl, rfl⟩ | refine S_load H 2 T.ty51 rfl rfl (l := zl z (.slice ad cs.length cap)) rfl (Nat.le_of_ble_eq_true rfl) ⟨rfl, rfl⟩ | refine S_load H 3 T.ty51 rfl rfl (l := zl z (.slice ad cs.length cap)) rfl (Nat.le_of_ble_eq_true rfl) ⟨rfl, rfl⟩ | refine S_load H 4 T.ty51 rfl rfl (l := zl z (.slice ad cs.length cap)) rfl (Nat.le_of_ble_eq_true rfl) ⟨rfl, rfl⟩ | refine S_load H 5 T.ty51 rfl rfl (l := zl z (.slice ad cs.length cap)) rfl (Nat.le_of_ble_eq_true rfl) ⟨rfl, rfl⟩ | refine S_load H 6 T.ty51 rfl rfl (l := zl z (.slice ad cs.length cap)) rfl (Nat.le_of_ble_eq_true rfl) ⟨rfl, rfl⟩ | refine S_load H 7 T.ty51 rfl rfl (l := zl z (.slice ad cs.length cap)) rfl (Nat.le_of_ble_eq_true rfl) ⟨rfl, rfl⟩ | refine S_load H 8 T.ty51 rfl rfl (l := zl z (.slice ad cs.length cap)) rfl (Nat.le_of_ble_eq_true rfl) ⟨rfl, rfl⟩ | refine S_load H 9 T.ty51 rfl rfl (l := zl z (.slice ad cs.length cap)) rfl (Nat.le_of_ble_eq_true rfl) ⟨rfl, rfl⟩))))))
      (first | refine DD_eff_off rfl rfl rfl rfl ?_ | (refine DD_eff_on rfl rfl rfl rfl ?_; (refine X_call T.ent38 rfl (calls_to (rData_spec z _ cs ns (by omega) (H.foc 2 rfl)) ?_); rintro r w ⟨rfl, H⟩; rw [h.rel.data]; replace H := H.back 2 (by simp))))
      refine ⟨by repeat (first | exact rc_nil | refine rc_skip rfl ?_ | refine rc_true ?_), ?_⟩
      (first | refine DD_off rfl rfl rfl rfl ?_ | refine DD_off' rfl rfl rfl rfl ?_ | (apply DD_on rfl rfl rfl rfl; next => (intro _; first | refine X_ne_t rfl rfl rfl (by first | assumption | omega) ⟨rfl, rfl⟩ | refine X_ne_f rfl rfl rfl (by first | assumption | omega) ⟨rfl, rfl⟩ | refine X_bin rfl rfl rfl ⟨rfl, rfl⟩)))
      apply DD_pure rfl rfl; next => (intro _; refine X_pick rfl rfl ⟨rfl, rfl⟩)
      exact ⟨_, by simp, rfl, ⟨rfl, rfl, rfl, rfl, trivial⟩, H⟩
  intro r w hr H
  skip
  refine hK6 _ _ (W_keep (Keep.cons 0 rfl (Keep.cons 2 rfl (Keep.cons 4 rfl (Keep.cons 7 rfl (Keep.cons 35 rfl Keep.nil))))) ?_)
  obtain rfl : r = false := by cases r; rfl; exact (hr.1 rfl).elim
  refine W_false rfl ?_
  refine W_skip ?_
  refine hK5 _ _ (W_keep (Keep.cons 0 rfl (Keep.cons 2 rfl (Keep.cons 4 rfl (Keep.cons 7 rfl (Keep.cons 35 rfl Keep.nil))))) ?_)
  refine W_seq_k fun K7 hK7 => ?_
  refine W_seq_k fun K8 hK8 => ?_
  refine W_reg rfl ?_
  refine RL_some ?_; (refine X_assign rfl ?_)
  refine hK8 _ _ (W_keep (Keep.cons 0 rfl (Keep.cons 2 rfl (Keep.cons 4 rfl (Keep.cons 7 rfl (Keep.cons 8 rfl Keep.nil))))) ?_)
  refine W_block ?_
  refine W_loop (fun left pf w => ∃ i : Nat, i + left = sizeOf_ m ns + 2 ∧ Keep pf [(0, pt m.p 0), (2, i64 ns), (4, pt b4 0), (7, i64 (sizeOf_ m ns)), (8, i64 ((i : Int) - 1))] ∧ St w0 w (Cs b4 (dmc z (.slice ad cs.length cap)) 51 :: PM m :: CT (.slice ad cs.length cap) cs :: L)) (sizeOf_ m ns + 2) ?_ ?_
  · skip
    exact ⟨0, by omega, (Keep.cons 0 rfl (Keep.cons 2 rfl (Keep.cons 4 rfl (Keep.cons 7 rfl (Keep.cons 8 rfl Keep.nil))))), H⟩
  clear H
  rintro left pf w ⟨i, hi, hpf, H⟩
  refine W_keep hpf ?_
  clear hpf
  obtain ⟨lba, hlba⟩ : ∃ lba : Int, lba = (i : Int) - 1 := ⟨_, rfl⟩
  rw [← hlba]
  refine W_seq_k fun K9 hK9 => ?_
  refine W_seq_k fun K10 hK10 => ?_
  refine W_reg rfl ?_
  refine RL_some ?_; (refine X_move rfl ?_)
  refine RL_some ?_; (refine X_move rfl ?_)
  refine RL_some ?_; (first | refine X_cmp_t rfl rfl rfl (by first | assumption | omega) ?_ | refine X_cmp_f rfl rfl rfl (by first | assumption | omega) ?_ | refine X_bin rfl rfl rfl ?_)
  refine hK10 _ _ (W_keep (Keep.cons 0 rfl (Keep.cons 2 rfl (Keep.cons 4 rfl (Keep.cons 7 rfl (Keep.cons 8 rfl (Keep.cons 38 rfl Keep.nil)))))) ?_)
  refine W_if rfl (fun c => ?_) (fun c => ?_)
  · skip
    refine W_skip ?_
    refine hK9 _ _ (W_keep (Keep.cons 0 rfl (Keep.cons 2 rfl (Keep.cons 4 rfl (Keep.cons 7 rfl (Keep.cons 8 rfl (Keep.cons 38 rfl Keep.nil)))))) ?_)
    refine W_seq_k fun K11 hK11 => ?_
    refine W_block ?_
    refine W_seq_k fun K12 hK12 => ?_
    have c := of_decide_eq_true c
    refine W_reg rfl ?_
    refine RL_some ?_; (refine X_move rfl ?_)
    refine RL_some ?_; (refine X_move rfl ?_)
    refine RL_some ?_; (refine X_move rfl ?_)
    refine RL_some ?_; (refine X_call T.ent15 rfl (calls_to (Get_pmV m ns lba H.swap) ?_); rintro r w ⟨rfl, H⟩)
    refine RL_some ?_; (refine X_move rfl ?_)
    refine RL_some ?_; (refine X_extract rfl rfl ?_)
    refine RL_some ?_; (refine X_extract rfl rfl ?_)
    refine RL_some ?_; (refine S_alloc H T.ze29 ?_; intro b9 w H)
    refine RL_none ?_; ((refine S_store H 0 T.ty29 rfl rfl rfl rfl (Nat.le_of_ble_eq_true rfl) rfl (c' := ((getV m ns lba).getD noSpot).enc.toArray) rfl ?_; intro w H))
    refine RL_some ?_; (refine X_assign rfl ?_)
    refine hK12 _ _ (W_keep (Keep.cons 0 rfl (Keep.cons 2 rfl (Keep.cons 4 rfl (Keep.cons 7 rfl (Keep.cons 8 rfl (Keep.cons 9 rfl (Keep.cons 10 rfl Keep.nil))))))) ?_)
    refine W_seq_k fun K13 hK13 => ?_
    refine W_reg rfl ?_
    refine RL_some ?_; (refine S_load H 2 T.ty51 rfl rfl (l := zl z (.slice ad cs.length cap)) rfl (Nat.le_of_ble_eq_true rfl) ?_)
    refine RL_some ?_; (refine X_move rfl ?_)
    refine RL_some ?_; (refine X_move rfl ?_)
    refine RL_some ?_; (refine X_call T.ent39 rfl (calls_to (rPlace_spec z _ cs ns lba (by omega) (H.foc 3 rfl)) ?_); rintro r w ⟨rfl, H⟩; replace H := H.back 3 (by simp))
    refine RL_some ?_; (refine X_assign rfl ?_)
    refine hK13 _ _ (W_keep (Keep.cons 0 rfl (Keep.cons 2 rfl (Keep.cons 4 rfl (Keep.cons 7 rfl (Keep.cons 8 rfl (Keep.cons 9 rfl (Keep.cons 10 rfl (Keep.cons 11 rfl Keep.nil)))))))) ?_)
    refine W_seq_k fun K14 hK14 => ?_
    rcases h.rel.place ns lba with ⟨e1, e2⟩ | ⟨j, x, e1, hx, e2⟩ <;> (rw [e1, e2]; rw [e2] at H)
    · skip
      refine W_boolR 78 (False) [0, 2, 4, 7, 8] H ?_ ?_
      · skip
        all_goals
          refine W_draw (.p 0 (.p 1 (.p 2 (.p 3 (.p 4 (.p 5 (.p 6 (.p 7 (.p 9 (.p 10 (.p 11 (.p 12 (.p 13 (.p 14 (.e 8 [9, 10, 11, 12, 13, 14] (.p 15 (.p 16 (.p 17 (.p 18 (.p 19 (.p 20 (.p 21 (.p 22 (.p 23 (.p 24 (.p 25 (.p 26 .nil)))))))))))) .none))))))))))))))) T.mixed rfl ?_
          replace H := H.drew
          apply DD_pure rfl rfl; next => (intro _; refine X_move rfl ⟨rfl, rfl⟩)
          apply DD_pure rfl rfl; next => (intro _; refine X_move rfl ⟨rfl, rfl⟩)
          apply DD_pure rfl rfl; next => (intro _; first | refine X_cmp_t rfl rfl rfl (by first | assumption | omega) ⟨rfl, rfl⟩ | refine X_cmp_f rfl rfl rfl (by first | assumption | omega) ⟨rfl, rfl⟩ | refine X_bin rfl rfl rfl ⟨rfl, rfl⟩)
          apply DD_pure rfl rfl; next => (intro _; refine X_neB Try.underlying4 rfl rfl ⟨rfl, rfl⟩)
          apply DD_pure rfl rfl; next => (intro _; refine X_move rfl ⟨rfl, rfl⟩)
          (first | refine DD_off rfl rfl rfl rfl ?_ | refine DD_off' rfl rfl rfl rfl ?_ | (apply DD_on rfl rfl rfl rfl; next => (intro _; refine X_move rfl ⟨rfl, rfl⟩)))
          (first | refine DD_off rfl rfl rfl rfl ?_ | refine DD_off' rfl rfl rfl rfl ?_ | (apply DD_on rfl rfl rfl rfl; next => (intro _; refine X_move rfl ⟨rfl, rfl⟩)))
          (first | refine DD_off rfl rfl rfl rfl ?_ | refine DD_off' rfl rfl rfl rfl ?_ | (apply DD_read_on rfl rfl rfl rfl; next => ((first | refine S_load H 0 T.ty29 rfl rfl rfl (Nat.le_of_ble_eq_true rfl) ⟨rfl, rfl⟩ | refine S_load H 1 T.ty29 rfl rfl rfl (Nat.le_of_ble_eq_true rfl) ⟨rfl, rfl⟩ | refine S_load H 2 T.ty29 rfl rfl rfl (Nat.le_of_ble_eq_true rfl) ⟨rfl, rfl⟩ | refine S_load H 3 T.ty29 rfl rfl rfl (Nat.le_of_ble_eq_true rfl) ⟨rfl, rfl⟩ | refine S_load H 4 T.ty29 rfl rfl rfl (Nat.le_of_ble_eq_true rfl) ⟨rfl, rfl⟩ | refine S_load H 5 T.ty29 rfl rfl rfl (Nat.le_of_ble_eq_true rfl) ⟨rfl, rfl⟩ | refine S_load H 6 T.ty29 rfl rfl rfl (Nat.le_of_ble_eq_true rfl) ⟨rfl, rfl⟩ | refine S_load H 7 T.ty29 rfl rfl rfl (Nat.le_of_ble_eq_true rfl) ⟨rfl, rfl⟩ | refine S_load H 8 T.ty29 rfl rfl rfl (Nat.le_of_ble_eq_true rfl) ⟨rfl, rfl⟩ | refine S_load H 9 T.ty29 rfl rfl rfl (Nat.le_of_ble_eq_true rfl) ⟨rfl, rfl⟩))))
          (first | refine DD_off rfl rfl rfl rfl ?_ | refine DD_off' rfl rfl rfl rfl ?_ | (apply DD_on rfl rfl rfl rfl; next => (intro _; refine X_fieldAddr T.fd51_1 rfl ⟨rfl, rfl⟩)))
          (first | refine DD_off rfl rfl rfl rfl ?_ | refine DD_off' rfl rfl rfl rfl ?_ | (apply DD_read_on rfl rfl rfl rfl; next => ((first | refine S_load1 H 0 T.ty49 rfl rfl rfl ⟨rfl, rfl⟩ | refine S_load1 H 1 T.ty49 rfl rfl rfl ⟨rfl, rfl⟩ | refine S_load1 H 2 T.ty49 rfl rfl rfl ⟨rfl, rfl⟩ | refine S_load1 H 3 T.ty49 rfl rfl rfl ⟨rfl, rfl⟩ | refine S_load1 H 4 T.ty49 rfl rfl rfl ⟨rfl, rfl⟩ | refine S_load1 H 5 T.ty49 rfl rfl rfl ⟨rfl, rfl⟩ | refine S_load1 H 6 T.ty49 rfl rfl rfl ⟨rfl, rfl⟩ | refine S_load1 H 7 T.ty49 rfl rfl rfl ⟨rfl, rfl⟩ | refine S_load1 H 8 T.ty49 rfl rfl rfl ⟨rfl, rfl⟩ | refine S_load1 H 9 T.ty49 rfl rfl rfl ⟨rfl, rfl⟩))))
          (first | refine DD_off rfl rfl rfl rfl ?_ | refine DD_off' rfl rfl rfl rfl ?_ | (apply DD_on rfl rfl rfl rfl; next => (intro _; refine X_move rfl ⟨rfl, rfl⟩)))
          (first | refine DD_off rfl rfl rfl rfl ?_ | refine DD_off' rfl rfl rfl rfl ?_ | (apply DD_on rfl rfl rfl rfl; next => (intro _; refine X_idx T.sl49 rfl rfl (by omega) (by omega) ⟨rfl, rfl⟩)))
          (first | refine DD_off rfl rfl rfl rfl ?_ | refine DD_off' rfl rfl rfl rfl ?_ | (apply DD_on rfl rfl rfl rfl; next => (intro _; refine X_fieldAddr T.fd63_2 rfl ⟨rfl, rfl⟩)))
          (first | refine DD_off rfl rfl rfl rfl ?_ | refine DD_off' rfl rfl rfl rfl ?_ | (apply DD_read_on rfl rfl rfl rfl; next => ((first | refine S_load H 0 T.ty32 rfl rfl rfl (Nat.le_of_ble_eq_true rfl) ⟨rfl, rfl⟩ | refine S_load H 1 T.ty32 rfl rfl rfl (Nat.le_of_ble_eq_true rfl) ⟨rfl, rfl⟩ | refine S_load H 2 T.ty32 rfl rfl rfl (Nat.le_of_ble_eq_true rfl) ⟨rfl, rfl⟩ | refine S_load H 3 T.ty32 rfl rfl rfl (Nat.le_of_ble_eq_true rfl) ⟨rfl, rfl⟩ | refine S_load H 4 T.ty32 rfl rfl rfl (Nat.le_of_ble_eq_true rfl) ⟨rfl, rfl⟩ | refine S_load H 5 T.ty32 rfl rfl rfl (Nat.le_of_ble_eq_true rfl) ⟨rfl, rfl⟩ | refine S_load H 6 T.ty32 rfl rfl rfl (Nat.le_of_ble_eq_true rfl) ⟨rfl, rfl⟩ | refine S_load H 7 T.ty32 rfl rfl rfl (Nat.le_of_ble_eq_true rfl) ⟨rfl, rfl⟩ | refine S_load H 8 T.ty32 rfl rfl rfl (Nat.le_of_ble_eq_true rfl) ⟨rfl, rfl⟩ | refine S_load H 9 T.ty32 rfl rfl rfl (Nat.le_of_ble_eq_true rfl) ⟨rfl, rfl⟩))))
          (first | refine DD_eff_off rfl rfl rfl rfl ?_ | (refine DD_eff_on rfl rfl rfl rfl ?_; (refine X_call T.ent10 rfl ?_)))
          refine ⟨?_, ?_⟩; next => (repeat (first | exact rc_nil | refine rc_skip rfl ?_ | refine rc_true ?_ | (refine rc_read ?_ ?_; next => (first | ((first | refine S_load1 H 0 T.ty49 rfl rfl rfl ⟨rfl, rfl⟩ | refine S_load1 H 1 T.ty49 rfl rfl rfl ⟨rfl, rfl⟩ | refine S_load1 H 2 T.ty49 rfl rfl rfl ⟨rfl, rfl⟩ | refine S_load1 H 3 T.ty49 rfl rfl rfl ⟨rfl, rfl⟩ | refine S_load1 H 4 T.ty49 rfl rfl rfl ⟨rfl, rfl⟩ | refine S_load1 H 5 T.ty49 rfl rfl rfl ⟨rfl, rfl⟩ | refine S_load1 H 6 T.ty49 rfl rfl rfl ⟨rfl, rfl⟩ | refine S_load1 H 7 T.ty49 rfl rfl rfl ⟨rfl, rfl⟩ | refine S_load1 H 8 T.ty49 rfl rfl rfl ⟨rfl, rfl⟩ | refine S_load1 H 9 T.ty49 rfl rfl rfl ⟨rfl, rfl⟩)) | ((first | refine S_load H 0 T.ty32 rfl rfl rfl (Nat.le_of_ble_eq_true rfl) ⟨rfl, rfl⟩ | refine S_load H 1 T.ty32 rfl rfl rfl (Nat.le_of_ble_eq_true rfl) ⟨rfl, rfl⟩ | refine S_load H 2 T.ty32 rfl rfl rfl (Nat.le_of_ble_eq_true rfl) ⟨rfl, rfl⟩ | refine S_load H 3 T.ty32 rfl rfl rfl (Nat.le_of_ble_eq_true rfl) ⟨rfl, rfl⟩ | refine S_load H 4 T.ty32 rfl rfl rfl (Nat.le_of_ble_eq_true rfl) ⟨rfl, rfl⟩ | refine S_load H 5 T.ty32 rfl rfl rfl (Nat.le_of_ble_eq_true rfl) ⟨rfl, rfl⟩ | refine S_load H 6 T.ty32 rfl rfl rfl (Nat.le_of_ble_eq_true rfl) ⟨rfl, rfl⟩ | refine S_load H 7 T.ty32 rfl rfl rfl (Nat.le_of_ble_eq_true rfl) ⟨rfl, rfl⟩ | refine S_load H 8 T.ty32 rfl rfl rfl (Nat.le_of_ble_eq_true rfl) ⟨rfl, rfl⟩ | refine S_load H 9 T.ty32 rfl rfl rfl (Nat.le_of_ble_eq_true rfl) ⟨rfl, rfl⟩))))))
          (first | refine DD_off rfl rfl rfl rfl ?_ | refine DD_off' rfl rfl rfl rfl ?_ | (apply DD_on rfl rfl rfl rfl; next => (intro _; fail)))
          (first | refine DD_off rfl rfl rfl rfl ?_ | refine DD_off' rfl rfl rfl rfl ?_ | (apply DD_on rfl rfl rfl rfl; next => (intro _; refine X_pick rfl rfl ⟨rfl, rfl⟩)))
          apply DD_pure rfl rfl; next => (intro _; refine X_pick rfl rfl ⟨rfl, rfl⟩)
          apply DD_pure rfl rfl; next => (intro _; refine X_move rfl ⟨rfl, rfl⟩)
          (first | refine DD_off rfl rfl rfl rfl ?_ | refine DD_off' rfl rfl rfl rfl ?_ | (apply DD_on rfl rfl rfl rfl; next => (intro _; refine X_move rfl ⟨rfl, rfl⟩)))
          (first | refine DD_off rfl rfl rfl rfl ?_ | refine DD_off' rfl rfl rfl rfl ?_ | (apply DD_on rfl rfl rfl rfl; next => (intro _; refine X_not rfl ⟨rfl, rfl⟩)))
          (first | refine DD_off rfl rfl rfl rfl ?_ | refine DD_off' rfl rfl rfl rfl ?_ | (apply DD_on rfl rfl rfl rfl; next => (intro _; refine X_move rfl ⟨rfl, rfl⟩)))
          (first | refine DD_off rfl rfl rfl rfl ?_ | refine DD_off' rfl rfl rfl rfl ?_ | (apply DD_read_on rfl rfl rfl rfl; next => (refine S_load H 0 T.ty29 rfl rfl (l := noSpot.enc) rfl (Nat.le_of_ble_eq_true rfl) ⟨rfl, rfl⟩)))
          (first | refine DD_off rfl rfl rfl rfl ?_ | refine DD_off' rfl rfl rfl rfl ?_ | (apply DD_on rfl rfl rfl rfl; next => (intro _; refine X_build (cells := noSpot.enc.toArray) T.sh29 T.ze29 rfl rfl ⟨rfl, rfl⟩)))
          (first | refine DD_off rfl rfl rfl rfl ?_ | refine DD_off' rfl rfl rfl rfl ?_ | (apply DD_on rfl rfl rfl rfl; next => (intro _; refine X_neS (r := true) T.eg29 ((spot_eq 9997 noSpot noSpot).of (decide_eq_true rfl)) rfl rfl ⟨rfl, rfl⟩)))
          (first | refine DD_off rfl rfl rfl rfl ?_ | refine DD_off' rfl rfl rfl rfl ?_ | (apply DD_on rfl rfl rfl rfl; next => (intro _; refine X_pick rfl rfl ⟨rfl, rfl⟩)))
          apply DD_pure rfl rfl; next => (intro _; refine X_pick rfl rfl ⟨rfl, rfl⟩)
          exact ⟨_, by simp, rfl, ⟨rfl, rfl, rfl, rfl, rfl, trivial⟩, H⟩
      intro r w hr H
      skip
      refine hK14 _ _ (W_keep (Keep.cons 0 rfl (Keep.cons 2 rfl (Keep.cons 4 rfl (Keep.cons 7 rfl (Keep.cons 8 rfl (Keep.cons 78 rfl Keep.nil)))))) ?_)
      obtain rfl : r = false := by cases r; rfl; exact (hr.1 rfl).elim
      refine W_false rfl ?_
      refine W_skip ?_
      refine hK11 _ _ (W_keep (Keep.cons 0 rfl (Keep.cons 2 rfl (Keep.cons 4 rfl (Keep.cons 7 rfl (Keep.cons 8 rfl (Keep.cons 78 rfl Keep.nil)))))) ?_)
      refine W_reg rfl ?_
      refine RL_some ?_; (refine X_move rfl ?_)
      refine RL_some ?_; (first | refine X_int rfl rfl rfl (by omega) ?_ | refine X_bin rfl rfl rfl ?_)
      refine RL_some ?_; (refine X_assign rfl ?_)
      exact ⟨left - 1, by omega, i + 1, by omega, by rw [show ((i + 1 : Nat) : Int) - 1 = lba + 1 by omega]; exact (Keep.cons 0 rfl (Keep.cons 2 rfl (Keep.cons 4 rfl (Keep.cons 7 rfl (Keep.cons 8 rfl Keep.nil))))), (H.drop).swap⟩
    · skip
      have hjl := (List.getElem?_eq_some_iff.1 hx).1
      obtain ⟨g, cap', hv, _⟩ := H.tabPos' 3 rfl (by omega)
      simp only [Value.slice.injEq] at hv
      obtain ⟨rfl, _, rfl⟩ := hv
      refine W_boolR 78 (False) [0, 2, 4, 7, 8] H ?_ ?_
      · skip
        all_goals
          refine W_draw (.p 0 (.p 1 (.p 2 (.p 3 (.p 4 (.p 5 (.p 6 (.p 7 (.p 9 (.p 10 (.p 11 (.p 12 (.p 13 (.p 14 (.e 8 [9, 10, 11, 12, 13, 14] (.p 15 (.p 16 (.p 17 (.p 18 (.p 19 (.p 20 (.p 21 (.p 22 (.p 23 (.p 24 (.p 25 (.p 26 .nil)))))))))))) .none))))))))))))))) T.mixed rfl ?_
          replace H := H.drew
          apply DD_pure rfl rfl; next => (intro _; refine X_move rfl ⟨rfl, rfl⟩)
          apply DD_pure rfl rfl; next => (intro _; refine X_move rfl ⟨rfl, rfl⟩)
          apply DD_pure rfl rfl; next => (intro _; first | refine X_cmp_t rfl rfl rfl (by first | assumption | omega) ⟨rfl, rfl⟩ | refine X_cmp_f rfl rfl rfl (by first | assumption | omega) ⟨rfl, rfl⟩ | refine X_bin rfl rfl rfl ⟨rfl, rfl⟩)
          apply DD_pure rfl rfl; next => (intro _; refine X_neB Try.underlying4 rfl rfl ⟨rfl, rfl⟩)
          apply DD_pure rfl rfl; next => (intro _; refine X_move rfl ⟨rfl, rfl⟩)
          (first | refine DD_off rfl rfl rfl rfl ?_ | refine DD_off' rfl rfl rfl rfl ?_ | (apply DD_on rfl rfl rfl rfl; next => (intro _; refine X_move rfl ⟨rfl, rfl⟩)))
          (first | refine DD_off rfl rfl rfl rfl ?_ | refine DD_off' rfl rfl rfl rfl ?_ | (apply DD_on rfl rfl rfl rfl; next => (intro _; refine X_move rfl ⟨rfl, rfl⟩)))
          (first | refine DD_off rfl rfl rfl rfl ?_ | refine DD_off' rfl rfl rfl rfl ?_ | (apply DD_read_on rfl rfl rfl rfl; next => (refine S_load H 0 T.ty29 rfl rfl (l := x.s.enc) rfl (Nat.le_of_ble_eq_true rfl) ⟨rfl, rfl⟩)))
          (first | refine DD_off rfl rfl rfl rfl ?_ | refine DD_off' rfl rfl rfl rfl ?_ | (apply DD_on rfl rfl rfl rfl; next => (intro _; refine X_fieldAddr T.fd51_1 rfl ⟨rfl, rfl⟩)))
          (first | refine DD_off rfl rfl rfl rfl ?_ | refine DD_off' rfl rfl rfl rfl ?_ | (apply DD_read_on rfl rfl rfl rfl; next => ((first | refine S_load1 H 0 T.ty49 rfl rfl (v := sl g 0 cs.length cap) rfl ⟨rfl, rfl⟩ | refine S_load1 H 1 T.ty49 rfl rfl (v := sl g 0 cs.length cap) rfl ⟨rfl, rfl⟩ | refine S_load1 H 2 T.ty49 rfl rfl (v := sl g 0 cs.length cap) rfl ⟨rfl, rfl⟩ | refine S_load1 H 3 T.ty49 rfl rfl (v := sl g 0 cs.length cap) rfl ⟨rfl, rfl⟩ | refine S_load1 H 4 T.ty49 rfl rfl (v := sl g 0 cs.length cap) rfl ⟨rfl, rfl⟩ | refine S_load1 H 5 T.ty49 rfl rfl (v := sl g 0 cs.length cap) rfl ⟨rfl, rfl⟩ | refine S_load1 H 6 T.ty49 rfl rfl (v := sl g 0 cs.length cap) rfl ⟨rfl, rfl⟩ | refine S_load1 H 7 T.ty49 rfl rfl (v := sl g 0 cs.length cap) rfl ⟨rfl, rfl⟩ | refine S_load1 H 8 T.ty49 rfl rfl (v := sl g 0 cs.length cap) rfl ⟨rfl, rfl⟩ | refine S_load1 H 9 T.ty49 rfl rfl (v := sl g 0 cs.length cap) rfl ⟨rfl, rfl⟩))))
          (first | refine DD_off rfl rfl rfl rfl ?_ | refine DD_off' rfl rfl rfl rfl ?_ | (apply DD_on rfl rfl rfl rfl; next => (intro _; refine X_move rfl ⟨rfl, rfl⟩)))
          (first | refine DD_off rfl rfl rfl rfl ?_ | refine DD_off' rfl rfl rfl rfl ?_ | (apply DD_on rfl rfl rfl rfl; next => (intro _; refine X_idx T.sl49 rfl rfl (by omega) (by omega) ⟨rfl, rfl⟩)))
          (first | refine DD_off rfl rfl rfl rfl ?_ | refine DD_off' rfl rfl rfl rfl ?_ | (apply DD_on rfl rfl rfl rfl; next => (intro _; refine X_fieldAddr T.fd63_2 rfl ⟨rfl, rfl⟩)))
          (first | refine DD_off rfl rfl rfl rfl ?_ | refine DD_off' rfl rfl rfl rfl ?_ | (apply DD_read_on rfl rfl rfl rfl; next => (refine S_loadT H 3 T.ty32 rfl cell_len rfl (j := j) (o := 2) (by omega) hx (by decide) (l := x.s.enc) rfl ⟨rfl, rfl⟩)))
          (first | refine DD_eff_off rfl rfl rfl rfl ?_ | (refine DD_eff_on rfl rfl rfl rfl ?_; (refine X_call T.ent10 rfl ?_; refine of_calls x.s H rfl ?_; intro w H)))
          refine ⟨?_, ?_⟩; next => (repeat (first | exact rc_nil | refine rc_skip rfl ?_ | refine rc_true ?_ | (refine rc_read ?_ ?_; next => (first | ((first | refine S_load1 H 0 T.ty49 rfl rfl (v := sl g 0 cs.length cap) rfl ⟨rfl, rfl⟩ | refine S_load1 H 1 T.ty49 rfl rfl (v := sl g 0 cs.length cap) rfl ⟨rfl, rfl⟩ | refine S_load1 H 2 T.ty49 rfl rfl (v := sl g 0 cs.length cap) rfl ⟨rfl, rfl⟩ | refine S_load1 H 3 T.ty49 rfl rfl (v := sl g 0 cs.length cap) rfl ⟨rfl, rfl⟩ | refine S_load1 H 4 T.ty49 rfl rfl (v := sl g 0 cs.length cap) rfl ⟨rfl, rfl⟩ | refine S_load1 H 5 T.ty49 rfl rfl (v := sl g 0 cs.length cap) rfl ⟨rfl, rfl⟩ | refine S_load1 H 6 T.ty49 rfl rfl (v := sl g 0 cs.length cap) rfl ⟨rfl, rfl⟩ | refine S_load1 H 7 T.ty49 rfl rfl (v := sl g 0 cs.length cap) rfl ⟨rfl, rfl⟩ | refine S_load1 H 8 T.ty49 rfl rfl (v := sl g 0 cs.length cap) rfl ⟨rfl, rfl⟩ | refine S_load1 H 9 T.ty49 rfl rfl (v := sl g 0 cs.length cap) rfl ⟨rfl, rfl⟩)) | (refine S_loadT H 3 T.ty32 rfl cell_len rfl (j := j) (o := 2) (by omega) hx (by decide) (l := x.s.enc) rfl ⟨rfl, rfl⟩)))))
          (first | refine DD_off rfl rfl rfl rfl ?_ | refine DD_off' rfl rfl rfl rfl ?_ | (apply DD_on rfl rfl rfl rfl; next => (intro _; refine X_neS (r := true) T.eg32 ((rspot_eq 9997 x.s x.s).of (decide_eq_true rfl)) rfl rfl ⟨rfl, rfl⟩)))
          (first | refine DD_off rfl rfl rfl rfl ?_ | refine DD_off' rfl rfl rfl rfl ?_ | (apply DD_on rfl rfl rfl rfl; next => (intro _; refine X_pick rfl rfl ⟨rfl, rfl⟩)))
          apply DD_pure rfl rfl; next => (intro _; refine X_pick rfl rfl ⟨rfl, rfl⟩)
          apply DD_pure rfl rfl; next => (intro _; refine X_move rfl ⟨rfl, rfl⟩)
          (first | refine DD_off rfl rfl rfl rfl ?_ | refine DD_off' rfl rfl rfl rfl ?_ | (apply DD_on rfl rfl rfl rfl; next => (intro _; refine X_move rfl ⟨rfl, rfl⟩)))
          (first | refine DD_off rfl rfl rfl rfl ?_ | refine DD_off' rfl rfl rfl rfl ?_ | (apply DD_on rfl rfl rfl rfl; next => (intro _; refine X_not rfl ⟨rfl, rfl⟩)))
          (first | refine DD_off rfl rfl rfl rfl ?_ | refine DD_off' rfl rfl rfl rfl ?_ | (apply DD_on rfl rfl rfl rfl; next => (intro _; refine X_move rfl ⟨rfl, rfl⟩)))
          (first | refine DD_off rfl rfl rfl rfl ?_ | refine DD_off' rfl rfl rfl rfl ?_ | (apply DD_read_on rfl rfl rfl rfl; next => (refine S_load H 0 T.ty29 rfl rfl (l := noSpot.enc) rfl (Nat.le_of_ble_eq_true rfl) ⟨rfl, rfl⟩)))
          (first | refine DD_off rfl rfl rfl rfl ?_ | refine DD_off' rfl rfl rfl rfl ?_ | (apply DD_on rfl rfl rfl rfl; next => (intro _; refine X_build (cells := noSpot.enc.toArray) T.sh29 T.ze29 rfl rfl ⟨rfl, rfl⟩)))
          (first | refine DD_off rfl rfl rfl rfl ?_ | refine DD_off' rfl rfl rfl rfl ?_ | (apply DD_on rfl rfl rfl rfl; next => (intro _; refine X_neS (r := true) T.eg29 ((spot_eq 9997 noSpot noSpot).of (decide_eq_true rfl)) rfl rfl ⟨rfl, rfl⟩)))
          (first | refine DD_off rfl rfl rfl rfl ?_ | refine DD_off' rfl rfl rfl rfl ?_ | (apply DD_on rfl rfl rfl rfl; next => (intro _; refine X_pick rfl rfl ⟨rfl, rfl⟩)))
          apply DD_pure rfl rfl; next => (intro _; refine X_pick rfl rfl ⟨rfl, rfl⟩)
          exact ⟨_, by simp, rfl, ⟨rfl, rfl, rfl, rfl, rfl, trivial⟩, H⟩
      intro r w hr H
      skip
      refine hK14 _ _ (W_keep (Keep.cons 0 rfl (Keep.cons 2 rfl (Keep.cons 4 rfl (Keep.cons 7 rfl (Keep.cons 8 rfl (Keep.cons 78 rfl Keep.nil)))))) ?_)
      obtain rfl : r = false := by cases r; rfl; exact (hr.1 rfl).elim
      refine W_false rfl ?_
      refine W_skip ?_
      refine hK11 _ _ (W_keep (Keep.cons 0 rfl (Keep.cons 2 rfl (Keep.cons 4 rfl (Keep.cons 7 rfl (Keep.cons 8 rfl (Keep.cons 78 rfl Keep.nil)))))) ?_)
      refine W_reg rfl ?_
      refine RL_some ?_; (refine X_move rfl ?_)
      refine RL_some ?_; (first | refine X_int rfl rfl rfl (by omega) ?_ | refine X_bin rfl rfl rfl ?_)
      refine RL_some ?_; (refine X_assign rfl ?_)
      exact ⟨left - 1, by omega, i + 1, by omega, by rw [show ((i + 1 : Nat) : Int) - 1 = lba + 1 by omega]; exact (Keep.cons 0 rfl (Keep.cons 2 rfl (Keep.cons 4 rfl (Keep.cons 7 rfl (Keep.cons 8 rfl Keep.nil))))), (H.drop).swap⟩
  refine W_exit ?_
  refine hK7 _ _ (W_keep (Keep.cons 0 rfl (Keep.cons 2 rfl (Keep.cons 4 rfl (Keep.cons 7 rfl (Keep.cons 8 rfl (Keep.cons 38 rfl Keep.nil)))))) ?_)
  refine W_seq_k fun K15 hK15 => ?_
  refine W_reg rfl ?_
  refine RL_some ?_; (refine X_assign rfl ?_)
  refine hK15 _ _ (W_keep (Keep.cons 6 rfl Keep.nil) ?_)
  refine W_ret ?_
  (try simp only [thenQ, blockQ, noGotoQ])
  refine body_tmp (.inr rfl) rfl rfl ?_
  exact ⟨rfl, H.drop⟩

theorem step_calls {m : PMx} {z : Z4} {cs : List Cell} (h : RelM m z cs) (v : Value) (s : StepT) (hl : lightP s) (hok : s.s.ok) {w0 w : World} {L : List Asn} (H : St w0 w (PM m :: CT v cs :: L)) :
    Calls Try.prog 17 #[pt m.p 0, .agg (dmc z v), .agg s.enc.toArray] w (After fun r w' => ∃ m' z' v' cs', r = .tuple #[.agg (dmc z' v'), .bool true] ∧ m'.p = m.p ∧ RelM m' z' cs' ∧ St w0 w' (PM m' :: CT v' cs' :: L)) := by
  refine calls_to (step_spec h v s hl hok H) ?_
  rintro r w' ⟨m', z', v', cs', rfl, hp, h', L', H⟩
  refine ⟨m', z', v', cs', rfl, hp, h', St.dropApp (A := L') (H.perm ?_)⟩
  show ((PM m' :: CT v' cs' :: L') ++ L).Perm (L' ++ ([PM m', CT v' cs'] ++ L))
  rw [← List.append_assoc]
  exact (List.perm_append_comm (l₁ := [PM m', CT v' cs']) (l₂ := L')).append_right L

theorem RelM.new (p r : Nat) : RelM (newM p r) z0 [] := by
  have hc : cnt (newM p r).l = fun _ => 0 := rfl
  refine ⟨⟨by simp, fun c => ?_⟩, by rw [hc]; exact REF.nil, fun k hk => ?_, fun k hk => by show ([] : List (Option Spot)).length ≤ 40; simp, fun q hq => absurd rfl hq⟩
  · constructor
    · intro h; simp at h
    · rintro ⟨_, _, _, h⟩
      have : ([] : List (Option Spot))[c.lba.toNat]? = some (some c.s) := h
      simp at this
  · rcases (by omega : k = 0 ∨ k = 1 ∨ k = 2 ∨ k = 3) with e | e | e | e <;> subst e <;> rfl
theorem stepT_len (s : StepT) : s.enc.length = 19 := rfl

theorem Runs_spec (ss : List StepT) (hss : ∀ s ∈ ss, s.ok) {vl : Value} {w0 : World} (hl : ArgS w0 vl 19 StepT.enc ss) {w : World} {L : List Asn} (H : St w0 w L) :
    Calls Try.prog 5 #[vl] w (After fun v w' => v = .bool true ∧ ∃ L', St w0 w' L') := by
  obtain ⟨al, cl, rfl⟩ := hl.val
  refine calls_of_W (N := 86) (args := [.slice al ss.length cl]) Try.func5 rfl Try.ntmps5 (by simp) ?_
  refine W_seq_k fun K1 hK1 => ?_
  refine W_reg rfl ?_
  refine RL_some ?_; (refine X_assign rfl ?_)
  refine hK1 _ _ (W_keep (Keep.cons 0 rfl Keep.nil) ?_)
  refine W_seq_k fun K2 hK2 => ?_
  refine W_reg rfl ?_
  refine RL_some ?_; (refine X_call T.ent12 rfl (calls_to (New_pm H) ?_); rintro v w ⟨pa, ra, rfl, H⟩)
  refine RL_some ?_; (refine X_assign rfl ?_)
  refine hK2 _ _ (W_keep (Keep.cons 0 rfl (Keep.cons 3 rfl Keep.nil)) ?_)
  refine W_seq_k fun K3 hK3 => ?_
  refine W_reg rfl ?_
  refine RL_some ?_; (refine X_build (cells := dmc z0 nilS) T.sh51 T.ze51 rfl rfl ?_)
  refine RL_some ?_; (refine S_alloc H T.ze51 ?_; intro b4 w H)
  refine RL_none ?_; ((refine S_store H 0 T.ty51 rfl rfl rfl rfl (Nat.le_of_ble_eq_true rfl) rfl (c' := dmc z0 nilS) rfl ?_; intro w H))
  refine hK3 _ _ (W_keep (Keep.cons 0 rfl (Keep.cons 3 rfl (Keep.cons 4 rfl Keep.nil))) ?_)
  refine W_seq_k fun K4 hK4 => ?_
  refine W_seq_k fun K5 hK5 => ?_
  refine W_reg rfl ?_
  refine RL_some ?_; (refine X_assign rfl ?_)
  refine hK5 _ _ (W_keep (Keep.cons 0 rfl (Keep.cons 3 rfl (Keep.cons 4 rfl (Keep.cons 5 rfl Keep.nil)))) ?_)
  refine W_block ?_
  refine W_loop (fun left pf w => ∃ (i : Nat) (m : PMx) (z : Z4) (v : Value) (cs : List Cell), i + left = ss.length ∧ m.p = pa ∧ RelM m z cs ∧ Keep pf [(0, .slice al ss.length cl), (3, pt pa 0), (4, pt b4 0), (5, i64 i)] ∧ St w0 w (PM m :: Cs b4 (dmc z v) 51 :: CT v cs :: L)) (ss.length) ?_ ?_
  · skip
    exact ⟨0, newM pa ra, z0, nilS, [], by omega, rfl, RelM.new pa ra, (Keep.cons 0 rfl (Keep.cons 3 rfl (Keep.cons 4 rfl (Keep.cons 5 rfl Keep.nil)))), ((St.tabNil H).foc 1 rfl |>.foc 2 rfl)⟩
  clear H
  rintro left pf w ⟨i, m, z, v, cs, hi, hp, h, hpf, H1⟩
  refine W_keep hpf ?_
  clear hpf
  subst hp
  have H := H1
  clear H1
  refine W_seq_k fun K6 hK6 => ?_
  refine W_seq_k fun K7 hK7 => ?_
  refine W_boolR 18 (i < ss.length ∧ i < 30) [0, 3, 4, 5] H ?_ ?_
  · by_cases e : (i : Int) < ss.length
    all_goals
      refine W_reg rfl ?_
      refine RL_some ?_; (refine X_move rfl ?_)
      refine RL_some ?_; (refine X_move rfl ?_)
      refine RL_some ?_; (refine X_len T.sl47 rfl ?_)
      refine RL_some ?_; (first | refine X_cmp_t rfl rfl rfl (by first | assumption | omega) ?_ | refine X_cmp_f rfl rfl rfl (by first | assumption | omega) ?_ | refine X_bin rfl rfl rfl ?_)
      refine RL_some ?_; (refine X_move rfl ?_)
      (first | refine RL_off rfl rfl ?_ | refine RL_off' rfl rfl ?_ | (refine RL_on rfl rfl ?_; (refine X_move rfl ?_)))
      (first | refine RL_off rfl rfl ?_ | refine RL_off' rfl rfl ?_ | (refine RL_on rfl rfl ?_; (first | refine X_cmp_t rfl rfl rfl (by first | assumption | omega) ?_ | refine X_cmp_f rfl rfl rfl (by first | assumption | omega) ?_ | refine X_bin rfl rfl rfl ?_)))
      refine RL_some ?_; (refine X_pick rfl rfl ?_)
      exact ⟨_, by first | (simp; omega) | simp [e], rfl, ⟨rfl, rfl, rfl, rfl, trivial⟩, H⟩
  intro q w hq H
  skip
  refine hK7 _ _ (W_keep (Keep.cons 0 rfl (Keep.cons 3 rfl (Keep.cons 4 rfl (Keep.cons 5 rfl (Keep.cons 18 rfl Keep.nil))))) ?_)
  refine W_if rfl (fun c => ?_) (fun c => ?_)
  · skip
    refine W_skip ?_
    refine hK6 _ _ (W_keep (Keep.cons 0 rfl (Keep.cons 3 rfl (Keep.cons 4 rfl (Keep.cons 5 rfl (Keep.cons 18 rfl Keep.nil))))) ?_)
    refine W_seq_k fun K8 hK8 => ?_
    refine W_block ?_
    refine W_seq_k fun K9 hK9 => ?_
    refine W_seq_k fun K10 hK10 => ?_
    obtain ⟨c, c30⟩ := hq.1 c
    obtain ⟨x, hx⟩ : ∃ x, ss[i]? = some x := ⟨_, List.getElem?_eq_getElem c⟩
    have hxo := hss x (List.mem_of_getElem? hx)
    obtain ⟨b0, off, cc, ee, fr, had, hcap, hmax, hA⟩ := hl.at_ (by omega)
    obtain rfl := had
    refine W_reg rfl ?_
    refine RL_some ?_; (refine X_move rfl ?_)
    refine RL_some ?_; (refine X_move rfl ?_)
    refine RL_some ?_; (refine X_idx T.sl47 rfl rfl (by omega) (by omega) ?_)
    refine RL_some ?_; (refine S_loadA (l := x.enc) H T.ty54 rfl hA stepT_len hx rfl (o := 0) (by omega) (by decide) rfl ?_)
    refine RL_some ?_; (refine X_call T.ent16 rfl (calls_to (light_spec x H) ?_); rintro r w ⟨rfl, H⟩)
    refine RL_some ?_; (refine X_not rfl ?_)
    refine hK10 _ _ (W_keep (Keep.cons 0 rfl (Keep.cons 3 rfl (Keep.cons 4 rfl (Keep.cons 5 rfl (Keep.cons 26 rfl Keep.nil))))) ?_)
    refine W_if rfl (fun d => ?_) (fun d => ?_)
    · skip
      refine W_exit ?_
      refine hK8 _ _ (W_keep (Keep.cons 0 rfl (Keep.cons 3 rfl (Keep.cons 4 rfl (Keep.cons 5 rfl (Keep.cons 26 rfl Keep.nil))))) ?_)
      refine W_reg rfl ?_
      refine RL_some ?_; (refine X_move rfl ?_)
      refine RL_some ?_; (first | refine X_int rfl rfl rfl (by omega) ?_ | refine X_bin rfl rfl rfl ?_)
      refine RL_some ?_; (refine X_assign rfl ?_)
      exact ⟨left - 1, by omega, i + 1, m, z, v, cs, by omega, rfl, h, (Keep.cons 0 rfl (Keep.cons 3 rfl (Keep.cons 4 rfl (Keep.cons 5 rfl Keep.nil)))), H⟩
    refine W_skip ?_
    refine hK9 _ _ (W_keep (Keep.cons 0 rfl (Keep.cons 3 rfl (Keep.cons 4 rfl (Keep.cons 5 rfl (Keep.cons 26 rfl Keep.nil))))) ?_)
    refine W_seq_k fun K11 hK11 => ?_
    have hlt : lightP x := by simpa using d
    refine W_thenR (fun pf w => ∃ m' z' v' cs' b6, m'.p = m.p ∧ RelM m' z' cs' ∧ Nep.one v' = true ∧ Keep pf [(0, sl b0 off ss.length cl), (3, pt m.p 0), (4, pt b4 0), (5, i64 i), (6, pt b6 0), (7, .bool true)] ∧ St w0 w (Cs b6 (dmc z' v') 51 :: PM m' :: Cs b4 (dmc z v) 51 :: CT v' cs' :: L)) ?_ ?_
    · skip
      refine W_draw (.p 0 (.p 1 (.p 2 (.p 3 (.p 4 (.p 5 (.e 6 [] (.p 7 (.p 8 (.p 9 (.e 10 [0, 1, 2, 3, 4, 5, 7, 8, 9] (.e 11 [9] (.p 12 .nil) .none) .none)))) (.e 10 [0, 1, 2, 3, 4, 5] (.e 6 [] (.p 7 (.p 8 (.p 9 (.e 11 [9] (.p 12 .nil) .none)))) .none) .none)))))))) T.mixed rfl ?_
      replace H := H.drew
      apply DD_pure rfl rfl; next => (intro _; refine X_move rfl ⟨rfl, rfl⟩)
      apply DD_read rfl rfl; next => ((first | refine S_load H 0 T.ty51 rfl rfl (l := zl z v) rfl (Nat.le_of_ble_eq_true rfl) ⟨rfl, rfl⟩ | refine S_load H 1 T.ty51 rfl rfl (l := zl z v) rfl (Nat.le_of_ble_eq_true rfl) ⟨rfl, rfl⟩ | refine S_load H 2 T.ty51 rfl rfl (l := zl z v) rfl (Nat.le_of_ble_eq_true rfl) ⟨rfl, rfl⟩ | refine S_load H 3 T.ty51 rfl rfl (l := zl z v) rfl (Nat.le_of_ble_eq_true rfl) ⟨rfl, rfl⟩ | refine S_load H 4 T.ty51 rfl rfl (l := zl z v) rfl (Nat.le_of_ble_eq_true rfl) ⟨rfl, rfl⟩ | refine S_load H 5 T.ty51 rfl rfl (l := zl z v) rfl (Nat.le_of_ble_eq_true rfl) ⟨rfl, rfl⟩ | refine S_load H 6 T.ty51 rfl rfl (l := zl z v) rfl (Nat.le_of_ble_eq_true rfl) ⟨rfl, rfl⟩ | refine S_load H 7 T.ty51 rfl rfl (l := zl z v) rfl (Nat.le_of_ble_eq_true rfl) ⟨rfl, rfl⟩ | refine S_load H 8 T.ty51 rfl rfl (l := zl z v) rfl (Nat.le_of_ble_eq_true rfl) ⟨rfl, rfl⟩ | refine S_load H 9 T.ty51 rfl rfl (l := zl z v) rfl (Nat.le_of_ble_eq_true rfl) ⟨rfl, rfl⟩))
      apply DD_pure rfl rfl; next => (intro _; refine X_move rfl ⟨rfl, rfl⟩)
      apply DD_pure rfl rfl; next => (intro _; refine X_move rfl ⟨rfl, rfl⟩)
      apply DD_pure rfl rfl; next => (intro _; refine X_idx T.sl47 rfl rfl (by omega) (by omega) ⟨rfl, rfl⟩)
      apply DD_read rfl rfl; next => (refine S_loadA (l := x.enc) H T.ty54 rfl hA stepT_len hx rfl (o := 0) (by omega) (by decide) rfl ⟨rfl, rfl⟩)
      refine DD_alt ?_ ?_
      · skip
        refine DD_eff rfl rfl ?_; (refine X_call T.ent17 rfl (calls_to (step_calls h v x hlt hxo.s (by first | exact (H.foc 2 rfl).foc 1 rfl | exact (H.foc 3 rfl).foc 2 rfl)) ?_); rintro r w ⟨m', z', v', cs', rfl, hp', h', H⟩; have hv' := (H.swap.tabSl).2)
        refine ⟨by repeat (first | exact rc_nil | refine rc_skip rfl ?_ | refine rc_true ?_), ?_⟩
        apply DD_pure rfl rfl; next => (intro _; refine X_move rfl ⟨rfl, rfl⟩)
        apply DD_pure rfl rfl; next => (intro _; refine X_extract rfl rfl ⟨rfl, rfl⟩)
        apply DD_pure rfl rfl; next => (intro _; refine X_extract rfl rfl ⟨rfl, rfl⟩)
        refine DD_eff rfl rfl ?_; (refine S_alloc H T.ze51 ?_; intro b6 w H)
        refine ⟨?_, ?_⟩; next => (repeat (first | exact rc_nil | refine rc_skip rfl ?_ | refine rc_true ?_ | (refine rc_read ?_ ?_; next => (first | ((first | refine S_load H 0 T.ty51 rfl rfl (l := zl z v) rfl (Nat.le_of_ble_eq_true rfl) ⟨rfl, rfl⟩ | refine S_load H 1 T.ty51 rfl rfl (l := zl z v) rfl (Nat.le_of_ble_eq_true rfl) ⟨rfl, rfl⟩ | refine S_load H 2 T.ty51 rfl rfl (l := zl z v) rfl (Nat.le_of_ble_eq_true rfl) ⟨rfl, rfl⟩ | refine S_load H 3 T.ty51 rfl rfl (l := zl z v) rfl (Nat.le_of_ble_eq_true rfl) ⟨rfl, rfl⟩ | refine S_load H 4 T.ty51 rfl rfl (l := zl z v) rfl (Nat.le_of_ble_eq_true rfl) ⟨rfl, rfl⟩ | refine S_load H 5 T.ty51 rfl rfl (l := zl z v) rfl (Nat.le_of_ble_eq_true rfl) ⟨rfl, rfl⟩ | refine S_load H 6 T.ty51 rfl rfl (l := zl z v) rfl (Nat.le_of_ble_eq_true rfl) ⟨rfl, rfl⟩ | refine S_load H 7 T.ty51 rfl rfl (l := zl z v) rfl (Nat.le_of_ble_eq_true rfl) ⟨rfl, rfl⟩ | refine S_load H 8 T.ty51 rfl rfl (l := zl z v) rfl (Nat.le_of_ble_eq_true rfl) ⟨rfl, rfl⟩ | refine S_load H 9 T.ty51 rfl rfl (l := zl z v) rfl (Nat.le_of_ble_eq_true rfl) ⟨rfl, rfl⟩)) | (refine S_loadA (l := x.enc) H T.ty54 rfl hA stepT_len hx rfl (o := 0) (by omega) (by decide) rfl ⟨rfl, rfl⟩)))))
        refine DD_eff rfl rfl ?_; (((first | refine S_store H 0 T.ty51 rfl rfl rfl rfl (Nat.le_of_ble_eq_true rfl) (by show (Nep.one v' && true) = true; simp [hv']) (c' := dmc z' v') rfl ?_ | refine S_store H 1 T.ty51 rfl rfl rfl rfl (Nat.le_of_ble_eq_true rfl) (by show (Nep.one v' && true) = true; simp [hv']) (c' := dmc z' v') rfl ?_ | refine S_store H 2 T.ty51 rfl rfl rfl rfl (Nat.le_of_ble_eq_true rfl) (by show (Nep.one v' && true) = true; simp [hv']) (c' := dmc z' v') rfl ?_ | refine S_store H 3 T.ty51 rfl rfl rfl rfl (Nat.le_of_ble_eq_true rfl) (by show (Nep.one v' && true) = true; simp [hv']) (c' := dmc z' v') rfl ?_ | refine S_store H 4 T.ty51 rfl rfl rfl rfl (Nat.le_of_ble_eq_true rfl) (by show (Nep.one v' && true) = true; simp [hv']) (c' := dmc z' v') rfl ?_ | refine S_store H 5 T.ty51 rfl rfl rfl rfl (Nat.le_of_ble_eq_true rfl) (by show (Nep.one v' && true) = true; simp [hv']) (c' := dmc z' v') rfl ?_ | refine S_store H 6 T.ty51 rfl rfl rfl rfl (Nat.le_of_ble_eq_true rfl) (by show (Nep.one v' && true) = true; simp [hv']) (c' := dmc z' v') rfl ?_ | refine S_store H 7 T.ty51 rfl rfl rfl rfl (Nat.le_of_ble_eq_true rfl) (by show (Nep.one v' && true) = true; simp [hv']) (c' := dmc z' v') rfl ?_ | refine S_store H 8 T.ty51 rfl rfl rfl rfl (Nat.le_of_ble_eq_true rfl) (by show (Nep.one v' && true) = true; simp [hv']) (c' := dmc z' v') rfl ?_ | refine S_store H 9 T.ty51 rfl rfl rfl rfl (Nat.le_of_ble_eq_true rfl) (by show (Nep.one v' && true) = true; simp [hv']) (c' := dmc z' v') rfl ?_); intro w H))
        refine ⟨by repeat (first | exact rc_nil | refine rc_skip rfl ?_ | refine rc_true ?_), ?_⟩
        apply DD_pure rfl rfl; next => (intro _; refine X_assign rfl ⟨rfl, rfl⟩)
        (exact ⟨m', z', v', cs', b6, hp', h', hv', (Keep.cons 0 rfl (Keep.cons 3 rfl (Keep.cons 4 rfl (Keep.cons 5 rfl (Keep.cons 6 rfl (Keep.cons 7 rfl Keep.nil)))))), (by (refine H.perm ?_; repeat (first | exact List.Perm.refl _ | refine permStep 0 rfl ?_ | refine permStep 1 rfl ?_ | refine permStep 2 rfl ?_ | refine permStep 3 rfl ?_ | refine permStep 4 rfl ?_ | refine permStep 5 rfl ?_ | refine permStep 6 rfl ?_ | refine permStep 7 rfl ?_ | refine permStep 8 rfl ?_ | refine permStep 9 rfl ?_ | refine permStep 10 rfl ?_ | refine permStep 11 rfl ?_ | refine permStep 12 rfl ?_ | refine permStep 13 rfl ?_)))⟩)
      refine DD_eff rfl rfl ?_; (refine S_alloc H T.ze51 ?_; intro b6 w H)
      refine ⟨?_, ?_⟩; next => (repeat (first | exact rc_nil | refine rc_skip rfl ?_ | refine rc_true ?_ | (refine rc_read ?_ ?_; next => (first | ((first | refine S_load H 0 T.ty51 rfl rfl (l := zl z v) rfl (Nat.le_of_ble_eq_true rfl) ⟨rfl, rfl⟩ | refine S_load H 1 T.ty51 rfl rfl (l := zl z v) rfl (Nat.le_of_ble_eq_true rfl) ⟨rfl, rfl⟩ | refine S_load H 2 T.ty51 rfl rfl (l := zl z v) rfl (Nat.le_of_ble_eq_true rfl) ⟨rfl, rfl⟩ | refine S_load H 3 T.ty51 rfl rfl (l := zl z v) rfl (Nat.le_of_ble_eq_true rfl) ⟨rfl, rfl⟩ | refine S_load H 4 T.ty51 rfl rfl (l := zl z v) rfl (Nat.le_of_ble_eq_true rfl) ⟨rfl, rfl⟩ | refine S_load H 5 T.ty51 rfl rfl (l := zl z v) rfl (Nat.le_of_ble_eq_true rfl) ⟨rfl, rfl⟩ | refine S_load H 6 T.ty51 rfl rfl (l := zl z v) rfl (Nat.le_of_ble_eq_true rfl) ⟨rfl, rfl⟩ | refine S_load H 7 T.ty51 rfl rfl (l := zl z v) rfl (Nat.le_of_ble_eq_true rfl) ⟨rfl, rfl⟩ | refine S_load H 8 T.ty51 rfl rfl (l := zl z v) rfl (Nat.le_of_ble_eq_true rfl) ⟨rfl, rfl⟩ | refine S_load H 9 T.ty51 rfl rfl (l := zl z v) rfl (Nat.le_of_ble_eq_true rfl) ⟨rfl, rfl⟩)) | (refine S_loadA (l := x.enc) H T.ty54 rfl hA stepT_len hx rfl (o := 0) (by omega) (by decide) rfl ⟨rfl, rfl⟩)))))
      refine DD_eff rfl rfl ?_; (refine X_call T.ent17 rfl (calls_to (step_calls h v x hlt hxo.s (by first | exact (H.foc 2 rfl).foc 1 rfl | exact (H.foc 3 rfl).foc 2 rfl)) ?_); rintro r w ⟨m', z', v', cs', rfl, hp', h', H⟩; have hv' := (H.swap.tabSl).2)
      refine ⟨by repeat (first | exact rc_nil | refine rc_skip rfl ?_ | refine rc_true ?_), ?_⟩
      apply DD_pure rfl rfl; next => (intro _; refine X_move rfl ⟨rfl, rfl⟩)
      apply DD_pure rfl rfl; next => (intro _; refine X_extract rfl rfl ⟨rfl, rfl⟩)
      apply DD_pure rfl rfl; next => (intro _; refine X_extract rfl rfl ⟨rfl, rfl⟩)
      refine DD_eff rfl rfl ?_; (((first | refine S_store H 0 T.ty51 rfl rfl rfl rfl (Nat.le_of_ble_eq_true rfl) (by show (Nep.one v' && true) = true; simp [hv']) (c' := dmc z' v') rfl ?_ | refine S_store H 1 T.ty51 rfl rfl rfl rfl (Nat.le_of_ble_eq_true rfl) (by show (Nep.one v' && true) = true; simp [hv']) (c' := dmc z' v') rfl ?_ | refine S_store H 2 T.ty51 rfl rfl rfl rfl (Nat.le_of_ble_eq_true rfl) (by show (Nep.one v' && true) = true; simp [hv']) (c' := dmc z' v') rfl ?_ | refine S_store H 3 T.ty51 rfl rfl rfl rfl (Nat.le_of_ble_eq_true rfl) (by show (Nep.one v' && true) = true; simp [hv']) (c' := dmc z' v') rfl ?_ | refine S_store H 4 T.ty51 rfl rfl rfl rfl (Nat.le_of_ble_eq_true rfl) (by show (Nep.one v' && true) = true; simp [hv']) (c' := dmc z' v') rfl ?_ | refine S_store H 5 T.ty51 rfl rfl rfl rfl (Nat.le_of_ble_eq_true rfl) (by show (Nep.one v' && true) = true; simp [hv']) (c' := dmc z' v') rfl ?_ | refine S_store H 6 T.ty51 rfl rfl rfl rfl (Nat.le_of_ble_eq_true rfl) (by show (Nep.one v' && true) = true; simp [hv']) (c' := dmc z' v') rfl ?_ | refine S_store H 7 T.ty51 rfl rfl rfl rfl (Nat.le_of_ble_eq_true rfl) (by show (Nep.one v' && true) = true; simp [hv']) (c' := dmc z' v') rfl ?_ | refine S_store H 8 T.ty51 rfl rfl rfl rfl (Nat.le_of_ble_eq_true rfl) (by show (Nep.one v' && true) = true; simp [hv']) (c' := dmc z' v') rfl ?_ | refine S_store H 9 T.ty51 rfl rfl rfl rfl (Nat.le_of_ble_eq_true rfl) (by show (Nep.one v' && true) = true; simp [hv']) (c' := dmc z' v') rfl ?_); intro w H))
      refine ⟨by repeat (first | exact rc_nil | refine rc_skip rfl ?_ | refine rc_true ?_), ?_⟩
      apply DD_pure rfl rfl; next => (intro _; refine X_assign rfl ⟨rfl, rfl⟩)
      (exact ⟨m', z', v', cs', b6, hp', h', hv', (Keep.cons 0 rfl (Keep.cons 3 rfl (Keep.cons 4 rfl (Keep.cons 5 rfl (Keep.cons 6 rfl (Keep.cons 7 rfl Keep.nil)))))), (by (refine H.perm ?_; repeat (first | exact List.Perm.refl _ | refine permStep 0 rfl ?_ | refine permStep 1 rfl ?_ | refine permStep 2 rfl ?_ | refine permStep 3 rfl ?_ | refine permStep 4 rfl ?_ | refine permStep 5 rfl ?_ | refine permStep 6 rfl ?_ | refine permStep 7 rfl ?_ | refine permStep 8 rfl ?_ | refine permStep 9 rfl ?_ | refine permStep 10 rfl ?_ | refine permStep 11 rfl ?_ | refine permStep 12 rfl ?_ | refine permStep 13 rfl ?_)))⟩)
    rintro pf w ⟨m', z', v', cs', b6, hp', h', hv', hpf, H⟩
    refine hK11 _ _ (W_keep hpf ?_)
    refine W_seq_k fun K12 hK12 => ?_
    refine W_reg rfl ?_
    refine RL_some ?_; (refine S_load H 0 T.ty51 rfl rfl (l := zl z' v') rfl (Nat.le_of_ble_eq_true rfl) ?_)
    refine RL_none ?_; ((refine S_store H 2 T.ty51 rfl rfl rfl rfl (Nat.le_of_ble_eq_true rfl) (by show (Nep.one v' && true) = true; simp [hv']) (c' := dmc z' v') rfl ?_; intro w H))
    refine hK12 _ _ (W_keep (Keep.cons 0 rfl (Keep.cons 3 rfl (Keep.cons 4 rfl (Keep.cons 5 rfl (Keep.cons 7 rfl Keep.nil))))) ?_)
    replace H := H.drop
    have hlen' := h'.len
    rw [← hp']
    refine W_seq_k fun K13 hK13 => ?_
    refine W_boolR 75 (False) [0, 3, 4, 5] H ?_ ?_
    · skip
      all_goals
        refine W_draw (.p 0 (.p 1 (.p 2 (.p 3 (.p 4 (.p 5 (.p 6 (.p 7 (.p 8 (.p 9 (.p 11 (.p 12 (.p 13 (.p 14 (.p 15 (.p 16 (.p 17 (.e 10 [11, 12, 13, 14, 15, 16, 17] (.e 18 [] (.p 19 (.p 20 (.p 21 (.p 22 (.p 23 (.p 24 (.p 25 (.p 26 (.p 27 (.p 29 (.p 30 (.p 31 (.p 32 (.p 33 (.p 34 (.e 28 [29, 30, 31, 32, 33, 34] (.e 35 [] (.p 36 (.p 37 .nil)) .none) .none)))))))))))))))) .none) .none)))))))))))))))))) T.mixed rfl ?_
        replace H := H.drew
        apply DD_pure rfl rfl; next => (intro _; refine X_move rfl ⟨rfl, rfl⟩)
        apply DD_pure rfl rfl; next => (intro _; refine X_not rfl ⟨rfl, rfl⟩)
        apply DD_pure rfl rfl; next => (intro _; refine X_move rfl ⟨rfl, rfl⟩)
        (first | refine DD_off rfl rfl rfl rfl ?_ | refine DD_off' rfl rfl rfl rfl ?_ | (apply DD_on rfl rfl rfl rfl; next => (intro _; refine X_move rfl ⟨rfl, rfl⟩)))
        (first | refine DD_off rfl rfl rfl rfl ?_ | refine DD_off' rfl rfl rfl rfl ?_ | (apply DD_on rfl rfl rfl rfl; next => (intro _; refine X_move rfl ⟨rfl, rfl⟩)))
        (first | refine DD_off rfl rfl rfl rfl ?_ | refine DD_off' rfl rfl rfl rfl ?_ | (apply DD_on rfl rfl rfl rfl; next => (intro _; refine X_move rfl ⟨rfl, rfl⟩)))
        (first | refine DD_off rfl rfl rfl rfl ?_ | refine DD_off' rfl rfl rfl rfl ?_ | (apply DD_on rfl rfl rfl rfl; next => (intro _; refine X_idx T.sl47 rfl rfl (by omega) (by omega) ⟨rfl, rfl⟩)))
        (first | refine DD_off rfl rfl rfl rfl ?_ | refine DD_off' rfl rfl rfl rfl ?_ | (apply DD_on rfl rfl rfl rfl; next => (intro _; refine X_fieldAddr T.fd54_3 rfl ⟨rfl, rfl⟩)))
        (first | refine DD_off rfl rfl rfl rfl ?_ | refine DD_off' rfl rfl rfl rfl ?_ | (apply DD_on rfl rfl rfl rfl; next => (intro _; refine X_fieldAddr T.fd29_0 rfl ⟨rfl, rfl⟩)))
        (first | refine DD_off rfl rfl rfl rfl ?_ | refine DD_off' rfl rfl rfl rfl ?_ | (apply DD_read_on rfl rfl rfl rfl; next => (refine S_loadA (l := x.s.place.enc) H T.ty23 rfl hA stepT_len hx rfl (o := 3) (by omega) (by decide) rfl ⟨rfl, rfl⟩)))
        (first | refine DD_off rfl rfl rfl rfl ?_ | refine DD_off' rfl rfl rfl rfl ?_ | (apply DD_read_on rfl rfl rfl rfl; next => ((first | refine S_load H 0 T.ty51 rfl rfl (l := zl z' v') rfl (Nat.le_of_ble_eq_true rfl) ⟨rfl, rfl⟩ | refine S_load H 1 T.ty51 rfl rfl (l := zl z' v') rfl (Nat.le_of_ble_eq_true rfl) ⟨rfl, rfl⟩ | refine S_load H 2 T.ty51 rfl rfl (l := zl z' v') rfl (Nat.le_of_ble_eq_true rfl) ⟨rfl, rfl⟩ | refine S_load H 3 T.ty51 rfl rfl (l := zl z' v') rfl (Nat.le_of_ble_eq_true rfl) ⟨rfl, rfl⟩ | refine S_load H 4 T.ty51 rfl rfl (l := zl z' v') rfl (Nat.le_of_ble_eq_true rfl) ⟨rfl, rfl⟩ | refine S_load H 5 T.ty51 rfl rfl (l := zl z' v') rfl (Nat.le_of_ble_eq_true rfl) ⟨rfl, rfl⟩ | refine S_load H 6 T.ty51 rfl rfl (l := zl z' v') rfl (Nat.le_of_ble_eq_true rfl) ⟨rfl, rfl⟩ | refine S_load H 7 T.ty51 rfl rfl (l := zl z' v') rfl (Nat.le_of_ble_eq_true rfl) ⟨rfl, rfl⟩ | refine S_load H 8 T.ty51 rfl rfl (l := zl z' v') rfl (Nat.le_of_ble_eq_true rfl) ⟨rfl, rfl⟩ | refine S_load H 9 T.ty51 rfl rfl (l := zl z' v') rfl (Nat.le_of_ble_eq_true rfl) ⟨rfl, rfl⟩))))
        (first | refine DD_off rfl rfl rfl rfl ?_ | refine DD_off' rfl rfl rfl rfl ?_ | (apply DD_on rfl rfl rfl rfl; next => (intro _; refine X_move rfl ⟨rfl, rfl⟩)))
        (first | refine DD_off rfl rfl rfl rfl ?_ | refine DD_off' rfl rfl rfl rfl ?_ | (apply DD_on rfl rfl rfl rfl; next => (intro _; refine X_move rfl ⟨rfl, rfl⟩)))
        (first | refine DD_off rfl rfl rfl rfl ?_ | refine DD_off' rfl rfl rfl rfl ?_ | (apply DD_on rfl rfl rfl rfl; next => (intro _; refine X_idx T.sl47 rfl rfl (by omega) (by omega) ⟨rfl, rfl⟩)))
        (first | refine DD_off rfl rfl rfl rfl ?_ | refine DD_off' rfl rfl rfl rfl ?_ | (apply DD_on rfl rfl rfl rfl; next => (intro _; refine X_fieldAddr T.fd54_3 rfl ⟨rfl, rfl⟩)))
        (first | refine DD_off rfl rfl rfl rfl ?_ | refine DD_off' rfl rfl rfl rfl ?_ | (apply DD_on rfl rfl rfl rfl; next => (intro _; refine X_fieldAddr T.fd29_0 rfl ⟨rfl, rfl⟩)))
        (first | refine DD_off rfl rfl rfl rfl ?_ | refine DD_off' rfl rfl rfl rfl ?_ | (apply DD_read_on rfl rfl rfl rfl; next => (refine S_loadA (l := x.s.place.enc) H T.ty23 rfl hA stepT_len hx rfl (o := 3) (by omega) (by decide) rfl ⟨rfl, rfl⟩)))
        (first | refine DD_eff_off rfl rfl rfl rfl ?_ | (refine DD_eff_on rfl rfl rfl rfl ?_; (refine X_call T.ent18 rfl (calls_to (h'.refs x.s.place H) ?_); rintro r w ⟨rfl, H⟩)))
        refine ⟨?_, ?_⟩; next => (repeat (first | exact rc_nil | refine rc_skip rfl ?_ | refine rc_true ?_ | (refine rc_read ?_ ?_; next => (first | ((first | refine S_load H 0 T.ty51 rfl rfl (l := zl z' v') rfl (Nat.le_of_ble_eq_true rfl) ⟨rfl, rfl⟩ | refine S_load H 1 T.ty51 rfl rfl (l := zl z' v') rfl (Nat.le_of_ble_eq_true rfl) ⟨rfl, rfl⟩ | refine S_load H 2 T.ty51 rfl rfl (l := zl z' v') rfl (Nat.le_of_ble_eq_true rfl) ⟨rfl, rfl⟩ | refine S_load H 3 T.ty51 rfl rfl (l := zl z' v') rfl (Nat.le_of_ble_eq_true rfl) ⟨rfl, rfl⟩ | refine S_load H 4 T.ty51 rfl rfl (l := zl z' v') rfl (Nat.le_of_ble_eq_true rfl) ⟨rfl, rfl⟩ | refine S_load H 5 T.ty51 rfl rfl (l := zl z' v') rfl (Nat.le_of_ble_eq_true rfl) ⟨rfl, rfl⟩ | refine S_load H 6 T.ty51 rfl rfl (l := zl z' v') rfl (Nat.le_of_ble_eq_true rfl) ⟨rfl, rfl⟩ | refine S_load H 7 T.ty51 rfl rfl (l := zl z' v') rfl (Nat.le_of_ble_eq_true rfl) ⟨rfl, rfl⟩ | refine S_load H 8 T.ty51 rfl rfl (l := zl z' v') rfl (Nat.le_of_ble_eq_true rfl) ⟨rfl, rfl⟩ | refine S_load H 9 T.ty51 rfl rfl (l := zl z' v') rfl (Nat.le_of_ble_eq_true rfl) ⟨rfl, rfl⟩)) | (refine S_loadA (l := x.s.place.enc) H T.ty23 rfl hA stepT_len hx rfl (o := 3) (by omega) (by decide) rfl ⟨rfl, rfl⟩)))))
        (first | refine DD_eff_off rfl rfl rfl rfl ?_ | (refine DD_eff_on rfl rfl rfl rfl ?_; (refine X_call T.ent19 rfl (calls_to (rRefs_spec z' v' cs' x.s.place (by omega) (H.foc 2 rfl)) ?_); rintro r w ⟨rfl, H⟩; replace H := H.back 2 (by simp))))
        refine ⟨by repeat (first | exact rc_nil | refine rc_skip rfl ?_ | refine rc_true ?_), ?_⟩
        (first | refine DD_off rfl rfl rfl rfl ?_ | refine DD_off' rfl rfl rfl rfl ?_ | (apply DD_on rfl rfl rfl rfl; next => (intro _; first | refine X_ne_t rfl rfl rfl (by first | assumption | omega) ⟨rfl, rfl⟩ | refine X_ne_f rfl rfl rfl (by first | assumption | omega) ⟨rfl, rfl⟩ | refine X_bin rfl rfl rfl ⟨rfl, rfl⟩)))
        apply DD_pure rfl rfl; next => (intro _; refine X_pick rfl rfl ⟨rfl, rfl⟩)
        apply DD_pure rfl rfl; next => (intro _; refine X_move rfl ⟨rfl, rfl⟩)
        (first | refine DD_off rfl rfl rfl rfl ?_ | refine DD_off' rfl rfl rfl rfl ?_ | (apply DD_on rfl rfl rfl rfl; next => (intro _; refine X_move rfl ⟨rfl, rfl⟩)))
        (first | refine DD_off rfl rfl rfl rfl ?_ | refine DD_off' rfl rfl rfl rfl ?_ | (apply DD_on rfl rfl rfl rfl; next => (intro _; refine X_move rfl ⟨rfl, rfl⟩)))
        (first | refine DD_off rfl rfl rfl rfl ?_ | refine DD_off' rfl rfl rfl rfl ?_ | (apply DD_on rfl rfl rfl rfl; next => (intro _; refine X_move rfl ⟨rfl, rfl⟩)))
        (first | refine DD_off rfl rfl rfl rfl ?_ | refine DD_off' rfl rfl rfl rfl ?_ | (apply DD_on rfl rfl rfl rfl; next => (intro _; refine X_idx T.sl47 rfl rfl (by omega) (by omega) ⟨rfl, rfl⟩)))
        (first | refine DD_off rfl rfl rfl rfl ?_ | refine DD_off' rfl rfl rfl rfl ?_ | (apply DD_on rfl rfl rfl rfl; next => (intro _; refine X_fieldAddr T.fd54_4 rfl ⟨rfl, rfl⟩)))
        (first | refine DD_off rfl rfl rfl rfl ?_ | refine DD_off' rfl rfl rfl rfl ?_ | (apply DD_read_on rfl rfl rfl rfl; next => (refine S_loadA (l := x.to.enc) H T.ty23 rfl hA stepT_len hx rfl (o := 17) (by omega) (by decide) rfl ⟨rfl, rfl⟩)))
        (first | refine DD_off rfl rfl rfl rfl ?_ | refine DD_off' rfl rfl rfl rfl ?_ | (apply DD_read_on rfl rfl rfl rfl; next => ((first | refine S_load H 0 T.ty51 rfl rfl (l := zl z' v') rfl (Nat.le_of_ble_eq_true rfl) ⟨rfl, rfl⟩ | refine S_load H 1 T.ty51 rfl rfl (l := zl z' v') rfl (Nat.le_of_ble_eq_true rfl) ⟨rfl, rfl⟩ | refine S_load H 2 T.ty51 rfl rfl (l := zl z' v') rfl (Nat.le_of_ble_eq_true rfl) ⟨rfl, rfl⟩ | refine S_load H 3 T.ty51 rfl rfl (l := zl z' v') rfl (Nat.le_of_ble_eq_true rfl) ⟨rfl, rfl⟩ | refine S_load H 4 T.ty51 rfl rfl (l := zl z' v') rfl (Nat.le_of_ble_eq_true rfl) ⟨rfl, rfl⟩ | refine S_load H 5 T.ty51 rfl rfl (l := zl z' v') rfl (Nat.le_of_ble_eq_true rfl) ⟨rfl, rfl⟩ | refine S_load H 6 T.ty51 rfl rfl (l := zl z' v') rfl (Nat.le_of_ble_eq_true rfl) ⟨rfl, rfl⟩ | refine S_load H 7 T.ty51 rfl rfl (l := zl z' v') rfl (Nat.le_of_ble_eq_true rfl) ⟨rfl, rfl⟩ | refine S_load H 8 T.ty51 rfl rfl (l := zl z' v') rfl (Nat.le_of_ble_eq_true rfl) ⟨rfl, rfl⟩ | refine S_load H 9 T.ty51 rfl rfl (l := zl z' v') rfl (Nat.le_of_ble_eq_true rfl) ⟨rfl, rfl⟩))))
        (first | refine DD_off rfl rfl rfl rfl ?_ | refine DD_off' rfl rfl rfl rfl ?_ | (apply DD_on rfl rfl rfl rfl; next => (intro _; refine X_move rfl ⟨rfl, rfl⟩)))
        (first | refine DD_off rfl rfl rfl rfl ?_ | refine DD_off' rfl rfl rfl rfl ?_ | (apply DD_on rfl rfl rfl rfl; next => (intro _; refine X_move rfl ⟨rfl, rfl⟩)))
        (first | refine DD_off rfl rfl rfl rfl ?_ | refine DD_off' rfl rfl rfl rfl ?_ | (apply DD_on rfl rfl rfl rfl; next => (intro _; refine X_idx T.sl47 rfl rfl (by omega) (by omega) ⟨rfl, rfl⟩)))
        (first | refine DD_off rfl rfl rfl rfl ?_ | refine DD_off' rfl rfl rfl rfl ?_ | (apply DD_on rfl rfl rfl rfl; next => (intro _; refine X_fieldAddr T.fd54_4 rfl ⟨rfl, rfl⟩)))
        (first | refine DD_off rfl rfl rfl rfl ?_ | refine DD_off' rfl rfl rfl rfl ?_ | (apply DD_read_on rfl rfl rfl rfl; next => (refine S_loadA (l := x.to.enc) H T.ty23 rfl hA stepT_len hx rfl (o := 17) (by omega) (by decide) rfl ⟨rfl, rfl⟩)))
        (first | refine DD_eff_off rfl rfl rfl rfl ?_ | (refine DD_eff_on rfl rfl rfl rfl ?_; (refine X_call T.ent18 rfl (calls_to (h'.refs x.to H) ?_); rintro r w ⟨rfl, H⟩)))
        refine ⟨?_, ?_⟩; next => (repeat (first | exact rc_nil | refine rc_skip rfl ?_ | refine rc_true ?_ | (refine rc_read ?_ ?_; next => (first | ((first | refine S_load H 0 T.ty51 rfl rfl (l := zl z' v') rfl (Nat.le_of_ble_eq_true rfl) ⟨rfl, rfl⟩ | refine S_load H 1 T.ty51 rfl rfl (l := zl z' v') rfl (Nat.le_of_ble_eq_true rfl) ⟨rfl, rfl⟩ | refine S_load H 2 T.ty51 rfl rfl (l := zl z' v') rfl (Nat.le_of_ble_eq_true rfl) ⟨rfl, rfl⟩ | refine S_load H 3 T.ty51 rfl rfl (l := zl z' v') rfl (Nat.le_of_ble_eq_true rfl) ⟨rfl, rfl⟩ | refine S_load H 4 T.ty51 rfl rfl (l := zl z' v') rfl (Nat.le_of_ble_eq_true rfl) ⟨rfl, rfl⟩ | refine S_load H 5 T.ty51 rfl rfl (l := zl z' v') rfl (Nat.le_of_ble_eq_true rfl) ⟨rfl, rfl⟩ | refine S_load H 6 T.ty51 rfl rfl (l := zl z' v') rfl (Nat.le_of_ble_eq_true rfl) ⟨rfl, rfl⟩ | refine S_load H 7 T.ty51 rfl rfl (l := zl z' v') rfl (Nat.le_of_ble_eq_true rfl) ⟨rfl, rfl⟩ | refine S_load H 8 T.ty51 rfl rfl (l := zl z' v') rfl (Nat.le_of_ble_eq_true rfl) ⟨rfl, rfl⟩ | refine S_load H 9 T.ty51 rfl rfl (l := zl z' v') rfl (Nat.le_of_ble_eq_true rfl) ⟨rfl, rfl⟩)) | (refine S_loadA (l := x.to.enc) H T.ty23 rfl hA stepT_len hx rfl (o := 17) (by omega) (by decide) rfl ⟨rfl, rfl⟩)))))
        (first | refine DD_eff_off rfl rfl rfl rfl ?_ | (refine DD_eff_on rfl rfl rfl rfl ?_; (refine X_call T.ent19 rfl (calls_to (rRefs_spec z' v' cs' x.to (by omega) (H.foc 2 rfl)) ?_); rintro r w ⟨rfl, H⟩; replace H := H.back 2 (by simp))))
        refine ⟨by repeat (first | exact rc_nil | refine rc_skip rfl ?_ | refine rc_true ?_), ?_⟩
        (first | refine DD_off rfl rfl rfl rfl ?_ | refine DD_off' rfl rfl rfl rfl ?_ | (apply DD_on rfl rfl rfl rfl; next => (intro _; first | refine X_ne_t rfl rfl rfl (by first | assumption | omega) ⟨rfl, rfl⟩ | refine X_ne_f rfl rfl rfl (by first | assumption | omega) ⟨rfl, rfl⟩ | refine X_bin rfl rfl rfl ⟨rfl, rfl⟩)))
        apply DD_pure rfl rfl; next => (intro _; refine X_pick rfl rfl ⟨rfl, rfl⟩)
        exact ⟨_, by simp, rfl, ⟨rfl, rfl, rfl, rfl, trivial⟩, H⟩
    intro r w hr H
    skip
    refine hK13 _ _ (W_keep (Keep.cons 0 rfl (Keep.cons 3 rfl (Keep.cons 4 rfl (Keep.cons 5 rfl (Keep.cons 75 rfl Keep.nil))))) ?_)
    obtain rfl : r = false := by cases r; rfl; exact (hr.1 rfl).elim
    refine W_false rfl ?_
    refine W_skip ?_
    refine hK8 _ _ (W_keep (Keep.cons 0 rfl (Keep.cons 3 rfl (Keep.cons 4 rfl (Keep.cons 5 rfl (Keep.cons 75 rfl Keep.nil))))) ?_)
    refine W_reg rfl ?_
    refine RL_some ?_; (refine X_move rfl ?_)
    refine RL_some ?_; (first | refine X_int rfl rfl rfl (by omega) ?_ | refine X_bin rfl rfl rfl ?_)
    refine RL_some ?_; (refine X_assign rfl ?_)
    exact ⟨left - 1, by omega, i + 1, m', z', v', cs', by omega, hp', h', by rw [← hp']; exact (Keep.cons 0 rfl (Keep.cons 3 rfl (Keep.cons 4 rfl (Keep.cons 5 rfl Keep.nil)))), H⟩
  refine W_exit ?_
  refine hK4 _ _ (W_keep (Keep.cons 0 rfl (Keep.cons 3 rfl (Keep.cons 4 rfl (Keep.cons 5 rfl (Keep.cons 18 rfl Keep.nil))))) ?_)
  refine W_seq_k fun K14 hK14 => ?_
  refine W_seq_k fun K15 hK15 => ?_
  refine W_reg rfl ?_
  refine RL_some ?_; (refine X_assign rfl ?_)
  refine hK15 _ _ (W_keep (Keep.cons 3 rfl (Keep.cons 4 rfl (Keep.cons 8 rfl Keep.nil))) ?_)
  refine W_block ?_
  refine W_loop (fun left pf w => ∃ (i : Nat), i + left = 6 ∧ Keep pf [(3, pt m.p 0), (4, pt b4 0), (8, i64 ((i : Int) - 1))] ∧ St w0 w (PM m :: Cs b4 (dmc z v) 51 :: CT v cs :: L)) (6) ?_ ?_
  · skip
    exact ⟨0, by omega, (Keep.cons 3 rfl (Keep.cons 4 rfl (Keep.cons 8 rfl Keep.nil))), H⟩
  clear H
  rintro left pf w ⟨i, hi, hpf, H⟩
  refine W_keep hpf ?_
  clear hpf
  refine W_seq_k fun K16 hK16 => ?_
  refine W_seq_k fun K17 hK17 => ?_
  refine W_reg rfl ?_
  refine RL_some ?_; (refine X_move rfl ?_)
  refine RL_some ?_; (first | refine X_cmp_t rfl rfl rfl (by first | assumption | omega) ?_ | refine X_cmp_f rfl rfl rfl (by first | assumption | omega) ?_ | refine X_bin rfl rfl rfl ?_)
  refine hK17 _ _ (W_keep (Keep.cons 3 rfl (Keep.cons 4 rfl (Keep.cons 8 rfl (Keep.cons 77 rfl Keep.nil)))) ?_)
  refine W_if rfl (fun c => ?_) (fun c => ?_)
  · skip
    refine W_skip ?_
    refine hK16 _ _ (W_keep (Keep.cons 3 rfl (Keep.cons 4 rfl (Keep.cons 8 rfl (Keep.cons 77 rfl Keep.nil)))) ?_)
    refine W_seq_k fun K18 hK18 => ?_
    refine W_block ?_
    refine W_seq_k fun K19 hK19 => ?_
    have c := of_decide_eq_true c
    refine W_reg rfl ?_
    refine RL_some ?_; (refine X_move rfl ?_)
    refine RL_some ?_; (refine S_load H 1 T.ty51 rfl rfl (l := zl z v) rfl (Nat.le_of_ble_eq_true rfl) ?_)
    refine RL_some ?_; (refine X_move rfl ?_)
    refine RL_some ?_; (refine X_call T.ent20 rfl (calls_to (same_spec h v ((i : Int) - 1) ((H.foc 2 rfl).foc 1 rfl)) ?_); rintro r w ⟨rfl, H⟩; replace H := (H.foc 2 rfl).swap)
    refine RL_some ?_; (refine X_not rfl ?_)
    refine hK19 _ _ (W_keep (Keep.cons 3 rfl (Keep.cons 4 rfl (Keep.cons 8 rfl (Keep.cons 84 rfl Keep.nil)))) ?_)
    refine W_false rfl ?_
    refine W_skip ?_
    refine hK18 _ _ (W_keep (Keep.cons 3 rfl (Keep.cons 4 rfl (Keep.cons 8 rfl (Keep.cons 84 rfl Keep.nil)))) ?_)
    refine W_reg rfl ?_
    refine RL_some ?_; (refine X_move rfl ?_)
    refine RL_some ?_; (first | refine X_int rfl rfl rfl (by omega) ?_ | refine X_bin rfl rfl rfl ?_)
    refine RL_some ?_; (refine X_assign rfl ?_)
    exact ⟨left - 1, by omega, i + 1, by omega, by rw [show ((i + 1 : Nat) : Int) - 1 = (i : Int) - 1 + 1 by omega]; exact (Keep.cons 3 rfl (Keep.cons 4 rfl (Keep.cons 8 rfl Keep.nil))), H⟩
  refine W_exit ?_
  refine hK14 _ _ (W_keep (Keep.cons 3 rfl (Keep.cons 4 rfl (Keep.cons 8 rfl (Keep.cons 77 rfl Keep.nil)))) ?_)
  refine W_seq_k fun K20 hK20 => ?_
  refine W_reg rfl ?_
  refine RL_some ?_; (refine X_call T.ent11 rfl (calls_to (awake_spec H) ?_); rintro v w ⟨rfl, H⟩)
  refine RL_some ?_; (refine X_assign rfl ?_)
  refine hK20 _ _ (W_keep (Keep.cons 2 rfl Keep.nil) ?_)
  refine W_ret ?_
  (try simp only [thenQ, blockQ, noGotoQ])
  refine body_tmp (.inr rfl) rfl rfl ?_
  exact ⟨rfl, _, H⟩
end Go.Proofs.Ytinngnckojbpnaa
