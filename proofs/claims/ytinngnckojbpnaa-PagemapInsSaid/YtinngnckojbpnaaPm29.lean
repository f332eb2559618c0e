/- PagemapIns answers true whatever steps and block it is given; its arguments read as they did. -/
import Derived.Test.YtinngnckojbpnaaPm28
import Derived.Test.YtinngnckojbpnaaPm27
/-! pagemap: PagemapIns. -/
namespace Go.Proofs.Ytinngnckojbpnaa
open Go.Nep Go.ChangeShapes Go.WideShapes
set_option maxRecDepth 100000
set_option linter.unusedVariables false
set_option linter.unusedSimpArgs false
set_option maxHeartbeats 3200000

theorem RelM.in_ {m : PMx} {z : Z4} {cs : List Cell} (h : RelM m z cs) (block : Int) {w0 w : World} {L : List Asn} (H : St w0 w (PM m :: L)) :
    Calls Try.prog 21 #[pt m.p 0, i64 block] w (After fun u w' => ∃ ys : List Spot, Asc (ys.map (·.place)) ∧ Seen (Over m.l 4 0) block ys ∧ St w0 w' (PM m :: Tab u 29 14 Spot.enc ys :: L)) := by
  refine calls_to (In_spec m block h.big h.rng H.open_) ?_
  rintro u w' ⟨ys, h1, h2, H⟩
  exact ⟨ys, h1, h2, H.shut⟩

def sumR (cs : List Cell) (ps : List Pl) : Nat := (ps.map (refsD cs)).sum
theorem sum_count (cs : List Cell) (ps : List Pl) (hn : ps.Nodup) : sumR cs ps = cs.countP fun c => decide (c.s.place ∈ ps) := by
  unfold sumR
  induction ps with
  | nil => simp
  | cons p r ih =>
    obtain ⟨h1, h2⟩ := List.nodup_cons.1 hn
    rw [List.map_cons, List.sum_cons, ih h2]
    unfold refsD
    clear ih hn h2
    induction cs with
    | nil => rfl
    | cons c cs ih =>
      simp only [List.countP_cons, List.mem_cons, Bool.decide_or] at ih ⊢
      by_cases e : c.s.place = p
      · have : p ∉ r := h1
        simp [e, this]
        omega
      · simp [e]
        omega
theorem over_cell {m : PMx} {z : Z4} {cs : List Cell} (h : RelM m z cs) (q : Pl) : (∃ s, Over m.l 4 0 (some s) ∧ s.place = q) ↔ 0 < refsD cs q := by
  constructor
  · rintro ⟨s, h1, rfl⟩
    rcases h1 with ⟨j, hj, hm⟩ | ⟨j, hj, _⟩
    · obtain ⟨i, hi⟩ := List.mem_iff_getElem?.1 hm
      have h2 := cntL_get _ _ hi
      have h3 := cntL_cnt m.l j hj s.place
      have h4 := h.rel.refs s.place
      omega
    · omega
  · intro h1
    unfold refsD at h1
    obtain ⟨c, hc, hq⟩ := List.countP_pos_iff.1 h1
    obtain ⟨a1, a2, a3, a4⟩ := (h.rel.mem c).1 hc
    exact ⟨c.s, .inl ⟨c.ns.toNat, by omega, List.mem_of_getElem? a4⟩, by simpa using hq⟩
theorem sum_all {m : PMx} {z : Z4} {cs : List Cell} (h : RelM m z cs) {block : Int} {ys : List Spot} (hS : Seen (Over m.l 4 0) block ys) : sumR cs (ys.map (·.place)) = cs.countP fun c => decide (c.s.place.b = block) := by
  rw [sum_count _ _ hS.nodup]
  refine List.countP_congr fun c hc => ?_
  rw [decide_eq_true_iff, decide_eq_true_iff, hS.mem, over_cell h]
  have : 0 < refsD cs c.s.place := List.countP_pos_iff.2 ⟨c, hc, by simp⟩
  constructor
  · exact fun h => h.1
  · exact fun h => ⟨h, this⟩
theorem sum_le (cs : List Cell) {ps : List Pl} (hn : ps.Nodup) (i : Nat) : sumR cs (ps.take i) ≤ cs.length := by
  rw [sum_count _ _ (hn.sublist (List.take_sublist i ps))]
  exact List.countP_le_length
theorem sum_take (cs : List Cell) (ys : List Spot) {i : Nat} {x : Spot} (h : ys[i]? = some x) : sumR cs ((ys.map (·.place)).take (i + 1)) = sumR cs ((ys.map (·.place)).take i) + refsD cs x.place := by
  unfold sumR
  rw [List.take_add_one, List.getElem?_map, h]
  simp

theorem Ins_spec (ss : List StepT) (block : Int) (hss : ∀ s ∈ ss, s.ok) {vl : Value} {w0 : World} (hl : ArgS w0 vl 19 StepT.enc ss) {w : World} {L : List Asn} (H : St w0 w L) :
    Calls Try.prog 6 #[vl, i64 block] w (After fun v w' => v = .bool true ∧ ∃ L', St w0 w' L') := by
  obtain ⟨al, cl, rfl⟩ := hl.val
  refine calls_of_W (N := 120) (args := [.slice al ss.length cl, i64 block]) Try.func6 rfl Try.ntmps6 (by simp) ?_
  refine W_seq_k fun K1 hK1 => ?_
  refine W_reg rfl ?_
  refine RL_some ?_; (refine X_assign rfl ?_)
  refine hK1 _ _ (W_keep (Keep.cons 0 rfl (Keep.cons 1 rfl Keep.nil)) ?_)
  refine W_seq_k fun K2 hK2 => ?_
  refine W_reg rfl ?_
  refine RL_some ?_; (refine X_call T.ent12 rfl (calls_to (New_pm H) ?_); rintro v w ⟨pa, ra, rfl, H⟩)
  refine RL_some ?_; (refine X_assign rfl ?_)
  refine hK2 _ _ (W_keep (Keep.cons 0 rfl (Keep.cons 1 rfl (Keep.cons 5 rfl Keep.nil))) ?_)
  refine W_seq_k fun K3 hK3 => ?_
  refine W_reg rfl ?_
  refine RL_some ?_; (refine X_build (cells := dmc z0 nilS) T.sh51 T.ze51 rfl rfl ?_)
  refine RL_some ?_; (refine S_alloc H T.ze51 ?_; intro b6 w H)
  refine RL_none ?_; ((refine S_store H 0 T.ty51 rfl rfl rfl rfl (Nat.le_of_ble_eq_true rfl) rfl (c' := dmc z0 nilS) rfl ?_; intro w H))
  refine hK3 _ _ (W_keep (Keep.cons 0 rfl (Keep.cons 1 rfl (Keep.cons 5 rfl (Keep.cons 6 rfl Keep.nil)))) ?_)
  refine W_seq_k fun K4 hK4 => ?_
  refine W_seq_k fun K5 hK5 => ?_
  refine W_reg rfl ?_
  refine RL_some ?_; (refine X_assign rfl ?_)
  refine hK5 _ _ (W_keep (Keep.cons 0 rfl (Keep.cons 1 rfl (Keep.cons 5 rfl (Keep.cons 6 rfl (Keep.cons 7 rfl Keep.nil))))) ?_)
  refine W_block ?_
  refine W_loop (fun left pf w => ∃ (i : Nat) (m : PMx) (z : Z4) (v : Value) (cs : List Cell), i + left = ss.length ∧ m.p = pa ∧ RelM m z cs ∧ Keep pf [(0, .slice al ss.length cl), (1, i64 block), (5, pt pa 0), (6, pt b6 0), (7, i64 i)] ∧ St w0 w (PM m :: Cs b6 (dmc z v) 51 :: CT v cs :: L)) (ss.length) ?_ ?_
  · skip
    exact ⟨0, newM pa ra, z0, nilS, [], by omega, rfl, RelM.new pa ra, (Keep.cons 0 rfl (Keep.cons 1 rfl (Keep.cons 5 rfl (Keep.cons 6 rfl (Keep.cons 7 rfl Keep.nil))))), ((St.tabNil H).foc 1 rfl |>.foc 2 rfl)⟩
  clear H
  rintro left pf w ⟨i, m, z, v, cs, hi, hp, h, hpf, H1⟩
  refine W_keep hpf ?_
  clear hpf
  subst hp
  have H := H1
  clear H1
  refine W_seq_k fun K6 hK6 => ?_
  refine W_seq_k fun K7 hK7 => ?_
  refine W_boolR 23 (i < ss.length ∧ i < 30) [0, 1, 5, 6, 7] H ?_ ?_
  · by_cases e : (i : Int) < ss.length
    all_goals
      refine W_reg rfl ?_
      refine RL_some ?_; (refine X_move rfl ?_)
      refine RL_some ?_; (refine X_move rfl ?_)
      refine RL_some ?_; (refine X_len T.sl47 rfl ?_)
      refine RL_some ?_; (first | refine X_cmp_t rfl rfl rfl (by first | assumption | omega) ?_ | refine X_cmp_f rfl rfl rfl (by first | assumption | omega) ?_ | refine X_bin rfl rfl rfl ?_)
      refine RL_some ?_; (refine X_move rfl ?_)
      (first | refine RL_off rfl rfl ?_ | refine RL_off' rfl rfl ?_ | (refine RL_on rfl rfl ?_; (refine X_move rfl ?_)))
      (first | refine RL_off rfl rfl ?_ | refine RL_off' rfl rfl ?_ | (refine RL_on rfl rfl ?_; (first | refine X_cmp_t rfl rfl rfl (by first | assumption | omega) ?_ | refine X_cmp_f rfl rfl rfl (by first | assumption | omega) ?_ | refine X_bin rfl rfl rfl ?_)))
      refine RL_some ?_; (refine X_pick rfl rfl ?_)
      exact ⟨_, by first | (simp; omega) | simp [e], rfl, ⟨rfl, rfl, rfl, rfl, rfl, trivial⟩, H⟩
  intro q w hq H
  skip
  refine hK7 _ _ (W_keep (Keep.cons 0 rfl (Keep.cons 1 rfl (Keep.cons 5 rfl (Keep.cons 6 rfl (Keep.cons 7 rfl (Keep.cons 23 rfl Keep.nil)))))) ?_)
  refine W_if rfl (fun c => ?_) (fun c => ?_)
  · skip
    refine W_skip ?_
    refine hK6 _ _ (W_keep (Keep.cons 0 rfl (Keep.cons 1 rfl (Keep.cons 5 rfl (Keep.cons 6 rfl (Keep.cons 7 rfl (Keep.cons 23 rfl Keep.nil)))))) ?_)
    refine W_seq_k fun K8 hK8 => ?_
    refine W_block ?_
    refine W_seq_k fun K9 hK9 => ?_
    obtain ⟨c, c30⟩ := hq.1 c
    obtain ⟨x, hx⟩ : ∃ x, ss[i]? = some x := ⟨_, List.getElem?_eq_getElem c⟩
    have hxo := hss x (List.mem_of_getElem? hx)
    obtain ⟨b0, off, cc, ee, fr, had, hcap, hmax, hA⟩ := hl.at_ (by omega)
    obtain rfl := had
    refine W_reg rfl ?_
    refine RL_some ?_; (refine X_move rfl ?_)
    refine RL_some ?_; (refine X_move rfl ?_)
    refine RL_some ?_; (refine X_idx T.sl47 rfl rfl (by omega) (by omega) ?_)
    refine RL_some ?_; (refine S_loadA (l := x.enc) H T.ty54 rfl hA stepT_len hx rfl (o := 0) (by omega) (by decide) rfl ?_)
    refine RL_some ?_; (refine X_call T.ent16 rfl (calls_to (light_spec x H) ?_); rintro r w ⟨rfl, H⟩)
    refine hK9 _ _ (W_keep (Keep.cons 0 rfl (Keep.cons 1 rfl (Keep.cons 5 rfl (Keep.cons 6 rfl (Keep.cons 7 rfl (Keep.cons 30 rfl Keep.nil)))))) ?_)
    refine W_if rfl (fun d => ?_) (fun d => ?_)
    · skip
      have hlt : lightP x := by simpa using d
      refine W_draw (.p 0 (.p 1 (.p 2 (.p 3 (.p 4 (.p 5 (.e 6 [] (.p 7 (.p 8 (.p 9 (.e 10 [9] .nil .none)))) .none))))))) T.mixed rfl ?_
      replace H := H.drew
      apply DD_pure rfl rfl; next => (intro _; refine X_move rfl ⟨rfl, rfl⟩)
      apply DD_read rfl rfl; next => ((first | refine S_load H 0 T.ty51 rfl rfl (l := zl z v) rfl (Nat.le_of_ble_eq_true rfl) ⟨rfl, rfl⟩ | refine S_load H 1 T.ty51 rfl rfl (l := zl z v) rfl (Nat.le_of_ble_eq_true rfl) ⟨rfl, rfl⟩ | refine S_load H 2 T.ty51 rfl rfl (l := zl z v) rfl (Nat.le_of_ble_eq_true rfl) ⟨rfl, rfl⟩ | refine S_load H 3 T.ty51 rfl rfl (l := zl z v) rfl (Nat.le_of_ble_eq_true rfl) ⟨rfl, rfl⟩ | refine S_load H 4 T.ty51 rfl rfl (l := zl z v) rfl (Nat.le_of_ble_eq_true rfl) ⟨rfl, rfl⟩ | refine S_load H 5 T.ty51 rfl rfl (l := zl z v) rfl (Nat.le_of_ble_eq_true rfl) ⟨rfl, rfl⟩ | refine S_load H 6 T.ty51 rfl rfl (l := zl z v) rfl (Nat.le_of_ble_eq_true rfl) ⟨rfl, rfl⟩ | refine S_load H 7 T.ty51 rfl rfl (l := zl z v) rfl (Nat.le_of_ble_eq_true rfl) ⟨rfl, rfl⟩ | refine S_load H 8 T.ty51 rfl rfl (l := zl z v) rfl (Nat.le_of_ble_eq_true rfl) ⟨rfl, rfl⟩ | refine S_load H 9 T.ty51 rfl rfl (l := zl z v) rfl (Nat.le_of_ble_eq_true rfl) ⟨rfl, rfl⟩))
      apply DD_pure rfl rfl; next => (intro _; refine X_move rfl ⟨rfl, rfl⟩)
      apply DD_pure rfl rfl; next => (intro _; refine X_move rfl ⟨rfl, rfl⟩)
      apply DD_pure rfl rfl; next => (intro _; refine X_idx T.sl47 rfl rfl (by omega) (by omega) ⟨rfl, rfl⟩)
      apply DD_read rfl rfl; next => (refine S_loadA (l := x.enc) H T.ty54 rfl hA stepT_len hx rfl (o := 0) (by omega) (by decide) rfl ⟨rfl, rfl⟩)
      refine DD_eff rfl rfl ?_; (refine X_call T.ent17 rfl (calls_to (step_calls h v x hlt hxo.s ((H.foc 2 rfl).foc 1 rfl)) ?_); rintro r w ⟨m', z', v', cs', rfl, hp', h', H⟩; have hv' := (H.swap.tabSl).2)
      refine ⟨by repeat (first | exact rc_nil | refine rc_skip rfl ?_ | refine rc_true ?_), ?_⟩
      apply DD_pure rfl rfl; next => (intro _; refine X_move rfl ⟨rfl, rfl⟩)
      apply DD_pure rfl rfl; next => (intro _; refine X_extract rfl rfl ⟨rfl, rfl⟩)
      apply DD_pure rfl rfl; next => (intro _; refine X_extract rfl rfl ⟨rfl, rfl⟩)
      refine DD_eff rfl rfl ?_; (((first | refine S_store H 0 T.ty51 rfl rfl rfl rfl (Nat.le_of_ble_eq_true rfl) (by show (Nep.one v' && true) = true; simp [hv']) (c' := dmc z' v') rfl ?_ | refine S_store H 1 T.ty51 rfl rfl rfl rfl (Nat.le_of_ble_eq_true rfl) (by show (Nep.one v' && true) = true; simp [hv']) (c' := dmc z' v') rfl ?_ | refine S_store H 2 T.ty51 rfl rfl rfl rfl (Nat.le_of_ble_eq_true rfl) (by show (Nep.one v' && true) = true; simp [hv']) (c' := dmc z' v') rfl ?_ | refine S_store H 3 T.ty51 rfl rfl rfl rfl (Nat.le_of_ble_eq_true rfl) (by show (Nep.one v' && true) = true; simp [hv']) (c' := dmc z' v') rfl ?_ | refine S_store H 4 T.ty51 rfl rfl rfl rfl (Nat.le_of_ble_eq_true rfl) (by show (Nep.one v' && true) = true; simp [hv']) (c' := dmc z' v') rfl ?_ | refine S_store H 5 T.ty51 rfl rfl rfl rfl (Nat.le_of_ble_eq_true rfl) (by show (Nep.one v' && true) = true; simp [hv']) (c' := dmc z' v') rfl ?_ | refine S_store H 6 T.ty51 rfl rfl rfl rfl (Nat.le_of_ble_eq_true rfl) (by show (Nep.one v' && true) = true; simp [hv']) (c' := dmc z' v') rfl ?_ | refine S_store H 7 T.ty51 rfl rfl rfl rfl (Nat.le_of_ble_eq_true rfl) (by show (Nep.one v' && true) = true; simp [hv']) (c' := dmc z' v') rfl ?_ | refine S_store H 8 T.ty51 rfl rfl rfl rfl (Nat.le_of_ble_eq_true rfl) (by show (Nep.one v' && true) = true; simp [hv']) (c' := dmc z' v') rfl ?_ | refine S_store H 9 T.ty51 rfl rfl rfl rfl (Nat.le_of_ble_eq_true rfl) (by show (Nep.one v' && true) = true; simp [hv']) (c' := dmc z' v') rfl ?_); intro w H))
      refine ⟨by repeat (first | exact rc_nil | refine rc_skip rfl ?_ | refine rc_true ?_), ?_⟩
      refine hK8 _ _ (W_keep (Keep.cons 0 rfl (Keep.cons 1 rfl (Keep.cons 5 rfl (Keep.cons 6 rfl (Keep.cons 7 rfl Keep.nil))))) ?_)
      refine W_reg rfl ?_
      refine RL_some ?_; (refine X_move rfl ?_)
      refine RL_some ?_; (first | refine X_int rfl rfl rfl (by omega) ?_ | refine X_bin rfl rfl rfl ?_)
      refine RL_some ?_; (refine X_assign rfl ?_)
      exact ⟨left - 1, by omega, i + 1, m', z', v', cs', by omega, hp', h', (Keep.cons 0 rfl (Keep.cons 1 rfl (Keep.cons 5 rfl (Keep.cons 6 rfl (Keep.cons 7 rfl Keep.nil))))), (H.foc 2 rfl).swap⟩
    refine W_skip ?_
    refine hK8 _ _ (W_keep (Keep.cons 0 rfl (Keep.cons 1 rfl (Keep.cons 5 rfl (Keep.cons 6 rfl (Keep.cons 7 rfl (Keep.cons 30 rfl Keep.nil)))))) ?_)
    refine W_reg rfl ?_
    refine RL_some ?_; (refine X_move rfl ?_)
    refine RL_some ?_; (first | refine X_int rfl rfl rfl (by omega) ?_ | refine X_bin rfl rfl rfl ?_)
    refine RL_some ?_; (refine X_assign rfl ?_)
    exact ⟨left - 1, by omega, i + 1, m, z, v, cs, by omega, rfl, h, (Keep.cons 0 rfl (Keep.cons 1 rfl (Keep.cons 5 rfl (Keep.cons 6 rfl (Keep.cons 7 rfl Keep.nil))))), H⟩
  refine W_exit ?_
  refine hK4 _ _ (W_keep (Keep.cons 0 rfl (Keep.cons 1 rfl (Keep.cons 5 rfl (Keep.cons 6 rfl (Keep.cons 7 rfl (Keep.cons 23 rfl Keep.nil)))))) ?_)
  refine W_seq_k fun K10 hK10 => ?_
  refine W_reg rfl ?_
  refine RL_some ?_; (refine X_move rfl ?_)
  refine RL_some ?_; (refine X_move rfl ?_)
  refine RL_some ?_; (refine X_call T.ent21 rfl (calls_to (h.in_ block H) ?_); rintro u w ⟨ys, hA, hS, H⟩)
  refine RL_some ?_; (refine X_assign rfl ?_)
  refine hK10 _ _ (W_keep (Keep.cons 1 rfl (Keep.cons 5 rfl (Keep.cons 6 rfl (Keep.cons 8 rfl Keep.nil)))) ?_)
  have hlen := h.len
  obtain ⟨ay, cy, rfl, _⟩ := H.tabVal' 1 rfl
  obtain ⟨av, cv, rfl, _⟩ := H.tabVal' 3 rfl
  have hyl : ys.length ≤ 1000000000 := by
    have h1 := sum_all h hS
    have h2 : ∀ ps : List Pl, (∀ q ∈ ps, 0 < refsD cs q) → ps.length ≤ sumR cs ps := by
      intro ps
      induction ps with
      | nil => intro _; simp
      | cons p r ih =>
        intro h3
        have := ih fun q hq => h3 q (List.mem_cons_of_mem _ hq)
        have := h3 p (List.mem_cons_self ..)
        unfold sumR at *
        rw [List.map_cons, List.sum_cons, List.length_cons]
        omega
    have h3 := h2 (ys.map (·.place)) fun q hq => (over_cell h q).1 ((hS.mem q).1 hq).2
    have h4 : (cs.countP fun c => decide (c.s.place.b = block)) ≤ cs.length := List.countP_le_length
    simp at h3
    omega
  refine W_seq_k fun K11 hK11 => ?_
  refine W_reg rfl ?_
  refine RL_some ?_; (refine X_assign rfl ?_)
  refine hK11 _ _ (W_keep (Keep.cons 1 rfl (Keep.cons 5 rfl (Keep.cons 6 rfl (Keep.cons 8 rfl (Keep.cons 9 rfl Keep.nil))))) ?_)
  refine W_seq_k fun K12 hK12 => ?_
  refine W_seq_k fun K13 hK13 => ?_
  refine W_reg rfl ?_
  refine RL_some ?_; (refine X_assign rfl ?_)
  refine hK13 _ _ (W_keep (Keep.cons 1 rfl (Keep.cons 5 rfl (Keep.cons 6 rfl (Keep.cons 8 rfl (Keep.cons 9 rfl (Keep.cons 10 rfl Keep.nil)))))) ?_)
  refine W_block ?_
  refine W_loop (fun left pf w => ∃ (i : Nat), i + left = ys.length ∧ Keep pf [(1, i64 block), (5, pt m.p 0), (6, pt b6 0), (8, .slice ay ys.length cy), (9, i64 (sumR cs ((ys.map (·.place)).take i))), (10, i64 i)] ∧ St w0 w (PM m :: Tab (.slice ay ys.length cy) 29 14 Spot.enc ys :: Cs b6 (dmc z (.slice av cs.length cv)) 51 :: CT (.slice av cs.length cv) cs :: L)) (ys.length) ?_ ?_
  · skip
    exact ⟨0, by omega, (Keep.cons 1 rfl (Keep.cons 5 rfl (Keep.cons 6 rfl (Keep.cons 8 rfl (Keep.cons 9 rfl (Keep.cons 10 rfl Keep.nil)))))), H⟩
  clear H
  rintro left pf w ⟨i, hi, hpf, H⟩
  refine W_keep hpf ?_
  clear hpf
  have hsl := sum_le cs hS.nodup i
  refine W_seq_k fun K14 hK14 => ?_
  refine W_seq_k fun K15 hK15 => ?_
  refine W_reg rfl ?_
  refine RL_some ?_; (refine X_move rfl ?_)
  refine RL_some ?_; (refine X_move rfl ?_)
  refine RL_some ?_; (refine X_len T.sl35 rfl ?_)
  refine RL_some ?_; (first | refine X_cmp_t rfl rfl rfl (by first | assumption | omega) ?_ | refine X_cmp_f rfl rfl rfl (by first | assumption | omega) ?_ | refine X_bin rfl rfl rfl ?_)
  refine hK15 _ _ (W_keep (Keep.cons 1 rfl (Keep.cons 5 rfl (Keep.cons 6 rfl (Keep.cons 8 rfl (Keep.cons 9 rfl (Keep.cons 10 rfl (Keep.cons 47 rfl Keep.nil))))))) ?_)
  refine W_if rfl (fun c => ?_) (fun c => ?_)
  · skip
    refine W_skip ?_
    refine hK14 _ _ (W_keep (Keep.cons 1 rfl (Keep.cons 5 rfl (Keep.cons 6 rfl (Keep.cons 8 rfl (Keep.cons 9 rfl (Keep.cons 10 rfl (Keep.cons 47 rfl Keep.nil))))))) ?_)
    refine W_seq_k fun K16 hK16 => ?_
    refine W_block ?_
    refine W_seq_k fun K17 hK17 => ?_
    have c := of_decide_eq_true c
    obtain ⟨x, hx⟩ : ∃ x, ys[i]? = some x := ⟨_, List.getElem?_eq_getElem (by omega)⟩
    obtain ⟨g, cap', hv, _⟩ := H.tabPos' 1 rfl (by omega)
    simp only [Value.slice.injEq] at hv
    obtain ⟨rfl, _, rfl⟩ := hv
    have hxm : x.place ∈ ys.map (·.place) := List.mem_map.2 ⟨x, List.mem_of_getElem? hx, rfl⟩
    have hxb := ((hS.mem _).1 hxm).1
    have hxr := (over_cell h _).1 ((hS.mem _).1 hxm).2
    have hxl : refsD cs x.place ≤ cs.length := List.countP_le_length
    have hst := sum_take cs ys hx
    have hasc : ∀ (j : Nat) y, j + 1 = i → ys[j]? = some y → y.place.p < x.place.p := by
      intro j y hj hy
      have hlt := (List.getElem?_eq_some_iff.1 hx).1
      have h1 : (ys.map (·.place))[j]? = some y.place := by rw [List.getElem?_map, hy]; rfl
      have h2 : (ys.map (·.place))[i]? = some x.place := by rw [List.getElem?_map, hx]; rfl
      have h3 := List.pairwise_iff_getElem.1 hA j i (by simp; omega) (by simp; omega) (by omega)
      rw [(List.getElem?_eq_some_iff.1 h1).2, (List.getElem?_eq_some_iff.1 h2).2] at h3
      have hyb := ((hS.mem _).1 (List.mem_map.2 ⟨y, List.mem_of_getElem? hy, rfl⟩)).1
      unfold aheadP at h3
      rw [decide_eq_true_iff] at h3
      omega
    refine W_reg rfl ?_
    refine RL_some ?_; (refine X_move rfl ?_)
    refine RL_some ?_; (refine X_move rfl ?_)
    refine RL_some ?_; (refine X_idx T.sl35 rfl rfl (by omega) (by omega) ?_)
    refine RL_some ?_; (refine X_fieldAddr T.fd29_0 rfl ?_)
    refine RL_some ?_; (refine S_loadT H 1 T.ty23 rfl spot_len rfl (j := i) (o := 0) (by omega) hx (by decide) (l := x.place.enc) rfl ?_)
    refine RL_some ?_; (refine S_alloc H T.ze23 ?_; intro b11 w H)
    refine RL_none ?_; ((refine S_store H 0 T.ty23 rfl rfl rfl rfl (Nat.le_of_ble_eq_true rfl) rfl (c' := x.place.enc.toArray) rfl ?_; intro w H))
    refine hK17 _ _ (W_keep (Keep.cons 1 rfl (Keep.cons 5 rfl (Keep.cons 6 rfl (Keep.cons 8 rfl (Keep.cons 9 rfl (Keep.cons 10 rfl (Keep.cons 11 rfl Keep.nil))))))) ?_)
    refine W_seq_k fun K18 hK18 => ?_
    refine W_seq_k fun K19 hK19 => ?_
    have hcs : i = 0 ∨ ∃ y, 0 < i ∧ ys[i - 1]? = some y ∧ y.place.p < x.place.p := by
      rcases Nat.eq_zero_or_pos i with e | e
      · exact .inl e
      · have hy : ys[i - 1]? = some ys[i - 1] := List.getElem?_eq_getElem (by omega)
        exact .inr ⟨_, e, hy, hasc _ _ (by omega) hy⟩
    refine W_boolR 89 (False) [1, 5, 6, 8, 9, 10, 11] H ?_ ?_
    · rcases hcs with e | ⟨y, e, hy, hlt⟩
      all_goals
        refine W_draw (.p 0 (.p 1 (.p 2 (.p 3 (.p 4 (.p 5 (.p 6 (.p 7 (.p 8 (.p 9 (.p 10 (.p 11 (.p 12 (.p 13 (.p 14 (.p 15 (.p 16 (.p 17 (.p 18 (.p 19 (.p 20 (.p 21 (.p 22 (.e 23 [] (.p 24 (.p 25 (.p 26 (.p 27 (.p 28 (.p 30 (.p 31 (.e 29 [30, 31] (.e 32 [] (.p 33 (.p 34 .nil)) .none) .none)))))))) .none)))))))))))))))))))))))) T.mixed rfl ?_
        replace H := H.drew
        apply DD_pure rfl rfl; next => (intro _; refine X_fieldAddr T.fd23_0 rfl ⟨rfl, rfl⟩)
        apply DD_read rfl rfl; next => (refine S_load1 H 0 T.ty3 rfl rfl (v := i64 x.place.b) rfl ⟨rfl, rfl⟩)
        apply DD_pure rfl rfl; next => (intro _; refine X_move rfl ⟨rfl, rfl⟩)
        apply DD_pure rfl rfl; next => (intro _; first | refine X_ne_t rfl rfl rfl (by first | assumption | omega) ⟨rfl, rfl⟩ | refine X_ne_f rfl rfl rfl (by first | assumption | omega) ⟨rfl, rfl⟩ | refine X_bin rfl rfl rfl ⟨rfl, rfl⟩)
        apply DD_pure rfl rfl; next => (intro _; refine X_move rfl ⟨rfl, rfl⟩)
        (first | refine DD_off rfl rfl rfl rfl ?_ | refine DD_off' rfl rfl rfl rfl ?_ | (apply DD_on rfl rfl rfl rfl; next => (intro _; refine X_move rfl ⟨rfl, rfl⟩)))
        (first | refine DD_off rfl rfl rfl rfl ?_ | refine DD_off' rfl rfl rfl rfl ?_ | (apply DD_on rfl rfl rfl rfl; next => (intro _; first | refine X_cmp_t rfl rfl rfl (by first | assumption | omega) ⟨rfl, rfl⟩ | refine X_cmp_f rfl rfl rfl (by first | assumption | omega) ⟨rfl, rfl⟩ | refine X_bin rfl rfl rfl ⟨rfl, rfl⟩)))
        (first | refine DD_off rfl rfl rfl rfl ?_ | refine DD_off' rfl rfl rfl rfl ?_ | (apply DD_on rfl rfl rfl rfl; next => (intro _; refine X_move rfl ⟨rfl, rfl⟩)))
        (first | refine DD_off rfl rfl rfl rfl ?_ | refine DD_off' rfl rfl rfl rfl ?_ | (apply DD_on rfl rfl rfl rfl; next => (intro _; refine X_move rfl ⟨rfl, rfl⟩)))
        (first | refine DD_off rfl rfl rfl rfl ?_ | refine DD_off' rfl rfl rfl rfl ?_ | (apply DD_on rfl rfl rfl rfl; next => (intro _; refine X_move rfl ⟨rfl, rfl⟩)))
        (first | refine DD_off rfl rfl rfl rfl ?_ | refine DD_off' rfl rfl rfl rfl ?_ | (apply DD_on rfl rfl rfl rfl; next => (intro _; first | refine X_int rfl rfl rfl (by omega) ⟨rfl, rfl⟩ | refine X_bin rfl rfl rfl ⟨rfl, rfl⟩)))
        (first | refine DD_off rfl rfl rfl rfl ?_ | refine DD_off' rfl rfl rfl rfl ?_ | (apply DD_on rfl rfl rfl rfl; next => (intro _; refine X_idx T.sl35 rfl rfl (by omega) (by omega) ⟨rfl, rfl⟩)))
        (first | refine DD_off rfl rfl rfl rfl ?_ | refine DD_off' rfl rfl rfl rfl ?_ | (apply DD_on rfl rfl rfl rfl; next => (intro _; refine X_fieldAddr T.fd29_0 rfl ⟨rfl, rfl⟩)))
        (first | refine DD_off rfl rfl rfl rfl ?_ | refine DD_off' rfl rfl rfl rfl ?_ | (apply DD_on rfl rfl rfl rfl; next => (intro _; refine X_fieldAddr T.fd23_1 rfl ⟨rfl, rfl⟩)))
        (first | refine DD_off rfl rfl rfl rfl ?_ | refine DD_off' rfl rfl rfl rfl ?_ | (apply DD_read_on rfl rfl rfl rfl; next => (refine S_loadT1 (v := i64 y.place.p) H 2 T.ty3 rfl spot_len rfl (j := i - 1) (o := 1) (by omega) hy (by decide) rfl ⟨rfl, rfl⟩)))
        (first | refine DD_off rfl rfl rfl rfl ?_ | refine DD_off' rfl rfl rfl rfl ?_ | (apply DD_on rfl rfl rfl rfl; next => (intro _; refine X_fieldAddr T.fd23_1 rfl ⟨rfl, rfl⟩)))
        (first | refine DD_off rfl rfl rfl rfl ?_ | refine DD_off' rfl rfl rfl rfl ?_ | (apply DD_read_on rfl rfl rfl rfl; next => (refine S_load1 H 0 T.ty3 rfl rfl (v := i64 x.place.p) rfl ⟨rfl, rfl⟩)))
        (first | refine DD_off rfl rfl rfl rfl ?_ | refine DD_off' rfl rfl rfl rfl ?_ | (apply DD_on rfl rfl rfl rfl; next => (intro _; first | refine X_cmp_t rfl rfl rfl (by first | assumption | omega) ⟨rfl, rfl⟩ | refine X_cmp_f rfl rfl rfl (by first | assumption | omega) ⟨rfl, rfl⟩ | refine X_bin rfl rfl rfl ⟨rfl, rfl⟩)))
        (first | refine DD_off rfl rfl rfl rfl ?_ | refine DD_off' rfl rfl rfl rfl ?_ | (apply DD_on rfl rfl rfl rfl; next => (intro _; refine X_pick rfl rfl ⟨rfl, rfl⟩)))
        apply DD_pure rfl rfl; next => (intro _; refine X_pick rfl rfl ⟨rfl, rfl⟩)
        apply DD_pure rfl rfl; next => (intro _; refine X_move rfl ⟨rfl, rfl⟩)
        (first | refine DD_off rfl rfl rfl rfl ?_ | refine DD_off' rfl rfl rfl rfl ?_ | (apply DD_read_on rfl rfl rfl rfl; next => ((first | refine S_load H 0 T.ty51 rfl rfl (l := zl z (.slice av cs.length cv)) rfl (Nat.le_of_ble_eq_true rfl) ⟨rfl, rfl⟩ | refine S_load H 1 T.ty51 rfl rfl (l := zl z (.slice av cs.length cv)) rfl (Nat.le_of_ble_eq_true rfl) ⟨rfl, rfl⟩ | refine S_load H 2 T.ty51 rfl rfl (l := zl z (.slice av cs.length cv)) rfl (Nat.le_of_ble_eq_true rfl) ⟨rfl, rfl⟩ | refine S_load H 3 T.ty51 rfl rfl (l := zl z (.slice av cs.length cv)) rfl (Nat.le_of_ble_eq_true rfl) ⟨rfl, rfl⟩ | refine S_load H 4 T.ty51 rfl rfl (l := zl z (.slice av cs.length cv)) rfl (Nat.le_of_ble_eq_true rfl) ⟨rfl, rfl⟩ | refine S_load H 5 T.ty51 rfl rfl (l := zl z (.slice av cs.length cv)) rfl (Nat.le_of_ble_eq_true rfl) ⟨rfl, rfl⟩ | refine S_load H 6 T.ty51 rfl rfl (l := zl z (.slice av cs.length cv)) rfl (Nat.le_of_ble_eq_true rfl) ⟨rfl, rfl⟩ | refine S_load H 7 T.ty51 rfl rfl (l := zl z (.slice av cs.length cv)) rfl (Nat.le_of_ble_eq_true rfl) ⟨rfl, rfl⟩ | refine S_load H 8 T.ty51 rfl rfl (l := zl z (.slice av cs.length cv)) rfl (Nat.le_of_ble_eq_true rfl) ⟨rfl, rfl⟩ | refine S_load H 9 T.ty51 rfl rfl (l := zl z (.slice av cs.length cv)) rfl (Nat.le_of_ble_eq_true rfl) ⟨rfl, rfl⟩))))
        (first | refine DD_off rfl rfl rfl rfl ?_ | refine DD_off' rfl rfl rfl rfl ?_ | (apply DD_read_on rfl rfl rfl rfl; next => ((first | refine S_load H 0 T.ty23 rfl rfl (l := x.place.enc) rfl (Nat.le_of_ble_eq_true rfl) ⟨rfl, rfl⟩ | refine S_load H 1 T.ty23 rfl rfl (l := x.place.enc) rfl (Nat.le_of_ble_eq_true rfl) ⟨rfl, rfl⟩ | refine S_load H 2 T.ty23 rfl rfl (l := x.place.enc) rfl (Nat.le_of_ble_eq_true rfl) ⟨rfl, rfl⟩ | refine S_load H 3 T.ty23 rfl rfl (l := x.place.enc) rfl (Nat.le_of_ble_eq_true rfl) ⟨rfl, rfl⟩ | refine S_load H 4 T.ty23 rfl rfl (l := x.place.enc) rfl (Nat.le_of_ble_eq_true rfl) ⟨rfl, rfl⟩ | refine S_load H 5 T.ty23 rfl rfl (l := x.place.enc) rfl (Nat.le_of_ble_eq_true rfl) ⟨rfl, rfl⟩ | refine S_load H 6 T.ty23 rfl rfl (l := x.place.enc) rfl (Nat.le_of_ble_eq_true rfl) ⟨rfl, rfl⟩ | refine S_load H 7 T.ty23 rfl rfl (l := x.place.enc) rfl (Nat.le_of_ble_eq_true rfl) ⟨rfl, rfl⟩ | refine S_load H 8 T.ty23 rfl rfl (l := x.place.enc) rfl (Nat.le_of_ble_eq_true rfl) ⟨rfl, rfl⟩ | refine S_load H 9 T.ty23 rfl rfl (l := x.place.enc) rfl (Nat.le_of_ble_eq_true rfl) ⟨rfl, rfl⟩))))
        (first | refine DD_eff_off rfl rfl rfl rfl ?_ | (refine DD_eff_on rfl rfl rfl rfl ?_; (refine X_call T.ent19 rfl (calls_to (rRefs_spec z _ cs x.place (by omega) (H.foc 4 rfl)) ?_); rintro r w ⟨rfl, H⟩; replace H := H.back 4 (by simp))))
        refine ⟨by repeat (first | exact rc_nil | refine rc_skip rfl ?_ | refine rc_true ?_), ?_⟩
        (first | refine DD_off rfl rfl rfl rfl ?_ | refine DD_off' rfl rfl rfl rfl ?_ | (apply DD_on rfl rfl rfl rfl; next => (intro _; first | refine X_cmp_t rfl rfl rfl (by first | assumption | omega) ⟨rfl, rfl⟩ | refine X_cmp_f rfl rfl rfl (by first | assumption | omega) ⟨rfl, rfl⟩ | refine X_bin rfl rfl rfl ⟨rfl, rfl⟩)))
        apply DD_pure rfl rfl; next => (intro _; refine X_pick rfl rfl ⟨rfl, rfl⟩)
        apply DD_pure rfl rfl; next => (intro _; refine X_move rfl ⟨rfl, rfl⟩)
        (first | refine DD_off rfl rfl rfl rfl ?_ | refine DD_off' rfl rfl rfl rfl ?_ | (apply DD_on rfl rfl rfl rfl; next => (intro _; refine X_move rfl ⟨rfl, rfl⟩)))
        (first | refine DD_off rfl rfl rfl rfl ?_ | refine DD_off' rfl rfl rfl rfl ?_ | (apply DD_read_on rfl rfl rfl rfl; next => ((first | refine S_load H 0 T.ty23 rfl rfl (l := x.place.enc) rfl (Nat.le_of_ble_eq_true rfl) ⟨rfl, rfl⟩ | refine S_load H 1 T.ty23 rfl rfl (l := x.place.enc) rfl (Nat.le_of_ble_eq_true rfl) ⟨rfl, rfl⟩ | refine S_load H 2 T.ty23 rfl rfl (l := x.place.enc) rfl (Nat.le_of_ble_eq_true rfl) ⟨rfl, rfl⟩ | refine S_load H 3 T.ty23 rfl rfl (l := x.place.enc) rfl (Nat.le_of_ble_eq_true rfl) ⟨rfl, rfl⟩ | refine S_load H 4 T.ty23 rfl rfl (l := x.place.enc) rfl (Nat.le_of_ble_eq_true rfl) ⟨rfl, rfl⟩ | refine S_load H 5 T.ty23 rfl rfl (l := x.place.enc) rfl (Nat.le_of_ble_eq_true rfl) ⟨rfl, rfl⟩ | refine S_load H 6 T.ty23 rfl rfl (l := x.place.enc) rfl (Nat.le_of_ble_eq_true rfl) ⟨rfl, rfl⟩ | refine S_load H 7 T.ty23 rfl rfl (l := x.place.enc) rfl (Nat.le_of_ble_eq_true rfl) ⟨rfl, rfl⟩ | refine S_load H 8 T.ty23 rfl rfl (l := x.place.enc) rfl (Nat.le_of_ble_eq_true rfl) ⟨rfl, rfl⟩ | refine S_load H 9 T.ty23 rfl rfl (l := x.place.enc) rfl (Nat.le_of_ble_eq_true rfl) ⟨rfl, rfl⟩))))
        (first | refine DD_off rfl rfl rfl rfl ?_ | refine DD_off' rfl rfl rfl rfl ?_ | (apply DD_read_on rfl rfl rfl rfl; next => ((first | refine S_load H 0 T.ty51 rfl rfl (l := zl z (.slice av cs.length cv)) rfl (Nat.le_of_ble_eq_true rfl) ⟨rfl, rfl⟩ | refine S_load H 1 T.ty51 rfl rfl (l := zl z (.slice av cs.length cv)) rfl (Nat.le_of_ble_eq_true rfl) ⟨rfl, rfl⟩ | refine S_load H 2 T.ty51 rfl rfl (l := zl z (.slice av cs.length cv)) rfl (Nat.le_of_ble_eq_true rfl) ⟨rfl, rfl⟩ | refine S_load H 3 T.ty51 rfl rfl (l := zl z (.slice av cs.length cv)) rfl (Nat.le_of_ble_eq_true rfl) ⟨rfl, rfl⟩ | refine S_load H 4 T.ty51 rfl rfl (l := zl z (.slice av cs.length cv)) rfl (Nat.le_of_ble_eq_true rfl) ⟨rfl, rfl⟩ | refine S_load H 5 T.ty51 rfl rfl (l := zl z (.slice av cs.length cv)) rfl (Nat.le_of_ble_eq_true rfl) ⟨rfl, rfl⟩ | refine S_load H 6 T.ty51 rfl rfl (l := zl z (.slice av cs.length cv)) rfl (Nat.le_of_ble_eq_true rfl) ⟨rfl, rfl⟩ | refine S_load H 7 T.ty51 rfl rfl (l := zl z (.slice av cs.length cv)) rfl (Nat.le_of_ble_eq_true rfl) ⟨rfl, rfl⟩ | refine S_load H 8 T.ty51 rfl rfl (l := zl z (.slice av cs.length cv)) rfl (Nat.le_of_ble_eq_true rfl) ⟨rfl, rfl⟩ | refine S_load H 9 T.ty51 rfl rfl (l := zl z (.slice av cs.length cv)) rfl (Nat.le_of_ble_eq_true rfl) ⟨rfl, rfl⟩))))
        (first | refine DD_off rfl rfl rfl rfl ?_ | refine DD_off' rfl rfl rfl rfl ?_ | (apply DD_read_on rfl rfl rfl rfl; next => ((first | refine S_load H 0 T.ty23 rfl rfl (l := x.place.enc) rfl (Nat.le_of_ble_eq_true rfl) ⟨rfl, rfl⟩ | refine S_load H 1 T.ty23 rfl rfl (l := x.place.enc) rfl (Nat.le_of_ble_eq_true rfl) ⟨rfl, rfl⟩ | refine S_load H 2 T.ty23 rfl rfl (l := x.place.enc) rfl (Nat.le_of_ble_eq_true rfl) ⟨rfl, rfl⟩ | refine S_load H 3 T.ty23 rfl rfl (l := x.place.enc) rfl (Nat.le_of_ble_eq_true rfl) ⟨rfl, rfl⟩ | refine S_load H 4 T.ty23 rfl rfl (l := x.place.enc) rfl (Nat.le_of_ble_eq_true rfl) ⟨rfl, rfl⟩ | refine S_load H 5 T.ty23 rfl rfl (l := x.place.enc) rfl (Nat.le_of_ble_eq_true rfl) ⟨rfl, rfl⟩ | refine S_load H 6 T.ty23 rfl rfl (l := x.place.enc) rfl (Nat.le_of_ble_eq_true rfl) ⟨rfl, rfl⟩ | refine S_load H 7 T.ty23 rfl rfl (l := x.place.enc) rfl (Nat.le_of_ble_eq_true rfl) ⟨rfl, rfl⟩ | refine S_load H 8 T.ty23 rfl rfl (l := x.place.enc) rfl (Nat.le_of_ble_eq_true rfl) ⟨rfl, rfl⟩ | refine S_load H 9 T.ty23 rfl rfl (l := x.place.enc) rfl (Nat.le_of_ble_eq_true rfl) ⟨rfl, rfl⟩))))
        (first | refine DD_eff_off rfl rfl rfl rfl ?_ | (refine DD_eff_on rfl rfl rfl rfl ?_; (refine X_call T.ent18 rfl (calls_to (h.refs x.place H.swap) ?_); rintro r w ⟨rfl, H⟩; replace H := H.swap)))
        refine ⟨?_, ?_⟩; next => (repeat (first | exact rc_nil | refine rc_skip rfl ?_ | refine rc_true ?_ | (refine rc_read ?_ ?_; next => (first | ((first | refine S_load H 0 T.ty51 rfl rfl (l := zl z (.slice av cs.length cv)) rfl (Nat.le_of_ble_eq_true rfl) ⟨rfl, rfl⟩ | refine S_load H 1 T.ty51 rfl rfl (l := zl z (.slice av cs.length cv)) rfl (Nat.le_of_ble_eq_true rfl) ⟨rfl, rfl⟩ | refine S_load H 2 T.ty51 rfl rfl (l := zl z (.slice av cs.length cv)) rfl (Nat.le_of_ble_eq_true rfl) ⟨rfl, rfl⟩ | refine S_load H 3 T.ty51 rfl rfl (l := zl z (.slice av cs.length cv)) rfl (Nat.le_of_ble_eq_true rfl) ⟨rfl, rfl⟩ | refine S_load H 4 T.ty51 rfl rfl (l := zl z (.slice av cs.length cv)) rfl (Nat.le_of_ble_eq_true rfl) ⟨rfl, rfl⟩ | refine S_load H 5 T.ty51 rfl rfl (l := zl z (.slice av cs.length cv)) rfl (Nat.le_of_ble_eq_true rfl) ⟨rfl, rfl⟩ | refine S_load H 6 T.ty51 rfl rfl (l := zl z (.slice av cs.length cv)) rfl (Nat.le_of_ble_eq_true rfl) ⟨rfl, rfl⟩ | refine S_load H 7 T.ty51 rfl rfl (l := zl z (.slice av cs.length cv)) rfl (Nat.le_of_ble_eq_true rfl) ⟨rfl, rfl⟩ | refine S_load H 8 T.ty51 rfl rfl (l := zl z (.slice av cs.length cv)) rfl (Nat.le_of_ble_eq_true rfl) ⟨rfl, rfl⟩ | refine S_load H 9 T.ty51 rfl rfl (l := zl z (.slice av cs.length cv)) rfl (Nat.le_of_ble_eq_true rfl) ⟨rfl, rfl⟩)) | ((first | refine S_load H 0 T.ty23 rfl rfl (l := x.place.enc) rfl (Nat.le_of_ble_eq_true rfl) ⟨rfl, rfl⟩ | refine S_load H 1 T.ty23 rfl rfl (l := x.place.enc) rfl (Nat.le_of_ble_eq_true rfl) ⟨rfl, rfl⟩ | refine S_load H 2 T.ty23 rfl rfl (l := x.place.enc) rfl (Nat.le_of_ble_eq_true rfl) ⟨rfl, rfl⟩ | refine S_load H 3 T.ty23 rfl rfl (l := x.place.enc) rfl (Nat.le_of_ble_eq_true rfl) ⟨rfl, rfl⟩ | refine S_load H 4 T.ty23 rfl rfl (l := x.place.enc) rfl (Nat.le_of_ble_eq_true rfl) ⟨rfl, rfl⟩ | refine S_load H 5 T.ty23 rfl rfl (l := x.place.enc) rfl (Nat.le_of_ble_eq_true rfl) ⟨rfl, rfl⟩ | refine S_load H 6 T.ty23 rfl rfl (l := x.place.enc) rfl (Nat.le_of_ble_eq_true rfl) ⟨rfl, rfl⟩ | refine S_load H 7 T.ty23 rfl rfl (l := x.place.enc) rfl (Nat.le_of_ble_eq_true rfl) ⟨rfl, rfl⟩ | refine S_load H 8 T.ty23 rfl rfl (l := x.place.enc) rfl (Nat.le_of_ble_eq_true rfl) ⟨rfl, rfl⟩ | refine S_load H 9 T.ty23 rfl rfl (l := x.place.enc) rfl (Nat.le_of_ble_eq_true rfl) ⟨rfl, rfl⟩))))))
        (first | refine DD_eff_off rfl rfl rfl rfl ?_ | (refine DD_eff_on rfl rfl rfl rfl ?_; (refine X_call T.ent19 rfl (calls_to (rRefs_spec z _ cs x.place (by omega) (H.foc 4 rfl)) ?_); rintro r w ⟨rfl, H⟩; replace H := H.back 4 (by simp))))
        refine ⟨by repeat (first | exact rc_nil | refine rc_skip rfl ?_ | refine rc_true ?_), ?_⟩
        (first | refine DD_off rfl rfl rfl rfl ?_ | refine DD_off' rfl rfl rfl rfl ?_ | (apply DD_on rfl rfl rfl rfl; next => (intro _; first | refine X_ne_t rfl rfl rfl (by first | assumption | omega) ⟨rfl, rfl⟩ | refine X_ne_f rfl rfl rfl (by first | assumption | omega) ⟨rfl, rfl⟩ | refine X_bin rfl rfl rfl ⟨rfl, rfl⟩)))
        apply DD_pure rfl rfl; next => (intro _; refine X_pick rfl rfl ⟨rfl, rfl⟩)
        exact ⟨_, by simp, rfl, ⟨rfl, rfl, rfl, rfl, rfl, rfl, rfl, trivial⟩, H⟩
    intro r w hr H
    skip
    refine hK19 _ _ (W_keep (Keep.cons 1 rfl (Keep.cons 5 rfl (Keep.cons 6 rfl (Keep.cons 8 rfl (Keep.cons 9 rfl (Keep.cons 10 rfl (Keep.cons 11 rfl (Keep.cons 89 rfl Keep.nil)))))))) ?_)
    obtain rfl : r = false := by cases r; rfl; exact (hr.1 rfl).elim
    refine W_false rfl ?_
    refine W_skip ?_
    refine hK18 _ _ (W_keep (Keep.cons 1 rfl (Keep.cons 5 rfl (Keep.cons 6 rfl (Keep.cons 8 rfl (Keep.cons 9 rfl (Keep.cons 10 rfl (Keep.cons 11 rfl (Keep.cons 89 rfl Keep.nil)))))))) ?_)
    refine W_reg rfl ?_
    refine RL_some ?_; (refine X_move rfl ?_)
    refine RL_some ?_; (refine S_load H 3 T.ty51 rfl rfl (l := zl z (.slice av cs.length cv)) rfl (Nat.le_of_ble_eq_true rfl) ?_)
    refine RL_some ?_; (refine S_load H 0 T.ty23 rfl rfl (l := x.place.enc) rfl (Nat.le_of_ble_eq_true rfl) ?_)
    refine RL_some ?_; (refine X_call T.ent19 rfl (calls_to (rRefs_spec z _ cs x.place (by omega) (H.foc 4 rfl)) ?_); rintro r w ⟨rfl, H⟩; replace H := H.back 4 (by simp))
    refine RL_some ?_; (first | refine X_int rfl rfl rfl (by omega) ?_ | refine X_bin rfl rfl rfl ?_)
    refine RL_some ?_; (refine X_assign rfl ?_)
    refine hK16 _ _ (W_keep (Keep.cons 1 rfl (Keep.cons 5 rfl (Keep.cons 6 rfl (Keep.cons 8 rfl (Keep.cons 9 rfl (Keep.cons 10 rfl Keep.nil)))))) ?_)
    refine W_reg rfl ?_
    refine RL_some ?_; (refine X_move rfl ?_)
    refine RL_some ?_; (first | refine X_int rfl rfl rfl (by omega) ?_ | refine X_bin rfl rfl rfl ?_)
    refine RL_some ?_; (refine X_assign rfl ?_)
    refine ⟨left - 1, by omega, i + 1, by omega, ?_, H.drop⟩
    rw [hst, Int.natCast_add]
    exact (Keep.cons 1 rfl (Keep.cons 5 rfl (Keep.cons 6 rfl (Keep.cons 8 rfl (Keep.cons 9 rfl (Keep.cons 10 rfl Keep.nil))))))
  refine W_exit ?_
  refine hK12 _ _ (W_keep (Keep.cons 1 rfl (Keep.cons 5 rfl (Keep.cons 6 rfl (Keep.cons 8 rfl (Keep.cons 9 rfl (Keep.cons 10 rfl (Keep.cons 47 rfl Keep.nil))))))) ?_)
  refine W_seq_k fun K20 hK20 => ?_
  have c := of_decide_eq_false c
  obtain rfl : i = ys.length := by omega
  rw [List.take_of_length_le (by simp), sum_all h hS]
  refine W_reg rfl ?_
  refine RL_some ?_; (refine X_assign rfl ?_)
  refine hK20 _ _ (W_keep (Keep.cons 1 rfl (Keep.cons 6 rfl (Keep.cons 9 rfl (Keep.cons 12 rfl Keep.nil)))) ?_)
  refine W_seq_k fun K21 hK21 => ?_
  refine W_seq_k fun K22 hK22 => ?_
  refine W_reg rfl ?_
  refine RL_some ?_; (refine X_assign rfl ?_)
  refine hK22 _ _ (W_keep (Keep.cons 1 rfl (Keep.cons 6 rfl (Keep.cons 9 rfl (Keep.cons 12 rfl (Keep.cons 13 rfl Keep.nil))))) ?_)
  refine W_block ?_
  refine W_loop (fun left pf w => ∃ (i : Nat), i + left = cs.length ∧ Keep pf [(1, i64 block), (6, pt b6 0), (9, i64 (cs.countP fun c => decide (c.s.place.b = block))), (12, i64 ((cs.take i).countP fun c => decide (c.s.place.b = block))), (13, i64 i)] ∧ St w0 w (PM m :: Tab (.slice ay ys.length cy) 29 14 Spot.enc ys :: Cs b6 (dmc z (.slice av cs.length cv)) 51 :: CT (.slice av cs.length cv) cs :: L)) (cs.length) ?_ ?_
  · skip
    exact ⟨0, by omega, (Keep.cons 1 rfl (Keep.cons 6 rfl (Keep.cons 9 rfl (Keep.cons 12 rfl (Keep.cons 13 rfl Keep.nil))))), H⟩
  clear H
  rintro left pf w ⟨i, hi, hpf, H⟩
  refine W_keep hpf ?_
  clear hpf
  have hcnt : ((cs.take i).countP fun c => decide (c.s.place.b = block)) ≤ i := by have := List.countP_le_length (p := fun c : Cell => decide (c.s.place.b = block)) (l := cs.take i); simp at this ⊢; omega
  refine W_seq_k fun K23 hK23 => ?_
  refine W_seq_k fun K24 hK24 => ?_
  refine W_reg rfl ?_
  refine RL_some ?_; (refine X_move rfl ?_)
  refine RL_some ?_; (refine X_fieldAddr T.fd51_1 rfl ?_)
  refine RL_some ?_; (refine S_load1 H 2 T.ty49 rfl rfl (v := .slice av cs.length cv) rfl ?_)
  refine RL_some ?_; (refine X_len T.sl49 rfl ?_)
  refine RL_some ?_; (first | refine X_cmp_t rfl rfl rfl (by first | assumption | omega) ?_ | refine X_cmp_f rfl rfl rfl (by first | assumption | omega) ?_ | refine X_bin rfl rfl rfl ?_)
  refine hK24 _ _ (W_keep (Keep.cons 1 rfl (Keep.cons 6 rfl (Keep.cons 9 rfl (Keep.cons 12 rfl (Keep.cons 13 rfl (Keep.cons 99 rfl Keep.nil)))))) ?_)
  refine W_if rfl (fun c => ?_) (fun c => ?_)
  · skip
    refine W_skip ?_
    refine hK23 _ _ (W_keep (Keep.cons 1 rfl (Keep.cons 6 rfl (Keep.cons 9 rfl (Keep.cons 12 rfl (Keep.cons 13 rfl (Keep.cons 99 rfl Keep.nil)))))) ?_)
    refine W_seq_k fun K25 hK25 => ?_
    refine W_block ?_
    refine W_seq_k fun K26 hK26 => ?_
    have c := of_decide_eq_true c
    obtain ⟨x, hx⟩ : ∃ x, cs[i]? = some x := ⟨_, List.getElem?_eq_getElem (by omega)⟩
    obtain ⟨g, cap', hv, _⟩ := H.tabPos' 3 rfl (by omega)
    simp only [Value.slice.injEq] at hv
    obtain ⟨rfl, _, rfl⟩ := hv
    have htk : ((cs.take (i + 1)).countP fun c => decide (c.s.place.b = block)) = ((cs.take i).countP fun c => decide (c.s.place.b = block)) + if x.s.place.b = block then 1 else 0 := by
      rw [List.take_add_one, hx, List.countP_append]
      simp only [Option.toList_some, List.countP_singleton, decide_eq_true_eq]
    refine W_reg rfl ?_
    refine RL_some ?_; (refine X_fieldAddr T.fd51_1 rfl ?_)
    refine RL_some ?_; (refine S_load1 H 2 T.ty49 rfl rfl (v := sl g 0 cs.length cv) rfl ?_)
    refine RL_some ?_; (refine X_move rfl ?_)
    refine RL_some ?_; (refine X_idx T.sl49 rfl rfl (by omega) (by omega) ?_)
    refine RL_some ?_; (refine X_fieldAddr T.fd63_2 rfl ?_)
    refine RL_some ?_; (refine X_fieldAddr T.fd32_0 rfl ?_)
    refine RL_some ?_; (refine X_fieldAddr T.fd23_0 rfl ?_)
    refine RL_some ?_; (refine S_loadT1 (v := i64 x.s.place.b) H 3 T.ty3 rfl cell_len rfl (j := i) (o := 2) (by omega) hx (by decide) rfl ?_)
    refine RL_some ?_; (refine X_move rfl ?_)
    refine RL_some ?_; (first | refine X_cmp_t rfl rfl rfl (by first | assumption | omega) ?_ | refine X_cmp_f rfl rfl rfl (by first | assumption | omega) ?_ | refine X_bin rfl rfl rfl ?_)
    refine hK26 _ _ (W_keep (Keep.cons 1 rfl (Keep.cons 6 rfl (Keep.cons 9 rfl (Keep.cons 12 rfl (Keep.cons 13 rfl (Keep.cons 111 rfl Keep.nil)))))) ?_)
    refine W_if rfl (fun d => ?_) (fun d => ?_)
    · skip
      refine W_reg rfl ?_
      refine RL_some ?_; (refine X_move rfl ?_)
      refine RL_some ?_; (first | refine X_int rfl rfl rfl (by omega) ?_ | refine X_bin rfl rfl rfl ?_)
      refine RL_some ?_; (refine X_assign rfl ?_)
      refine hK25 _ _ (W_keep (Keep.cons 1 rfl (Keep.cons 6 rfl (Keep.cons 9 rfl (Keep.cons 12 rfl (Keep.cons 13 rfl Keep.nil))))) ?_)
      refine W_reg rfl ?_
      refine RL_some ?_; (refine X_move rfl ?_)
      refine RL_some ?_; (first | refine X_int rfl rfl rfl (by omega) ?_ | refine X_bin rfl rfl rfl ?_)
      refine RL_some ?_; (refine X_assign rfl ?_)
      refine ⟨left - 1, by omega, i + 1, by omega, ?_, H⟩
      rw [htk, if_pos (of_decide_eq_true d)]
      exact (Keep.cons 1 rfl (Keep.cons 6 rfl (Keep.cons 9 rfl (Keep.cons 12 rfl (Keep.cons 13 rfl Keep.nil)))))
    refine W_skip ?_
    refine hK25 _ _ (W_keep (Keep.cons 1 rfl (Keep.cons 6 rfl (Keep.cons 9 rfl (Keep.cons 12 rfl (Keep.cons 13 rfl (Keep.cons 111 rfl Keep.nil)))))) ?_)
    refine W_reg rfl ?_
    refine RL_some ?_; (refine X_move rfl ?_)
    refine RL_some ?_; (first | refine X_int rfl rfl rfl (by omega) ?_ | refine X_bin rfl rfl rfl ?_)
    refine RL_some ?_; (refine X_assign rfl ?_)
    refine ⟨left - 1, by omega, i + 1, by omega, ?_, H⟩
    rw [htk, if_neg (of_decide_eq_false d)]
    exact (Keep.cons 1 rfl (Keep.cons 6 rfl (Keep.cons 9 rfl (Keep.cons 12 rfl (Keep.cons 13 rfl Keep.nil)))))
  refine W_exit ?_
  refine hK21 _ _ (W_keep (Keep.cons 1 rfl (Keep.cons 6 rfl (Keep.cons 9 rfl (Keep.cons 12 rfl (Keep.cons 13 rfl (Keep.cons 99 rfl Keep.nil)))))) ?_)
  refine W_seq_k fun K27 hK27 => ?_
  have c := of_decide_eq_false c
  obtain rfl : i = cs.length := by omega
  rw [List.take_length]
  refine W_reg rfl ?_
  refine RL_some ?_; (refine X_move rfl ?_)
  refine RL_some ?_; (refine X_move rfl ?_)
  refine RL_some ?_; (first | refine X_cmp_t rfl rfl rfl (by first | assumption | omega) ?_ | refine X_cmp_f rfl rfl rfl (by first | assumption | omega) ?_ | refine X_bin rfl rfl rfl ?_)
  refine RL_some ?_; (refine X_move rfl ?_)
  (first | refine RL_off rfl rfl ?_ | refine RL_off' rfl rfl ?_ | (refine RL_on rfl rfl ?_; (refine X_call T.ent11 rfl (calls_to (awake_spec H) ?_); rintro v w ⟨rfl, H⟩)))
  refine RL_some ?_; (refine X_pick rfl rfl ?_)
  refine RL_some ?_; (refine X_assign rfl ?_)
  refine hK27 _ _ (W_keep (Keep.cons 4 rfl Keep.nil) ?_)
  refine W_ret ?_
  (try simp only [thenQ, blockQ, noGotoQ])
  refine body_tmp (.inr rfl) rfl rfl ?_
  exact ⟨rfl, _, H⟩

theorem PagemapIns_lifted (os : Os) (started : os.Started) (H : Type) (enc : TypeId × Value → H) :
    ReturnsInHanded {} Try.checked os 6 .any (Rows.pagemapInsSpec.pre6 enc Try.prog Try.f6 Rows.pagemapInsRow.domain false) (Rows.pagemapInsSpec.post enc Try.prog Try.f6 false true false false) := by
  refine returnsInHanded_of_change (C := Try.checked) own_knob started (by kernel_rfl) Try.func6
    (ChangeSpec.witness6 (enc := enc) (C := Try.checked) false ⟨#[], #[.slice none 0 0, .int .i64 0], []⟩ 8 (by kernel_rfl) (by kernel_rfl) (by kernel_rfl) (by kernel_rfl))
    (law_contract (tb := 4) laid_out (by kernel_rfl) rfl ?_ rfl Try.underlying4 ?_)
  · intro ds hd
    match ds, hd with
    | [d1, d2], _ => rfl
  · intro W base args ds ps hsz hval hT hlt
    obtain ⟨v0, v1, rfl⟩ := args_two hsz
    obtain ⟨z, rfl, _⟩ := val_int Try.underlying3 (hval 1 _ v1 rfl rfl)
    obtain ⟨u0, us, d0, ds0, p0, q0, e0, rfl, rfl, h0, hT⟩ := trodAll_cons hT
    simp at e0
    obtain ⟨rfl, rfl⟩ := e0
    obtain ⟨ss, hss, hok⟩ := arg_slice (enc := StepT.enc) (ok := StepT.ok) (k := 19) Try.underlying47 step_size (by decide) stepT_len (fun fuel cs x hx => step_of_trod hx) (hval 0 _ v0 rfl rfl) h0 (fun p hp => hlt p (by simp [hp]))
    refine calls_to (Ins_spec ss z hok hss (St.start W)) ?_
    rintro v w' ⟨rfl, L', hS⟩
    exact ⟨rfl, St.dropApp (A := L') (L := []) (by simpa using hS)⟩

theorem PagemapIns_holds : Rows.PagemapInsSaid :=
  OpenClaim.holds_of_wide 6 Try.f6 rfl rfl rfl rfl rfl rfl rfl ⟨rfl, rfl, rfl, rfl, rfl⟩ rfl rfl rfl rfl rfl (by kernel_rfl) Try.func6 (by kernel_rfl)
    (of_decide_eq_true (by kernel_rfl)) (by unfold Func.isWrapper; first | (rw [if_pos (by decide +kernel)]; kernel_rfl) | (rw [if_neg (by decide +kernel)]; exact ⟨rfl, rfl⟩))
    (fun os started H enc _ => PagemapIns_lifted os started H enc)
end Go.Proofs.Ytinngnckojbpnaa
