import Derived.Test.YtinngnckojbpnaaPm17
/-! pagemap: the document's map: gone, Right. -/
namespace Go.Proofs.Ytinngnckojbpnaa
open Go.Nep
set_option maxRecDepth 100000
set_option linter.unusedVariables false
set_option linter.unusedSimpArgs false
set_option maxHeartbeats 1600000

def insP (p : Pl) : List Pl → List Pl
  | [] => [p]
  | y :: r => if aheadP y p then y :: insP p r else p :: y :: r
def goneStep (cb : List Cell) (out : List Pl) (p : Pl) : List Pl := if 0 < refsD cb p ∨ p ∈ out then out else insP p out
def goneL (cb : List Cell) (cs : List Cell) : List Pl := cs.foldl (fun out c => goneStep cb out c.s.place) []

theorem ins_at (p : Pl) : ∀ (out : List Pl) (i : Nat), i ≤ out.length → (∀ y ∈ out.take i, aheadP y p = true) → (∀ y, out[i]? = some y → aheadP y p = false) → out.take i ++ ([p] ++ out.drop i) = insP p out := by
  intro out
  induction out with
  | nil => intro i _ _ _; simp [insP]
  | cons x r ih =>
    intro i hi h1 h2
    cases i with
    | zero => have := h2 x rfl; simp [insP, this]
    | succ i =>
      have hx := h1 x (by simp)
      simp only [insP, hx, if_true, List.take_succ_cons, List.drop_succ_cons, List.cons_append]
      have := ih i (by simpa using hi) (fun y hy => h1 y (by simp [hy])) (fun y hy => h2 y (by simpa using hy))
      rw [← this]; simp
theorem insP_len (p : Pl) (out : List Pl) : (insP p out).length = out.length + 1 := by
  induction out with
  | nil => rfl
  | cons x r ih => unfold insP; split <;> simp [ih]
theorem goneStep_len (cb : List Cell) (out : List Pl) (p : Pl) : (goneStep cb out p).length ≤ out.length + 1 := by
  unfold goneStep
  split
  · omega
  · rw [insP_len]; omega
theorem goneL_take (cb cs : List Cell) (i : Nat) {c : Cell} (h : cs[i]? = some c) : goneL cb (cs.take (i + 1)) = goneStep cb (goneL cb (cs.take i)) c.s.place := by
  unfold goneL
  rw [List.take_add_one, h, List.foldl_append]
  rfl
theorem goneL_len (cb cs : List Cell) : (goneL cb cs).length ≤ cs.length := by
  unfold goneL
  suffices h : ∀ out : List Pl, (cs.foldl (fun out c => goneStep cb out c.s.place) out).length ≤ out.length + cs.length by simpa using h []
  induction cs with
  | nil => intro out; simp
  | cons c r ih =>
    intro out
    have h1 := ih (goneStep cb out c.s.place)
    have h2 := goneStep_len cb out c.s.place
    simp only [List.foldl_cons, List.length_cons]
    omega

theorem gone_spec (za zb : Z4) (va vb : Value) (ca cb : List Cell) {w0 w : World} {L : List Asn} (hla : ca.length ≤ 1000000) (hlb : cb.length ≤ 1000000) (H : St w0 w (CT va ca :: CT vb cb :: L)) :
    Calls Try.prog 44 #[.agg (dmc za va), .agg (dmc zb vb)] w (After fun r w' => St w0 w' (PT r (goneL cb ca) :: CT va ca :: CT vb cb :: L)) := by
  obtain ⟨ad, cap, rfl, _⟩ := H.tabVal
  refine calls_of_W (N := 75) (args := [.agg (dmc za (.slice ad ca.length cap)), .agg (dmc zb vb)]) Try.func44 rfl Try.ntmps44 (by simp) ?_
  refine W_seq_k fun K1 hK1 => ?_
  refine W_reg rfl ?_
  refine RL_some ?_; (refine S_box H rfl ?_; intro b2 w H)
  refine RL_some ?_; (refine S_box H rfl ?_; intro b3 w H)
  refine RL_some ?_; (refine X_assign rfl ?_)
  refine hK1 _ _ (W_keep (Keep.cons 2 rfl (Keep.cons 3 rfl Keep.nil)) ?_)
  refine W_seq_k fun K2 hK2 => ?_
  refine W_reg rfl ?_
  refine RL_some ?_; (refine S_lit0T H Pl.enc T.sl41 ?_; intro bo w H)
  refine RL_some ?_; (refine X_assign rfl ?_)
  refine hK2 _ _ (W_keep (Keep.cons 2 rfl (Keep.cons 3 rfl (Keep.cons 5 rfl Keep.nil))) ?_)
  refine W_seq_k fun K3 hK3 => ?_
  refine W_seq_k fun K4 hK4 => ?_
  refine W_reg rfl ?_
  refine RL_some ?_; (refine X_assign rfl ?_)
  refine hK4 _ _ (W_keep (Keep.cons 2 rfl (Keep.cons 3 rfl (Keep.cons 5 rfl (Keep.cons 6 rfl Keep.nil)))) ?_)
  refine W_block ?_
  refine W_loop (fun left pf w => ∃ i vo, i + left = ca.length ∧ Keep pf [(2, pt b2 0), (3, pt b3 0), (5, vo), (6, i64 i)] ∧ St w0 w (PT vo (goneL cb (ca.take i)) :: Cs b3 (dmc zb vb) 51 :: Cs b2 (dmc za (.slice ad ca.length cap)) 51 :: CT (.slice ad ca.length cap) ca :: CT vb cb :: L)) (ca.length) ?_ ?_
  · skip
    exact ⟨0, _, by omega, (Keep.cons 2 rfl (Keep.cons 3 rfl (Keep.cons 5 rfl (Keep.cons 6 rfl Keep.nil)))), H⟩
  clear H
  rintro left pf w ⟨i, vo, hi, hpf, H⟩
  refine W_keep hpf ?_
  clear hpf
  generalize hout : goneL cb (ca.take i) = out at H
  have holen : out.length ≤ i := by rw [← hout]; have := goneL_len cb (ca.take i); simp at this; omega
  obtain ⟨ado, capo, rfl, hco⟩ := H.tabVal
  refine W_seq_k fun K5 hK5 => ?_
  refine W_seq_k fun K6 hK6 => ?_
  refine W_reg rfl ?_
  refine RL_some ?_; (refine X_move rfl ?_)
  refine RL_some ?_; (refine X_fieldAddr T.fd51_1 rfl ?_)
  refine RL_some ?_; (refine S_load1 H 2 T.ty49 rfl rfl (v := .slice ad ca.length cap) rfl ?_)
  refine RL_some ?_; (refine X_len T.sl49 rfl ?_)
  refine RL_some ?_; (first | refine X_cmp_t rfl rfl rfl (by first | assumption | omega) ?_ | refine X_cmp_f rfl rfl rfl (by first | assumption | omega) ?_ | refine X_bin rfl rfl rfl ?_)
  refine hK6 _ _ (W_keep (Keep.cons 2 rfl (Keep.cons 3 rfl (Keep.cons 5 rfl (Keep.cons 6 rfl (Keep.cons 17 rfl Keep.nil))))) ?_)
  refine W_if rfl (fun c => ?_) (fun c => ?_)
  · skip
    refine W_skip ?_
    refine hK5 _ _ (W_keep (Keep.cons 2 rfl (Keep.cons 3 rfl (Keep.cons 5 rfl (Keep.cons 6 rfl (Keep.cons 17 rfl Keep.nil))))) ?_)
    refine W_seq_k fun K7 hK7 => ?_
    refine W_block ?_
    refine W_seq_k fun K8 hK8 => ?_
    have c := of_decide_eq_true c
    obtain ⟨x, hx⟩ : ∃ x, ca[i]? = some x := ⟨_, List.getElem?_eq_getElem (by omega)⟩
    obtain ⟨g, cap', hv, _⟩ := H.tabPos' 3 rfl (by omega)
    simp only [Value.slice.injEq] at hv
    obtain ⟨rfl, _, rfl⟩ := hv
    obtain ⟨p, hp⟩ : ∃ p, p = x.s.place := ⟨_, rfl⟩
    refine W_reg rfl ?_
    refine RL_some ?_; (refine X_fieldAddr T.fd51_1 rfl ?_)
    refine RL_some ?_; (refine S_load1 H 2 T.ty49 rfl rfl (v := sl g 0 ca.length cap) rfl ?_)
    refine RL_some ?_; (refine X_move rfl ?_)
    refine RL_some ?_; (refine X_idx T.sl49 rfl rfl (by omega) (by omega) ?_)
    refine RL_some ?_; (refine X_fieldAddr T.fd63_2 rfl ?_)
    refine RL_some ?_; (refine X_fieldAddr T.fd32_0 rfl ?_)
    refine RL_some ?_; (refine S_loadT H 3 T.ty23 rfl cell_len rfl (j := i) (o := 2) (by omega) hx (by decide) (l := p.enc) (by rw [hp]; rfl) ?_)
    refine RL_some ?_; (refine S_alloc H T.ze23 ?_; intro b7 w H)
    refine RL_none ?_; ((refine S_store H 0 T.ty23 rfl rfl rfl rfl (Nat.le_of_ble_eq_true rfl) rfl (c' := p.enc.toArray) rfl ?_; intro w H))
    refine hK8 _ _ (W_keep (Keep.cons 2 rfl (Keep.cons 3 rfl (Keep.cons 5 rfl (Keep.cons 6 rfl (Keep.cons 7 rfl Keep.nil))))) ?_)
    refine W_seq_k fun K9 hK9 => ?_
    refine W_boolR 8 (0 < refsD cb p) [2, 3, 5, 6, 7] H ?_ ?_
    · skip
      all_goals
        refine W_reg rfl ?_
        refine RL_some ?_; (refine S_load H 2 T.ty51 rfl rfl (l := [i64 zb.a, i64 zb.b, i64 zb.c, i64 zb.d, vb]) rfl (Nat.le_of_ble_eq_true rfl) ?_)
        refine RL_some ?_; (refine S_load H 0 T.ty23 rfl rfl (l := p.enc) rfl (Nat.le_of_ble_eq_true rfl) ?_)
        refine RL_some ?_; (refine X_call T.ent19 rfl (calls_to (rRefs_spec zb vb cb p (by omega) (H.foc 5 rfl)) ?_); rintro v w ⟨rfl, H⟩; replace H := H.back 5 (by simp))
        refine RL_some ?_; (first | refine X_cmp_t rfl rfl rfl (by first | assumption | omega) ?_ | refine X_cmp_f rfl rfl rfl (by first | assumption | omega) ?_ | refine X_bin rfl rfl rfl ?_)
        refine RL_some ?_; (refine X_assign rfl ?_)
        exact ⟨_, by simp, rfl, ⟨rfl, rfl, rfl, rfl, rfl, trivial⟩, H⟩
    intro q w hq H
    skip
    refine hK9 _ _ (W_keep (Keep.cons 2 rfl (Keep.cons 3 rfl (Keep.cons 5 rfl (Keep.cons 6 rfl (Keep.cons 7 rfl (Keep.cons 8 rfl Keep.nil)))))) ?_)
    refine W_seq_k fun K10 hK10 => ?_
    refine W_seq_k fun K11 hK11 => ?_
    refine W_reg rfl ?_
    refine RL_some ?_; (refine X_assign rfl ?_)
    refine hK11 _ _ (W_keep (Keep.cons 2 rfl (Keep.cons 3 rfl (Keep.cons 5 rfl (Keep.cons 6 rfl (Keep.cons 7 rfl (Keep.cons 8 rfl (Keep.cons 9 rfl Keep.nil))))))) ?_)
    refine W_block ?_
    refine W_loop (fun left2 pf w => ∃ (k : Nat) (q : Bool), k + left2 = out.length ∧ (q = true ↔ 0 < refsD cb p ∨ p ∈ out.take k) ∧ Keep pf [(2, pt b2 0), (3, pt b3 0), (5, .slice ado out.length capo), (6, i64 i), (7, pt b7 0), (8, .bool q), (9, i64 k)] ∧ St w0 w (Cs b7 p.enc.toArray 23 :: PT (.slice ado out.length capo) out :: Cs b3 (dmc zb vb) 51 :: Cs b2 (dmc za (sl g 0 ca.length cap)) 51 :: CT (sl g 0 ca.length cap) ca :: CT vb cb :: L)) (out.length) ?_ ?_
    · skip
      exact ⟨0, q, by omega, by simpa using hq, (Keep.cons 2 rfl (Keep.cons 3 rfl (Keep.cons 5 rfl (Keep.cons 6 rfl (Keep.cons 7 rfl (Keep.cons 8 rfl (Keep.cons 9 rfl Keep.nil))))))), H⟩
    clear H
    rintro left2 pf w ⟨k, q2, hk, hq2, hpf, H⟩
    refine W_keep hpf ?_
    clear hpf
    refine W_seq_k fun K12 hK12 => ?_
    refine W_seq_k fun K13 hK13 => ?_
    refine W_reg rfl ?_
    refine RL_some ?_; (refine X_move rfl ?_)
    refine RL_some ?_; (refine X_move rfl ?_)
    refine RL_some ?_; (refine X_len T.sl41 rfl ?_)
    refine RL_some ?_; (first | refine X_cmp_t rfl rfl rfl (by first | assumption | omega) ?_ | refine X_cmp_f rfl rfl rfl (by first | assumption | omega) ?_ | refine X_bin rfl rfl rfl ?_)
    refine hK13 _ _ (W_keep (Keep.cons 2 rfl (Keep.cons 3 rfl (Keep.cons 5 rfl (Keep.cons 6 rfl (Keep.cons 7 rfl (Keep.cons 8 rfl (Keep.cons 9 rfl (Keep.cons 34 rfl Keep.nil)))))))) ?_)
    refine W_if rfl (fun c2 => ?_) (fun c2 => ?_)
    · skip
      refine W_skip ?_
      refine hK12 _ _ (W_keep (Keep.cons 2 rfl (Keep.cons 3 rfl (Keep.cons 5 rfl (Keep.cons 6 rfl (Keep.cons 7 rfl (Keep.cons 8 rfl (Keep.cons 9 rfl (Keep.cons 34 rfl Keep.nil)))))))) ?_)
      refine W_seq_k fun K14 hK14 => ?_
      refine W_block ?_
      have c2 := of_decide_eq_true c2
      obtain ⟨y, hy⟩ : ∃ y, out[k]? = some y := ⟨_, List.getElem?_eq_getElem (by omega)⟩
      obtain ⟨g2, cap2, hv, _⟩ := H.tabPos' 1 rfl (by omega)
      simp only [Value.slice.injEq] at hv
      obtain ⟨rfl, _, rfl⟩ := hv
      refine W_boolR 8 (q2 = true ∨ y = p) [2, 3, 5, 6, 7, 9] H ?_ ?_
      · cases q2
        all_goals
          refine W_draw (.p 0 (.p 1 (.p 2 (.p 3 (.p 4 (.p 5 (.p 6 (.p 7 (.p 8 (.e 9 [] .nil .none)))))))))) T.mixed rfl ?_
          replace H := H.drew
          apply DD_pure rfl rfl; next => (intro _; refine X_move rfl ⟨rfl, rfl⟩)
          apply DD_pure rfl rfl; next => (intro _; refine X_move rfl ⟨rfl, rfl⟩)
          (first | refine DD_off rfl rfl rfl rfl ?_ | refine DD_off' rfl rfl rfl rfl ?_ | (apply DD_on rfl rfl rfl rfl; next => (intro _; refine X_move rfl ⟨rfl, rfl⟩)))
          (first | refine DD_off rfl rfl rfl rfl ?_ | refine DD_off' rfl rfl rfl rfl ?_ | (apply DD_on rfl rfl rfl rfl; next => (intro _; refine X_move rfl ⟨rfl, rfl⟩)))
          (first | refine DD_off rfl rfl rfl rfl ?_ | refine DD_off' rfl rfl rfl rfl ?_ | (apply DD_on rfl rfl rfl rfl; next => (intro _; refine X_idx T.sl41 rfl rfl (by omega) (by omega) ⟨rfl, rfl⟩)))
          (first | refine DD_off rfl rfl rfl rfl ?_ | refine DD_off' rfl rfl rfl rfl ?_ | (apply DD_read_on rfl rfl rfl rfl; next => (refine S_loadT H 1 T.ty23 rfl pl_len rfl (j := k) (o := 0) (by omega) hy (by decide) (l := y.enc) rfl ⟨rfl, rfl⟩)))
          (first | refine DD_off rfl rfl rfl rfl ?_ | refine DD_off' rfl rfl rfl rfl ?_ | (apply DD_read_on rfl rfl rfl rfl; next => (refine S_load H 0 T.ty23 rfl rfl (l := p.enc) rfl (Nat.le_of_ble_eq_true rfl) ⟨rfl, rfl⟩)))
          (first | refine DD_off rfl rfl rfl rfl ?_ | refine DD_off' rfl rfl rfl rfl ?_ | (apply DD_on rfl rfl rfl rfl; next => (intro _; refine X_eqS T.eg23 (pl_eq 9998 y p) rfl rfl ⟨rfl, rfl⟩)))
          apply DD_pure rfl rfl; next => (intro _; refine X_pick rfl rfl ⟨rfl, rfl⟩)
          refine DD_eff rfl rfl ?_; (refine X_assign rfl ?_)
          refine ⟨by repeat (first | exact rc_nil | refine rc_skip rfl ?_ | refine rc_true ?_), ?_⟩
          exact ⟨_, by simp, rfl, ⟨rfl, rfl, rfl, rfl, rfl, rfl, trivial⟩, H⟩
      intro q3 w hq3 H
      skip
      refine hK14 _ _ (W_keep (Keep.cons 2 rfl (Keep.cons 3 rfl (Keep.cons 5 rfl (Keep.cons 6 rfl (Keep.cons 7 rfl (Keep.cons 8 rfl (Keep.cons 9 rfl Keep.nil))))))) ?_)
      refine W_reg rfl ?_
      refine RL_some ?_; (refine X_move rfl ?_)
      refine RL_some ?_; (first | refine X_int rfl rfl rfl (by omega) ?_ | refine X_bin rfl rfl rfl ?_)
      refine RL_some ?_; (refine X_assign rfl ?_)
      refine ⟨left2 - 1, by omega, k + 1, q3, by omega, ?_, (Keep.cons 2 rfl (Keep.cons 3 rfl (Keep.cons 5 rfl (Keep.cons 6 rfl (Keep.cons 7 rfl (Keep.cons 8 rfl (Keep.cons 9 rfl Keep.nil))))))), H⟩
      rw [hq3, hq2, List.take_add_one, hy]
      simp only [Option.toList_some, List.mem_append, List.mem_singleton]
      rw [or_assoc, eq_comm (a := y)]
    refine W_exit ?_
    refine hK10 _ _ (W_keep (Keep.cons 2 rfl (Keep.cons 3 rfl (Keep.cons 5 rfl (Keep.cons 6 rfl (Keep.cons 7 rfl (Keep.cons 8 rfl (Keep.cons 9 rfl (Keep.cons 34 rfl Keep.nil)))))))) ?_)
    refine W_seq_k fun K15 hK15 => ?_
    refine W_seq_k fun K16 hK16 => ?_
    have c2 := of_decide_eq_false c2
    obtain rfl : k = out.length := by omega
    rw [List.take_length] at hq2
    refine W_reg rfl ?_
    refine RL_some ?_; (refine X_move rfl ?_)
    refine hK16 _ _ (W_keep (Keep.cons 2 rfl (Keep.cons 3 rfl (Keep.cons 5 rfl (Keep.cons 6 rfl (Keep.cons 7 rfl (Keep.cons 46 rfl Keep.nil)))))) ?_)
    refine W_if rfl (fun c3 => ?_) (fun c3 => ?_)
    · skip
      refine W_exit ?_
      refine hK7 _ _ (W_keep (Keep.cons 2 rfl (Keep.cons 3 rfl (Keep.cons 5 rfl (Keep.cons 6 rfl (Keep.cons 7 rfl (Keep.cons 46 rfl Keep.nil)))))) ?_)
      refine W_reg rfl ?_
      refine RL_some ?_; (refine X_move rfl ?_)
      refine RL_some ?_; (first | refine X_int rfl rfl rfl (by omega) ?_ | refine X_bin rfl rfl rfl ?_)
      refine RL_some ?_; (refine X_assign rfl ?_)
      refine ⟨left - 1, by omega, i + 1, .slice ado out.length capo, by omega, (Keep.cons 2 rfl (Keep.cons 3 rfl (Keep.cons 5 rfl (Keep.cons 6 rfl Keep.nil)))), ?_⟩
      rw [goneL_take cb ca i hx, hout, ← hp, show goneStep cb out p = out by unfold goneStep; rw [if_pos (hq2.1 c3)]]
      exact H.drop
    refine W_skip ?_
    refine hK15 _ _ (W_keep (Keep.cons 2 rfl (Keep.cons 3 rfl (Keep.cons 5 rfl (Keep.cons 6 rfl (Keep.cons 7 rfl (Keep.cons 46 rfl Keep.nil)))))) ?_)
    refine W_seq_k fun K17 hK17 => ?_
    have c3 : ¬ (0 < refsD cb p ∨ p ∈ out) := fun h => by rw [hq2.2 h] at c3; cases c3
    refine W_reg rfl ?_
    refine RL_some ?_; (refine X_assign rfl ?_)
    refine hK17 _ _ (W_keep (Keep.cons 2 rfl (Keep.cons 3 rfl (Keep.cons 5 rfl (Keep.cons 6 rfl (Keep.cons 7 rfl (Keep.cons 10 rfl Keep.nil)))))) ?_)
    refine W_seq_k fun K18 hK18 => ?_
    refine W_block ?_
    refine W_loop (fun left3 pf w => ∃ (k : Nat), k + left3 = out.length ∧ (∀ y ∈ out.take k, aheadP y p = true) ∧ Keep pf [(2, pt b2 0), (3, pt b3 0), (5, .slice ado out.length capo), (6, i64 i), (7, pt b7 0), (10, i64 k)] ∧ St w0 w (Cs b7 p.enc.toArray 23 :: PT (.slice ado out.length capo) out :: Cs b3 (dmc zb vb) 51 :: Cs b2 (dmc za (sl g 0 ca.length cap)) 51 :: CT (sl g 0 ca.length cap) ca :: CT vb cb :: L)) (out.length) ?_ ?_
    · skip
      exact ⟨0, by omega, by simp, (Keep.cons 2 rfl (Keep.cons 3 rfl (Keep.cons 5 rfl (Keep.cons 6 rfl (Keep.cons 7 rfl (Keep.cons 10 rfl Keep.nil)))))), H⟩
    clear H
    rintro left3 pf w ⟨k, hk, hah, hpf, H⟩
    refine W_keep hpf ?_
    clear hpf
    refine W_seq_k fun K19 hK19 => ?_
    refine W_seq_k fun K20 hK20 => ?_
    have hcs : (∃ y g2, out[k]? = some y ∧ ado = some ⟨g2, 0, none⟩ ∧ (k : Int) < out.length) ∨ (out[k]? = none ∧ ¬ (k : Int) < out.length) := by
      rcases Nat.lt_or_ge k out.length with h | h
      · obtain ⟨g2, cap2, hv, _⟩ := H.tabPos' 1 rfl (by omega)
        simp only [Value.slice.injEq] at hv
        exact .inl ⟨_, g2, List.getElem?_eq_getElem h, hv.1, by omega⟩
      · exact .inr ⟨List.getElem?_eq_none h, by omega⟩
    refine W_boolR 58 (∃ y, out[k]? = some y ∧ aheadP y p = true) [2, 3, 5, 6, 7, 10] H ?_ ?_
    · rcases hcs with ⟨y, g2, hy, rfl, e⟩ | ⟨hy, e⟩
      all_goals
        refine W_draw (.p 0 (.p 1 (.p 2 (.p 3 (.p 4 (.p 5 (.p 6 (.p 7 (.p 8 (.p 9 (.e 10 [] (.p 11 .nil) .none))))))))))) T.mixed rfl ?_
        replace H := H.drew
        apply DD_pure rfl rfl; next => (intro _; refine X_move rfl ⟨rfl, rfl⟩)
        apply DD_pure rfl rfl; next => (intro _; refine X_move rfl ⟨rfl, rfl⟩)
        apply DD_pure rfl rfl; next => (intro _; refine X_len T.sl41 rfl ⟨rfl, rfl⟩)
        apply DD_pure rfl rfl; next => (intro _; first | refine X_cmp_t rfl rfl rfl (by first | assumption | omega) ⟨rfl, rfl⟩ | refine X_cmp_f rfl rfl rfl (by first | assumption | omega) ⟨rfl, rfl⟩ | refine X_bin rfl rfl rfl ⟨rfl, rfl⟩)
        apply DD_pure rfl rfl; next => (intro _; refine X_move rfl ⟨rfl, rfl⟩)
        (first | refine DD_off rfl rfl rfl rfl ?_ | refine DD_off' rfl rfl rfl rfl ?_ | (apply DD_on rfl rfl rfl rfl; next => (intro _; refine X_move rfl ⟨rfl, rfl⟩)))
        (first | refine DD_off rfl rfl rfl rfl ?_ | refine DD_off' rfl rfl rfl rfl ?_ | (apply DD_on rfl rfl rfl rfl; next => (intro _; refine X_move rfl ⟨rfl, rfl⟩)))
        (first | refine DD_off rfl rfl rfl rfl ?_ | refine DD_off' rfl rfl rfl rfl ?_ | (apply DD_on rfl rfl rfl rfl; next => (intro _; refine X_idx T.sl41 rfl rfl (by omega) (by omega) ⟨rfl, rfl⟩)))
        (first | refine DD_off rfl rfl rfl rfl ?_ | refine DD_off' rfl rfl rfl rfl ?_ | (apply DD_read_on rfl rfl rfl rfl; next => (refine S_loadT H 1 T.ty23 rfl pl_len rfl (j := k) (o := 0) (by omega) hy (by decide) (l := y.enc) rfl ⟨rfl, rfl⟩)))
        (first | refine DD_off rfl rfl rfl rfl ?_ | refine DD_off' rfl rfl rfl rfl ?_ | (apply DD_read_on rfl rfl rfl rfl; next => (refine S_load H 0 T.ty23 rfl rfl (l := p.enc) rfl (Nat.le_of_ble_eq_true rfl) ⟨rfl, rfl⟩)))
        (first | refine DD_eff_off rfl rfl rfl rfl ?_ | (refine DD_eff_on rfl rfl rfl rfl ?_; (refine X_call T.ent48 rfl (calls_to (ahead_spec y p H) ?_); rintro v w ⟨rfl, H⟩)))
        refine ⟨by repeat (first | exact rc_nil | refine rc_skip rfl ?_ | refine rc_true ?_), ?_⟩
        apply DD_pure rfl rfl; next => (intro _; refine X_pick rfl rfl ⟨rfl, rfl⟩)
        exact ⟨_, by simp [hy], rfl, ⟨rfl, rfl, rfl, rfl, rfl, rfl, trivial⟩, H⟩
    intro r w hr H
    skip
    refine hK20 _ _ (W_keep (Keep.cons 2 rfl (Keep.cons 3 rfl (Keep.cons 5 rfl (Keep.cons 6 rfl (Keep.cons 7 rfl (Keep.cons 10 rfl (Keep.cons 58 rfl Keep.nil))))))) ?_)
    refine W_if rfl (fun c4 => ?_) (fun c4 => ?_)
    · skip
      refine W_skip ?_
      refine hK19 _ _ (W_keep (Keep.cons 2 rfl (Keep.cons 3 rfl (Keep.cons 5 rfl (Keep.cons 6 rfl (Keep.cons 7 rfl (Keep.cons 10 rfl (Keep.cons 58 rfl Keep.nil))))))) ?_)
      refine W_block ?_
      refine W_reg rfl ?_
      refine RL_some ?_; (refine X_move rfl ?_)
      refine RL_some ?_; (first | refine X_int rfl rfl rfl (by omega) ?_ | refine X_bin rfl rfl rfl ?_)
      refine RL_some ?_; (refine X_assign rfl ?_)
      obtain ⟨y, hy, hay⟩ := hr.1 c4
      have hlt := (List.getElem?_eq_some_iff.1 hy).1
      refine ⟨left3 - 1, by omega, k + 1, by omega, fun y' hy' => ?_, (Keep.cons 2 rfl (Keep.cons 3 rfl (Keep.cons 5 rfl (Keep.cons 6 rfl (Keep.cons 7 rfl (Keep.cons 10 rfl Keep.nil)))))), H⟩
      rw [List.take_add_one, hy] at hy'
      rcases List.mem_append.1 hy' with h | h
      · exact hah y' h
      · rw [List.mem_singleton.1 h]; exact hay
    refine W_exit ?_
    refine hK18 _ _ (W_keep (Keep.cons 2 rfl (Keep.cons 3 rfl (Keep.cons 5 rfl (Keep.cons 6 rfl (Keep.cons 7 rfl (Keep.cons 10 rfl (Keep.cons 58 rfl Keep.nil))))))) ?_)
    refine W_seq_k fun K21 hK21 => ?_
    have hkl : k ≤ out.length := by omega
    have hins := ins_at p out k hkl hah fun y hy => by cases h : aheadP y p; rfl; rw [hr.2 ⟨y, hy, h⟩] at c4; cases c4
    refine W_draw (.p 0 (.p 2 (.p 3 (.p 4 (.e 1 [2, 3, 4] (.e 5 [] (.p 6 .nil) .none) .none))))) T.mixed rfl ?_
    replace H := H.drew
    apply DD_read rfl rfl; next => (refine S_load H 0 T.ty23 rfl rfl (l := p.enc) rfl (Nat.le_of_ble_eq_true rfl) ⟨rfl, rfl⟩)
    apply DD_pure rfl rfl; next => (intro _; refine X_move rfl ⟨rfl, rfl⟩)
    apply DD_pure rfl rfl; next => (intro _; refine X_move rfl ⟨rfl, rfl⟩)
    apply DD_pure rfl rfl; next => (intro _; refine X_slice T.sl41 rfl rfl rfl rfl (bnd_l (by omega) (by omega)) ⟨rfl, rfl⟩)
    refine DD_eff rfl rfl ?_; (refine S_lit1T (enc := Pl.enc) (a := p) H T.sl41 T.ze23 rfl rfl rfl rfl (by decide) (by decide) ?_; intro bl w H)
    refine ⟨by repeat (first | exact rc_nil | refine rc_skip rfl ?_ | refine rc_true ?_), ?_⟩
    refine DD_eff rfl rfl ?_; (refine S_appendSub H 0 2 T.sl41 T.ze23 rfl (by decide) pl_len rfl rfl rfl rfl (by omega) (by omega) (pls_one _) (by simp; omega) (by simp; omega) ?_; intro vr w H)
    refine ⟨by repeat (first | exact rc_nil | refine rc_skip rfl ?_ | refine rc_true ?_), ?_⟩
    apply DD_pure rfl rfl; next => (intro _; refine X_assign rfl ⟨rfl, rfl⟩)
    refine hK21 _ _ (W_keep (Keep.cons 2 rfl (Keep.cons 3 rfl (Keep.cons 5 rfl (Keep.cons 6 rfl (Keep.cons 10 rfl (Keep.cons 11 rfl Keep.nil)))))) ?_)
    refine W_reg rfl ?_
    refine RL_some ?_; (refine S_lit0T H Pl.enc T.sl41 ?_; intro bq w H)
    refine RL_some ?_; (refine X_move rfl ?_)
    refine RL_some ?_; (refine X_move rfl ?_)
    refine RL_some ?_; (refine X_slice T.sl41 rfl rfl rfl rfl (bnd_h (by omega) (by omega)) ?_)
    refine RL_some ?_; (refine S_appendSub H 0 3 T.sl41 T.ze23 rfl (by decide) pl_len rfl rfl rfl rfl (by omega) (by omega) (pls_one _) (by simp; omega) (by simp; omega) ?_; intro vq w H)
    refine RL_some ?_; (refine X_move rfl ?_)
    refine RL_some ?_; (refine S_appendTT H 0 1 T.sl41 T.ze23 rfl (by decide) rfl rfl rfl rfl (pls_one _) (by simp; omega) (by simp; omega) ?_; intro vn w H)
    refine RL_some ?_; (refine X_assign rfl ?_)
    refine hK7 _ _ (W_keep (Keep.cons 2 rfl (Keep.cons 3 rfl (Keep.cons 5 rfl (Keep.cons 6 rfl Keep.nil)))) ?_)
    refine W_reg rfl ?_
    refine RL_some ?_; (refine X_move rfl ?_)
    refine RL_some ?_; (first | refine X_int rfl rfl rfl (by omega) ?_ | refine X_bin rfl rfl rfl ?_)
    refine RL_some ?_; (refine X_assign rfl ?_)
    refine ⟨left - 1, by omega, i + 1, vn, by omega, (Keep.cons 2 rfl (Keep.cons 3 rfl (Keep.cons 5 rfl (Keep.cons 6 rfl Keep.nil)))), ?_⟩
    rw [goneL_take cb ca i hx, hout, ← hp, show goneStep cb out p = insP p out by unfold goneStep; rw [if_neg c3], ← hins]
    have H2 := H.swap.drop.swap.drop.swap.drop
    have e1 : (out.drop k).take (out.length - k) = out.drop k := List.take_of_length_le (by simp)
    simp only [List.nil_append, List.drop_zero, Nat.sub_zero, e1, Int.toNat_natCast] at H2
    exact H2
  refine W_exit ?_
  refine hK3 _ _ (W_keep (Keep.cons 2 rfl (Keep.cons 3 rfl (Keep.cons 5 rfl (Keep.cons 6 rfl (Keep.cons 17 rfl Keep.nil))))) ?_)
  refine W_seq_k fun K22 hK22 => ?_
  have c := of_decide_eq_false c
  obtain rfl : i = ca.length := by omega
  rw [List.take_length] at hout
  subst hout
  refine W_reg rfl ?_
  refine RL_some ?_; (refine X_move rfl ?_)
  refine RL_some ?_; (refine X_assign rfl ?_)
  refine hK22 _ _ (W_keep (Keep.cons 4 rfl Keep.nil) ?_)
  refine W_ret ?_
  (try simp only [thenQ, blockQ, noGotoQ])
  refine body_tmp (.inr rfl) rfl rfl ?_
  exact H.swap.drop.swap.drop

/-- may a spot be put? -/
def rightD (z : Z4) (s : Spot) : Prop := 0 ≤ s.head.ns ∧ s.head.ns ≤ 3 ∧ (s.head.kind = 1 ∨ s.head.kind = 2) ∧ 1 ≤ s.head.count ∧ s.head.count ≤ z.get s.head.ns.toNat ∧ s.head.lba ≤ z.get s.head.ns.toNat - s.head.count
instance (z : Z4) (s : Spot) : Decidable (rightD z s) := by unfold rightD; infer_instance
structure Z4.ok (z : Z4) : Prop where
  rng : ∀ k, 0 ≤ z.get k ∧ z.get k ≤ 65535

theorem rRight_spec (z : Z4) (v : Value) (s : Spot) (hz : z.ok) (hok : s.head.ok) {w0 w : World} {L : List Asn} (H : St w0 w L) :
    Calls Try.prog 35 #[.agg (dmc z v), .agg s.enc.toArray] w (After fun r w' => r = .bool (decide (rightD z s)) ∧ St w0 w' L) := by
  have hzr := hz.rng s.head.ns.toNat
  obtain ⟨hl0, hl1⟩ := hok
  refine calls_of_W (N := 53) (args := [.agg (dmc z v), .agg s.enc.toArray]) Try.func35 rfl Try.ntmps35 (by simp) ?_
  refine W_seq_k fun K1 hK1 => ?_
  refine W_reg rfl ?_
  refine RL_some ?_; (refine S_box H rfl ?_; intro b2 w H)
  refine RL_some ?_; (refine S_box H rfl ?_; intro b3 w H)
  refine RL_some ?_; (refine X_assign rfl ?_)
  refine hK1 _ _ (W_keep (Keep.cons 2 rfl (Keep.cons 3 rfl Keep.nil)) ?_)
  refine W_seq_k fun K2 hK2 => ?_
  refine W_reg rfl ?_
  refine RL_some ?_; (refine X_fieldAddr T.fd32_1 rfl ?_)
  refine RL_some ?_; (refine S_load H 0 T.ty27 rfl rfl (l := s.head.enc) rfl (Nat.le_of_ble_eq_true rfl) ?_)
  refine RL_some ?_; (refine S_alloc H T.ze27 ?_; intro b5 w H)
  refine RL_none ?_; ((refine S_store H 0 T.ty27 rfl rfl rfl rfl (Nat.le_of_ble_eq_true rfl) rfl (c' := s.head.enc.toArray) rfl ?_; intro w H))
  refine hK2 _ _ (W_keep (Keep.cons 2 rfl (Keep.cons 5 rfl Keep.nil)) ?_)
  refine W_seq_k fun K3 hK3 => ?_
  refine W_seq_k fun K4 hK4 => ?_
  refine W_boolR 40 (¬ (0 ≤ s.head.ns ∧ s.head.ns ≤ 3 ∧ (s.head.kind = 1 ∨ s.head.kind = 2) ∧ 1 ≤ s.head.count ∧ s.head.count ≤ z.get s.head.ns.toNat)) [2, 5] H ?_ ?_
  · rcases (by omega : s.head.ns < 0 ∨ (¬ s.head.ns < 0 ∧ 3 < s.head.ns) ∨ (0 ≤ s.head.ns ∧ s.head.ns ≤ 3 ∧ ¬ s.head.kind = 1 ∧ ¬ s.head.kind = 2) ∨ (0 ≤ s.head.ns ∧ s.head.ns ≤ 3 ∧ s.head.kind = 1 ∧ s.head.count < 1) ∨ (0 ≤ s.head.ns ∧ s.head.ns ≤ 3 ∧ s.head.kind = 2 ∧ s.head.count < 1) ∨ (0 ≤ s.head.ns ∧ s.head.ns ≤ 3 ∧ s.head.kind = 1 ∧ 1 ≤ s.head.count) ∨ (0 ≤ s.head.ns ∧ s.head.ns ≤ 3 ∧ s.head.kind = 2 ∧ 1 ≤ s.head.count)) with e | e | e | e | e | e | e
    all_goals
      refine W_draw (.p 0 (.p 1 (.p 2 (.p 3 (.p 4 (.p 5 (.p 6 (.p 7 (.p 8 (.p 9 (.p 10 (.p 11 (.p 12 (.p 13 (.p 14 (.p 15 (.p 16 (.p 17 (.p 18 (.p 19 (.p 20 (.p 21 (.p 22 (.p 23 (.p 24 (.p 25 (.p 26 (.p 27 (.p 28 (.p 29 (.p 30 (.p 31 (.p 32 .nil))))))))))))))))))))))))))))))))) T.mixed rfl ?_
      replace H := H.drew
      apply DD_pure rfl rfl; next => (intro _; refine X_fieldAddr T.fd27_1 rfl ⟨rfl, rfl⟩)
      apply DD_read rfl rfl; next => (refine S_load1 H 0 T.ty3 rfl rfl (v := i64 s.head.ns) rfl ⟨rfl, rfl⟩)
      apply DD_pure rfl rfl; next => (intro _; first | refine X_cmp_t rfl rfl rfl (by first | assumption | omega) ⟨rfl, rfl⟩ | refine X_cmp_f rfl rfl rfl (by first | assumption | omega) ⟨rfl, rfl⟩ | refine X_bin rfl rfl rfl ⟨rfl, rfl⟩)
      apply DD_pure rfl rfl; next => (intro _; refine X_move rfl ⟨rfl, rfl⟩)
      (first | refine DD_off rfl rfl rfl rfl ?_ | refine DD_off' rfl rfl rfl rfl ?_ | (apply DD_on rfl rfl rfl rfl; next => (intro _; refine X_fieldAddr T.fd27_1 rfl ⟨rfl, rfl⟩)))
      (first | refine DD_off rfl rfl rfl rfl ?_ | refine DD_off' rfl rfl rfl rfl ?_ | (apply DD_read_on rfl rfl rfl rfl; next => (refine S_load1 H 0 T.ty3 rfl rfl (v := i64 s.head.ns) rfl ⟨rfl, rfl⟩)))
      (first | refine DD_off rfl rfl rfl rfl ?_ | refine DD_off' rfl rfl rfl rfl ?_ | (apply DD_on rfl rfl rfl rfl; next => (intro _; first | refine X_cmp_t rfl rfl rfl (by first | assumption | omega) ⟨rfl, rfl⟩ | refine X_cmp_f rfl rfl rfl (by first | assumption | omega) ⟨rfl, rfl⟩ | refine X_bin rfl rfl rfl ⟨rfl, rfl⟩)))
      apply DD_pure rfl rfl; next => (intro _; refine X_pick rfl rfl ⟨rfl, rfl⟩)
      apply DD_pure rfl rfl; next => (intro _; refine X_move rfl ⟨rfl, rfl⟩)
      (first | refine DD_off rfl rfl rfl rfl ?_ | refine DD_off' rfl rfl rfl rfl ?_ | (apply DD_on rfl rfl rfl rfl; next => (intro _; refine X_fieldAddr T.fd27_0 rfl ⟨rfl, rfl⟩)))
      (first | refine DD_off rfl rfl rfl rfl ?_ | refine DD_off' rfl rfl rfl rfl ?_ | (apply DD_read_on rfl rfl rfl rfl; next => (refine S_load1 H 0 T.ty3 rfl rfl (v := i64 s.head.kind) rfl ⟨rfl, rfl⟩)))
      (first | refine DD_off rfl rfl rfl rfl ?_ | refine DD_off' rfl rfl rfl rfl ?_ | (apply DD_on rfl rfl rfl rfl; next => (intro _; first | refine X_ne_t rfl rfl rfl (by first | assumption | omega) ⟨rfl, rfl⟩ | refine X_ne_f rfl rfl rfl (by first | assumption | omega) ⟨rfl, rfl⟩ | refine X_bin rfl rfl rfl ⟨rfl, rfl⟩)))
      (first | refine DD_off rfl rfl rfl rfl ?_ | refine DD_off' rfl rfl rfl rfl ?_ | (apply DD_on rfl rfl rfl rfl; next => (intro _; refine X_move rfl ⟨rfl, rfl⟩)))
      (first | refine DD_off rfl rfl rfl rfl ?_ | refine DD_off' rfl rfl rfl rfl ?_ | (apply DD_on rfl rfl rfl rfl; next => (intro _; refine X_fieldAddr T.fd27_0 rfl ⟨rfl, rfl⟩)))
      (first | refine DD_off rfl rfl rfl rfl ?_ | refine DD_off' rfl rfl rfl rfl ?_ | (apply DD_read_on rfl rfl rfl rfl; next => (refine S_load1 H 0 T.ty3 rfl rfl (v := i64 s.head.kind) rfl ⟨rfl, rfl⟩)))
      (first | refine DD_off rfl rfl rfl rfl ?_ | refine DD_off' rfl rfl rfl rfl ?_ | (apply DD_on rfl rfl rfl rfl; next => (intro _; first | refine X_ne_t rfl rfl rfl (by first | assumption | omega) ⟨rfl, rfl⟩ | refine X_ne_f rfl rfl rfl (by first | assumption | omega) ⟨rfl, rfl⟩ | refine X_bin rfl rfl rfl ⟨rfl, rfl⟩)))
      (first | refine DD_off rfl rfl rfl rfl ?_ | refine DD_off' rfl rfl rfl rfl ?_ | (apply DD_on rfl rfl rfl rfl; next => (intro _; refine X_pick rfl rfl ⟨rfl, rfl⟩)))
      apply DD_pure rfl rfl; next => (intro _; refine X_pick rfl rfl ⟨rfl, rfl⟩)
      apply DD_pure rfl rfl; next => (intro _; refine X_move rfl ⟨rfl, rfl⟩)
      (first | refine DD_off rfl rfl rfl rfl ?_ | refine DD_off' rfl rfl rfl rfl ?_ | (apply DD_on rfl rfl rfl rfl; next => (intro _; refine X_fieldAddr T.fd27_2 rfl ⟨rfl, rfl⟩)))
      (first | refine DD_off rfl rfl rfl rfl ?_ | refine DD_off' rfl rfl rfl rfl ?_ | (apply DD_read_on rfl rfl rfl rfl; next => (refine S_load1 H 0 T.ty3 rfl rfl (v := i64 s.head.count) rfl ⟨rfl, rfl⟩)))
      (first | refine DD_off rfl rfl rfl rfl ?_ | refine DD_off' rfl rfl rfl rfl ?_ | (apply DD_on rfl rfl rfl rfl; next => (intro _; first | refine X_cmp_t rfl rfl rfl (by first | assumption | omega) ⟨rfl, rfl⟩ | refine X_cmp_f rfl rfl rfl (by first | assumption | omega) ⟨rfl, rfl⟩ | refine X_bin rfl rfl rfl ⟨rfl, rfl⟩)))
      apply DD_pure rfl rfl; next => (intro _; refine X_pick rfl rfl ⟨rfl, rfl⟩)
      apply DD_pure rfl rfl; next => (intro _; refine X_move rfl ⟨rfl, rfl⟩)
      (first | refine DD_off rfl rfl rfl rfl ?_ | refine DD_off' rfl rfl rfl rfl ?_ | (apply DD_on rfl rfl rfl rfl; next => (intro _; refine X_fieldAddr T.fd27_2 rfl ⟨rfl, rfl⟩)))
      (first | refine DD_off rfl rfl rfl rfl ?_ | refine DD_off' rfl rfl rfl rfl ?_ | (apply DD_read_on rfl rfl rfl rfl; next => (refine S_load1 H 0 T.ty3 rfl rfl (v := i64 s.head.count) rfl ⟨rfl, rfl⟩)))
      (first | refine DD_off rfl rfl rfl rfl ?_ | refine DD_off' rfl rfl rfl rfl ?_ | (apply DD_on rfl rfl rfl rfl; next => (intro _; refine X_fieldAddr T.fd27_1 rfl ⟨rfl, rfl⟩)))
      (first | refine DD_off rfl rfl rfl rfl ?_ | refine DD_off' rfl rfl rfl rfl ?_ | (apply DD_read_on rfl rfl rfl rfl; next => (refine S_load1 H 0 T.ty3 rfl rfl (v := i64 s.head.ns) rfl ⟨rfl, rfl⟩)))
      (first | refine DD_off rfl rfl rfl rfl ?_ | refine DD_off' rfl rfl rfl rfl ?_ | (apply DD_on rfl rfl rfl rfl; next => (intro _; refine X_fieldAddr T.fd51_0 rfl ⟨rfl, rfl⟩)))
      (first | refine DD_off rfl rfl rfl rfl ?_ | refine DD_off' rfl rfl rfl rfl ?_ | (apply DD_on rfl rfl rfl rfl; next => (intro _; refine X_idxA T.ar48 rfl rfl (by omega) (by omega) ⟨rfl, rfl⟩)))
      (first | refine DD_off rfl rfl rfl rfl ?_ | refine DD_off' rfl rfl rfl rfl ?_ | (apply DD_read_on rfl rfl rfl rfl; next => (refine S_load1 (v := i64 (z.get s.head.ns.toNat)) H 2 T.ty3 rfl rfl (by rw [Nat.mul_one, Nat.zero_add]; exact dmc_get z v (by omega)) ⟨rfl, rfl⟩)))
      (first | refine DD_off rfl rfl rfl rfl ?_ | refine DD_off' rfl rfl rfl rfl ?_ | (apply DD_on rfl rfl rfl rfl; next => (intro _; first | refine X_cmp_t rfl rfl rfl (by first | assumption | omega) ⟨rfl, rfl⟩ | refine X_cmp_f rfl rfl rfl (by first | assumption | omega) ⟨rfl, rfl⟩ | refine X_bin rfl rfl rfl ⟨rfl, rfl⟩)))
      apply DD_pure rfl rfl; next => (intro _; refine X_pick rfl rfl ⟨rfl, rfl⟩)
      exact ⟨_, by first | (simp; omega) | (simp [e]; done), rfl, ⟨rfl, rfl, trivial⟩, H⟩
  intro q w hq H
  skip
  refine hK4 _ _ (W_keep (Keep.cons 2 rfl (Keep.cons 5 rfl (Keep.cons 40 rfl Keep.nil))) ?_)
  refine W_if rfl (fun c => ?_) (fun c => ?_)
  · skip
    refine W_seq_k fun K5 hK5 => ?_
    refine W_reg rfl ?_
    refine RL_some ?_; (refine X_assign rfl ?_)
    refine hK5 _ _ (W_keep (Keep.cons 4 rfl Keep.nil) ?_)
    refine W_ret ?_
    (try simp only [thenQ, blockQ, noGotoQ])
    refine body_tmp (.inr rfl) rfl rfl ?_
    refine ⟨?_, H.drop.drop.drop⟩
    rw [decide_eq_false (fun h => hq.1 c ⟨h.1, h.2.1, h.2.2.1, h.2.2.2.1, h.2.2.2.2.1⟩)]
  refine W_skip ?_
  refine hK3 _ _ (W_keep (Keep.cons 2 rfl (Keep.cons 5 rfl (Keep.cons 40 rfl Keep.nil))) ?_)
  refine W_seq_k fun K6 hK6 => ?_
  have hin : 0 ≤ s.head.ns ∧ s.head.ns ≤ 3 ∧ (s.head.kind = 1 ∨ s.head.kind = 2) ∧ 1 ≤ s.head.count ∧ s.head.count ≤ z.get s.head.ns.toNat := Classical.byContradiction fun h => by rw [hq.2 h] at c; cases c
  refine W_boolR 4 (s.head.lba ≤ z.get s.head.ns.toNat - s.head.count) [] H ?_ ?_
  · have hw := wrap64_in (e := s.head.lba) ⟨by omega, by omega⟩
    all_goals
      refine W_draw (.p 0 (.p 1 (.p 2 (.p 3 (.p 4 (.p 5 (.p 6 (.p 7 (.p 8 (.p 9 (.p 10 (.p 11 (.p 12 .nil))))))))))))) T.mixed rfl ?_
      replace H := H.drew
      apply DD_pure rfl rfl; next => (intro _; refine X_fieldAddr T.fd27_3 rfl ⟨rfl, rfl⟩)
      apply DD_read rfl rfl; next => (refine S_load1 H 0 T.ty24 rfl rfl (v := .int .u32 s.head.lba) rfl ⟨rfl, rfl⟩)
      apply DD_pure rfl rfl; next => (intro _; refine X_conv T.in24 T.in3 rfl ⟨rfl, rfl⟩)
      apply DD_pure rfl rfl; next => (intro _; refine X_fieldAddr T.fd27_1 rfl ⟨rfl, rfl⟩)
      apply DD_read rfl rfl; next => (refine S_load1 H 0 T.ty3 rfl rfl (v := i64 s.head.ns) rfl ⟨rfl, rfl⟩)
      apply DD_pure rfl rfl; next => (intro _; refine X_fieldAddr T.fd51_0 rfl ⟨rfl, rfl⟩)
      apply DD_pure rfl rfl; next => (intro _; refine X_idxA T.ar48 rfl rfl (by omega) (by omega) ⟨rfl, rfl⟩)
      apply DD_read rfl rfl; next => (refine S_load1 (v := i64 (z.get s.head.ns.toNat)) H 2 T.ty3 rfl rfl (by rw [Nat.mul_one, Nat.zero_add]; exact dmc_get z v (by omega)) ⟨rfl, rfl⟩)
      apply DD_pure rfl rfl; next => (intro _; refine X_fieldAddr T.fd27_2 rfl ⟨rfl, rfl⟩)
      apply DD_read rfl rfl; next => (refine S_load1 H 0 T.ty3 rfl rfl (v := i64 s.head.count) rfl ⟨rfl, rfl⟩)
      apply DD_pure rfl rfl; next => (intro _; first | refine X_int rfl rfl rfl (by omega) ⟨rfl, rfl⟩ | refine X_bin rfl rfl rfl ⟨rfl, rfl⟩)
      apply DD_pure rfl rfl; next => (intro _; first | refine X_cmp_t rfl rfl rfl (by first | assumption | omega) ⟨rfl, rfl⟩ | refine X_cmp_f rfl rfl rfl (by first | assumption | omega) ⟨rfl, rfl⟩ | refine X_bin rfl rfl rfl ⟨rfl, rfl⟩)
      apply DD_pure rfl rfl; next => (intro _; refine X_assign rfl ⟨rfl, rfl⟩)
      exact ⟨_, by simp [hw], rfl, trivial, H⟩
  intro r w hr H
  skip
  refine hK6 _ _ (W_keep (Keep.cons 4 rfl Keep.nil) ?_)
  refine W_ret ?_
  (try simp only [thenQ, blockQ, noGotoQ])
  refine body_tmp (.inr rfl) rfl rfl ?_
  refine ⟨?_, H.drop.drop.drop⟩
  rw [show r = decide (rightD z s) by rw [Bool.eq_iff_iff, hr, decide_eq_true_iff]; exact ⟨fun h => ⟨hin.1, hin.2.1, hin.2.2.1, hin.2.2.2.1, hin.2.2.2.2, h⟩, fun h => h.2.2.2.2.2⟩]
end Go.Proofs.Ytinngnckojbpnaa
