/- PagemapOrders answers true whatever size, spots and order it is given; its arguments read as they did. -/
import Derived.Test.YtinngnckojbpnaaPm14
/-! pagemap: the walk of PagemapOrders. -/
namespace Go.Proofs.Ytinngnckojbpnaa
open Go.Nep Go.Sort Go.Shelf Go.Proofs
set_option maxRecDepth 100000
set_option linter.unusedVariables false
set_option linter.unusedSimpArgs false
set_option maxHeartbeats 1600000

def encI (n : Int) : List Value := [i64 n]
theorem encI_len (n : Int) : (encI n).length = 1 := rfl
theorem spot_len (s : Spot) : s.enc.length = 14 := rfl
theorem spots_one (l : List Spot) : (l.flatMap Spot.enc).all Nep.one = true := by
  rw [List.all_eq_true]
  intro v hv
  obtain ⟨s, _, hs⟩ := List.mem_flatMap.1 hv
  simp [Spot.enc] at hs
  rcases hs with rfl | rfl | rfl | rfl | rfl | rfl | rfl | rfl | rfl | rfl | rfl | rfl | rfl | rfl <;> rfl

/-- a spot of the namespace that is put to -/
def toOne (s : Spot) : Spot := { s with head := { s.head with ns := 1 } }
theorem toOne_ok {s : Spot} (h : s.head.ok) : (toOne s).head.ok := ⟨h.l0, h.l1⟩
def unl (s t : Spot) : Prop := s.head.epoch ≠ t.head.epoch ∨ s.head.counter ≠ t.head.counter
instance (s t : Spot) : Decidable (unl s t) := by unfold unl; infer_instance

theorem unlike_own {ls : List Spot} (h : ∀ (a b : Nat) s t, b < a → ls[a]? = some s → ls[b]? = some t → unl s t) : Unlike (ls.map toOne) := by
  intro s hs t ht h1 h2
  obtain ⟨a, ha⟩ := List.mem_iff_getElem?.1 hs
  obtain ⟨b, hb⟩ := List.mem_iff_getElem?.1 ht
  rw [List.getElem?_map] at ha hb
  cases ha2 : ls[a]? with
  | none => rw [ha2] at ha; simp at ha
  | some s' =>
    cases hb2 : ls[b]? with
    | none => rw [hb2] at hb; simp at hb
    | some t' =>
      rw [ha2] at ha; rw [hb2] at hb
      simp at ha hb
      subst ha; subst hb
      rcases Nat.lt_trichotomy a b with h3 | h3 | h3
      · rcases h b a _ _ h3 hb2 ha2 with h4 | h4
        · exact absurd h1.symm h4
        · exact absurd h2.symm h4
      · subst h3; rw [ha2] at hb2; cases hb2; rfl
      · rcases h a b _ _ h3 ha2 hb2 with h4 | h4
        · exact absurd h1 h4
        · exact absurd h2 h4

/-- own, of which so many are turned -/
def half (ls : List Spot) (i : Nat) : List Spot := (ls.take i).map toOne ++ ls.drop i
theorem half_len (ls : List Spot) (i : Nat) : (half ls i).length = ls.length := by simp [half]; omega
theorem half_get (ls : List Spot) {i : Nat} {s : Spot} (h : ls[i]? = some s) : (half ls i)[i]? = some s := by
  have hi := (List.getElem?_eq_some_iff.1 h).1
  unfold half
  rw [List.getElem?_append_right (by simp; omega)]
  simp [Nat.min_eq_left (Nat.le_of_lt hi), h]
theorem half_set (ls : List Spot) {i : Nat} {s : Spot} (h : ls[i]? = some s) : (half ls i).set i (toOne s) = half ls (i + 1) := by
  obtain ⟨hi, hs⟩ := List.getElem?_eq_some_iff.1 h
  unfold half
  rw [List.set_append_right _ _ (by simp; omega), List.take_succ_eq_append_getElem hi, List.map_append, List.drop_eq_getElem_cons hi]
  simp [Nat.min_eq_left (Nat.le_of_lt hi), hs]
theorem half_got (ls : List Spot) {i : Nat} {s : Spot} (h : ls[i]? = some s) : (half ls (i + 1))[i]? = some (toOne s) := by
  have hi := (List.getElem?_eq_some_iff.1 h).1
  rw [← half_set ls h, List.getElem?_set_self (by rw [half_len]; exact hi)]
theorem half_zero (ls : List Spot) : half ls 0 = ls := by simp [half]
theorem half_all (ls : List Spot) : half ls ls.length = ls.map toOne := by simp [half]

theorem Orders_spec (z : Int) (hz0 : 0 ≤ z) (hz1 : z ≤ 255) (ls : List Spot) (os : List Int) (hls : ∀ s ∈ ls, s.ok) (hos : ∀ n ∈ os, IntKind.i64.has n) {vl vo : Value} {w0 : World} (hl : ArgS w0 vl 14 Spot.enc ls) (ho : ArgS w0 vo 1 encI os) {w : World} {L : List Asn} (H : St w0 w L) :
    Calls Try.prog 4 #[.int .u8 z, vl, vo] w (After fun v w' => v = .bool true ∧ ∃ L', St w0 w' L') := by
  obtain ⟨al, cl, rfl⟩ := hl.val
  obtain ⟨ao, co, rfl⟩ := ho.val
  have hmod : z.tmod 40 = z % 40 := Int.tmod_eq_emod_of_nonneg hz0
  by_cases hbig : 12 < ls.length ∨ 30 < os.length
  · have hcase : (12 : Int) < ls.length ∨ ((ls.length : Int) ≤ 12 ∧ (30 : Int) < os.length) := by omega
    rcases hcase with hc | ⟨hc, hd⟩
    all_goals
      refine calls_of_W (N := 174) (args := [.int .u8 z, .slice al ls.length cl, .slice ao os.length co]) Try.func4 rfl Try.ntmps4 (by simp) ?_
      refine W_seq_k fun K1 hK1 => ?_
      refine W_reg rfl ?_
      refine RL_some ?_; (refine X_assign rfl ?_)
      refine hK1 _ _ (W_keep (Keep.cons 0 rfl (Keep.cons 1 rfl (Keep.cons 2 rfl Keep.nil))) ?_)
      refine W_seq_k fun K2 hK2 => ?_
      refine W_reg rfl ?_
      refine RL_some ?_; (refine X_move rfl ?_)
      refine RL_some ?_; (refine X_rem rfl rfl (by decide) ?_; rw [hmod])
      refine RL_some ?_; (refine X_conv T.in5 T.in3 rfl ?_; rw [wrap64_in ⟨by omega, by omega⟩])
      refine RL_some ?_; (first | refine X_int rfl rfl rfl (by omega) ?_ | refine X_bin rfl rfl rfl ?_)
      refine RL_some ?_; (refine X_assign rfl ?_)
      refine hK2 _ _ (W_keep (Keep.cons 1 rfl (Keep.cons 2 rfl (Keep.cons 7 rfl Keep.nil))) ?_)
      refine W_seq_k fun K3 hK3 => ?_
      refine W_seq_k fun K4 hK4 => ?_
      refine W_reg rfl ?_
      refine RL_some ?_; (refine X_move rfl ?_)
      refine RL_some ?_; (refine X_len T.sl35 rfl ?_)
      refine RL_some ?_; (first | refine X_cmp_t rfl rfl rfl (by first | assumption | omega) ?_ | refine X_cmp_f rfl rfl rfl (by first | assumption | omega) ?_ | refine X_bin rfl rfl rfl ?_)
      refine RL_some ?_; (refine X_move rfl ?_)
      (first | refine RL_off rfl rfl ?_ | refine RL_off' rfl rfl ?_ | (refine RL_on rfl rfl ?_; (refine X_move rfl ?_)))
      (first | refine RL_off rfl rfl ?_ | refine RL_off' rfl rfl ?_ | (refine RL_on rfl rfl ?_; (refine X_len T.sl36 rfl ?_)))
      (first | refine RL_off rfl rfl ?_ | refine RL_off' rfl rfl ?_ | (refine RL_on rfl rfl ?_; (first | refine X_cmp_t rfl rfl rfl (by first | assumption | omega) ?_ | refine X_cmp_f rfl rfl rfl (by first | assumption | omega) ?_ | refine X_bin rfl rfl rfl ?_)))
      refine RL_some ?_; (refine X_pick rfl rfl ?_)
      refine hK4 _ _ (W_keep (Keep.cons 1 rfl (Keep.cons 2 rfl (Keep.cons 7 rfl (Keep.cons 32 rfl Keep.nil)))) ?_)
      refine W_true rfl ?_
      refine W_seq_k fun K5 hK5 => ?_
      refine W_reg rfl ?_
      refine RL_some ?_; (refine X_call T.ent11 rfl (calls_to (awake_spec H) ?_); rintro v w ⟨rfl, H⟩)
      refine RL_some ?_; (refine X_assign rfl ?_)
      refine hK5 _ _ (W_keep (Keep.cons 6 rfl Keep.nil) ?_)
      refine W_ret ?_
      (try simp only [thenQ, blockQ, noGotoQ])
      refine body_tmp (.inr rfl) rfl rfl ?_
      exact ⟨rfl, _, H⟩
  have h12 : ls.length ≤ 12 := by omega
  have h30 : os.length ≤ 30 := by omega
  refine calls_of_W (N := 174) (args := [.int .u8 z, .slice al ls.length cl, .slice ao os.length co]) Try.func4 rfl Try.ntmps4 (by simp) ?_
  refine W_seq_k fun K1 hK1 => ?_
  refine W_reg rfl ?_
  refine RL_some ?_; (refine X_assign rfl ?_)
  refine hK1 _ _ (W_keep (Keep.cons 0 rfl (Keep.cons 1 rfl (Keep.cons 2 rfl Keep.nil))) ?_)
  refine W_seq_k fun K2 hK2 => ?_
  refine W_reg rfl ?_
  refine RL_some ?_; (refine X_move rfl ?_)
  refine RL_some ?_; (refine X_rem rfl rfl (by decide) ?_; rw [hmod])
  refine RL_some ?_; (refine X_conv T.in5 T.in3 rfl ?_; rw [wrap64_in ⟨by omega, by omega⟩])
  refine RL_some ?_; (first | refine X_int rfl rfl rfl (by omega) ?_ | refine X_bin rfl rfl rfl ?_)
  refine RL_some ?_; (refine X_assign rfl ?_)
  refine hK2 _ _ (W_keep (Keep.cons 1 rfl (Keep.cons 2 rfl (Keep.cons 7 rfl Keep.nil))) ?_)
  obtain ⟨N, hN⟩ : ∃ N : Nat, z % 40 + 1 = N := ⟨(z % 40 + 1).toNat, by omega⟩
  rw [hN]
  have hN0 : 1 ≤ N := by omega
  have hN1 : N ≤ 40 := by omega
  have hres : ∀ f : Int → Nat, f 0 = f 0 := fun _ => rfl
  refine W_seq_k fun K3 hK3 => ?_
  refine W_seq_k fun K4 hK4 => ?_
  refine W_reg rfl ?_
  refine RL_some ?_; (refine X_move rfl ?_)
  refine RL_some ?_; (refine X_len T.sl35 rfl ?_)
  refine RL_some ?_; (first | refine X_cmp_t rfl rfl rfl (by first | assumption | omega) ?_ | refine X_cmp_f rfl rfl rfl (by first | assumption | omega) ?_ | refine X_bin rfl rfl rfl ?_)
  refine RL_some ?_; (refine X_move rfl ?_)
  (first | refine RL_off rfl rfl ?_ | refine RL_off' rfl rfl ?_ | (refine RL_on rfl rfl ?_; (refine X_move rfl ?_)))
  (first | refine RL_off rfl rfl ?_ | refine RL_off' rfl rfl ?_ | (refine RL_on rfl rfl ?_; (refine X_len T.sl36 rfl ?_)))
  (first | refine RL_off rfl rfl ?_ | refine RL_off' rfl rfl ?_ | (refine RL_on rfl rfl ?_; (first | refine X_cmp_t rfl rfl rfl (by first | assumption | omega) ?_ | refine X_cmp_f rfl rfl rfl (by first | assumption | omega) ?_ | refine X_bin rfl rfl rfl ?_)))
  refine RL_some ?_; (refine X_pick rfl rfl ?_)
  refine hK4 _ _ (W_keep (Keep.cons 1 rfl (Keep.cons 2 rfl (Keep.cons 7 rfl (Keep.cons 32 rfl Keep.nil)))) ?_)
  refine W_false rfl ?_
  refine W_skip ?_
  refine hK3 _ _ (W_keep (Keep.cons 1 rfl (Keep.cons 2 rfl (Keep.cons 7 rfl (Keep.cons 32 rfl Keep.nil)))) ?_)
  refine W_seq_k fun K5 hK5 => ?_
  refine W_seq_k fun K6 hK6 => ?_
  refine W_reg rfl ?_
  refine RL_some ?_; (refine X_assign rfl ?_)
  refine hK6 _ _ (W_keep (Keep.cons 1 rfl (Keep.cons 2 rfl (Keep.cons 7 rfl (Keep.cons 8 rfl Keep.nil)))) ?_)
  refine W_block ?_
  refine W_loop (fun left pf w => ∃ i, i + left = ls.length ∧ (∀ (a b : Nat) s t, b < a → a < i → ls[a]? = some s → ls[b]? = some t → unl s t) ∧ Keep pf [(1, .slice al ls.length cl), (2, .slice ao os.length co), (7, i64 N), (8, i64 i)] ∧ St w0 w L) (ls.length) ?_ ?_
  · skip
    exact ⟨0, by omega, fun a b s t _ h => absurd h (by omega), (Keep.cons 1 rfl (Keep.cons 2 rfl (Keep.cons 7 rfl (Keep.cons 8 rfl Keep.nil)))), H⟩
  rintro left pf w ⟨i, hi, hun, hpf, H⟩
  refine W_keep hpf ?_
  clear hpf
  refine W_seq_k fun K7 hK7 => ?_
  refine W_seq_k fun K8 hK8 => ?_
  refine W_reg rfl ?_
  refine RL_some ?_; (refine X_move rfl ?_)
  refine RL_some ?_; (refine X_move rfl ?_)
  refine RL_some ?_; (refine X_len T.sl35 rfl ?_)
  refine RL_some ?_; (first | refine X_cmp_t rfl rfl rfl (by first | assumption | omega) ?_ | refine X_cmp_f rfl rfl rfl (by first | assumption | omega) ?_ | refine X_bin rfl rfl rfl ?_)
  refine hK8 _ _ (W_keep (Keep.cons 1 rfl (Keep.cons 2 rfl (Keep.cons 7 rfl (Keep.cons 8 rfl (Keep.cons 37 rfl Keep.nil))))) ?_)
  refine W_if rfl (fun c => ?_) (fun c => ?_)
  · skip
    refine W_skip ?_
    refine hK7 _ _ (W_keep (Keep.cons 1 rfl (Keep.cons 2 rfl (Keep.cons 7 rfl (Keep.cons 8 rfl (Keep.cons 37 rfl Keep.nil))))) ?_)
    refine W_seq_k fun K9 hK9 => ?_
    refine W_block ?_
    refine W_seq_k fun K10 hK10 => ?_
    have c := of_decide_eq_true c
    obtain ⟨s, hs⟩ : ∃ s, ls[i]? = some s := ⟨_, List.getElem?_eq_getElem (by omega)⟩
    obtain ⟨b0, off, cc, ee, fr, had, hcap, hmax, hA⟩ := hl.at_ (by omega)
    obtain rfl := had
    refine W_reg rfl ?_
    refine RL_some ?_; (refine X_assign rfl ?_)
    refine hK10 _ _ (W_keep (Keep.cons 1 rfl (Keep.cons 2 rfl (Keep.cons 7 rfl (Keep.cons 8 rfl (Keep.cons 9 rfl Keep.nil))))) ?_)
    refine W_block ?_
    refine W_loop (fun left pf w => ∃ k, k + left = i ∧ (∀ (b : Nat) t, b < k → ls[b]? = some t → unl s t) ∧ Keep pf [(1, sl b0 off ls.length cl), (2, .slice ao os.length co), (7, i64 N), (8, i64 i), (9, i64 k)] ∧ St w0 w L) (i) ?_ ?_
    · skip
      exact ⟨0, by omega, fun b t h => absurd h (by omega), (Keep.cons 1 rfl (Keep.cons 2 rfl (Keep.cons 7 rfl (Keep.cons 8 rfl (Keep.cons 9 rfl Keep.nil))))), H⟩
    rintro left2 pf w ⟨k, hk, hun2, hpf, H⟩
    refine W_keep hpf ?_
    clear hpf
    refine W_seq_k fun K11 hK11 => ?_
    refine W_seq_k fun K12 hK12 => ?_
    refine W_reg rfl ?_
    refine RL_some ?_; (refine X_move rfl ?_)
    refine RL_some ?_; (refine X_move rfl ?_)
    refine RL_some ?_; (first | refine X_cmp_t rfl rfl rfl (by first | assumption | omega) ?_ | refine X_cmp_f rfl rfl rfl (by first | assumption | omega) ?_ | refine X_bin rfl rfl rfl ?_)
    refine hK12 _ _ (W_keep (Keep.cons 1 rfl (Keep.cons 2 rfl (Keep.cons 7 rfl (Keep.cons 8 rfl (Keep.cons 9 rfl (Keep.cons 42 rfl Keep.nil)))))) ?_)
    refine W_if rfl (fun d => ?_) (fun d => ?_)
    · skip
      refine W_skip ?_
      refine hK11 _ _ (W_keep (Keep.cons 1 rfl (Keep.cons 2 rfl (Keep.cons 7 rfl (Keep.cons 8 rfl (Keep.cons 9 rfl (Keep.cons 42 rfl Keep.nil)))))) ?_)
      refine W_seq_k fun K13 hK13 => ?_
      refine W_block ?_
      refine W_seq_k fun K14 hK14 => ?_
      have d := of_decide_eq_true d
      obtain ⟨t, ht⟩ : ∃ t, ls[k]? = some t := ⟨_, List.getElem?_eq_getElem (by omega)⟩
      have hcs : (s.head.epoch = t.head.epoch ∧ s.head.counter = t.head.counter) ∨ (s.head.epoch = t.head.epoch ∧ ¬ s.head.counter = t.head.counter) ∨ ¬ s.head.epoch = t.head.epoch := by omega
      rcases hcs with ⟨e1, e2⟩ | ⟨e1, e2⟩ | e1
      · skip
        refine W_draw (.p 0 (.p 1 (.p 2 (.p 3 (.p 4 (.p 5 (.p 6 (.p 7 (.p 8 (.p 9 (.p 10 (.p 11 (.p 12 (.p 13 (.p 14 (.p 15 (.p 16 (.p 17 (.p 18 (.p 19 (.p 20 (.p 21 (.p 22 (.p 23 (.p 24 (.p 25 (.p 26 (.p 27 .nil)))))))))))))))))))))))))))) T.mixed rfl ?_
        replace H := H.drew
        apply DD_pure rfl rfl; next => (intro _; refine X_move rfl ⟨rfl, rfl⟩)
        apply DD_pure rfl rfl; next => (intro _; refine X_move rfl ⟨rfl, rfl⟩)
        apply DD_pure rfl rfl; next => (intro _; refine X_idx T.sl35 rfl rfl (by omega) (by omega) ⟨rfl, rfl⟩)
        apply DD_pure rfl rfl; next => (intro _; refine X_fieldAddr T.fd29_1 rfl ⟨rfl, rfl⟩)
        apply DD_pure rfl rfl; next => (intro _; refine X_fieldAddr T.fd27_4 rfl ⟨rfl, rfl⟩)
        apply DD_read rfl rfl; next => (refine S_loadA1 (v := .int .u64 s.head.epoch) H T.ty25 rfl hA spot_len hs rfl (o := 6) (by omega) (by decide) rfl ⟨rfl, rfl⟩)
        apply DD_pure rfl rfl; next => (intro _; refine X_move rfl ⟨rfl, rfl⟩)
        apply DD_pure rfl rfl; next => (intro _; refine X_move rfl ⟨rfl, rfl⟩)
        apply DD_pure rfl rfl; next => (intro _; refine X_idx T.sl35 rfl rfl (by omega) (by omega) ⟨rfl, rfl⟩)
        apply DD_pure rfl rfl; next => (intro _; refine X_fieldAddr T.fd29_1 rfl ⟨rfl, rfl⟩)
        apply DD_pure rfl rfl; next => (intro _; refine X_fieldAddr T.fd27_4 rfl ⟨rfl, rfl⟩)
        apply DD_read rfl rfl; next => (refine S_loadA1 (v := .int .u64 t.head.epoch) H T.ty25 rfl hA spot_len ht rfl (o := 6) (by omega) (by decide) rfl ⟨rfl, rfl⟩)
        apply DD_pure rfl rfl; next => (intro _; first | refine X_cmp_t rfl rfl rfl (by first | assumption | omega) ⟨rfl, rfl⟩ | refine X_cmp_f rfl rfl rfl (by first | assumption | omega) ⟨rfl, rfl⟩ | refine X_bin rfl rfl rfl ⟨rfl, rfl⟩)
        apply DD_pure rfl rfl; next => (intro _; refine X_move rfl ⟨rfl, rfl⟩)
        (first | refine DD_off rfl rfl rfl rfl ?_ | refine DD_off' rfl rfl rfl rfl ?_ | (apply DD_on rfl rfl rfl rfl; next => (intro _; refine X_move rfl ⟨rfl, rfl⟩)))
        (first | refine DD_off rfl rfl rfl rfl ?_ | refine DD_off' rfl rfl rfl rfl ?_ | (apply DD_on rfl rfl rfl rfl; next => (intro _; refine X_move rfl ⟨rfl, rfl⟩)))
        (first | refine DD_off rfl rfl rfl rfl ?_ | refine DD_off' rfl rfl rfl rfl ?_ | (apply DD_on rfl rfl rfl rfl; next => (intro _; refine X_idx T.sl35 rfl rfl (by omega) (by omega) ⟨rfl, rfl⟩)))
        (first | refine DD_off rfl rfl rfl rfl ?_ | refine DD_off' rfl rfl rfl rfl ?_ | (apply DD_on rfl rfl rfl rfl; next => (intro _; refine X_fieldAddr T.fd29_1 rfl ⟨rfl, rfl⟩)))
        (first | refine DD_off rfl rfl rfl rfl ?_ | refine DD_off' rfl rfl rfl rfl ?_ | (apply DD_on rfl rfl rfl rfl; next => (intro _; refine X_fieldAddr T.fd27_5 rfl ⟨rfl, rfl⟩)))
        (first | refine DD_off rfl rfl rfl rfl ?_ | refine DD_off' rfl rfl rfl rfl ?_ | (apply DD_read_on rfl rfl rfl rfl; next => (refine S_loadA1 (v := .int .u64 s.head.counter) H T.ty25 rfl hA spot_len hs rfl (o := 7) (by omega) (by decide) rfl ⟨rfl, rfl⟩)))
        (first | refine DD_off rfl rfl rfl rfl ?_ | refine DD_off' rfl rfl rfl rfl ?_ | (apply DD_on rfl rfl rfl rfl; next => (intro _; refine X_move rfl ⟨rfl, rfl⟩)))
        (first | refine DD_off rfl rfl rfl rfl ?_ | refine DD_off' rfl rfl rfl rfl ?_ | (apply DD_on rfl rfl rfl rfl; next => (intro _; refine X_move rfl ⟨rfl, rfl⟩)))
        (first | refine DD_off rfl rfl rfl rfl ?_ | refine DD_off' rfl rfl rfl rfl ?_ | (apply DD_on rfl rfl rfl rfl; next => (intro _; refine X_idx T.sl35 rfl rfl (by omega) (by omega) ⟨rfl, rfl⟩)))
        (first | refine DD_off rfl rfl rfl rfl ?_ | refine DD_off' rfl rfl rfl rfl ?_ | (apply DD_on rfl rfl rfl rfl; next => (intro _; refine X_fieldAddr T.fd29_1 rfl ⟨rfl, rfl⟩)))
        (first | refine DD_off rfl rfl rfl rfl ?_ | refine DD_off' rfl rfl rfl rfl ?_ | (apply DD_on rfl rfl rfl rfl; next => (intro _; refine X_fieldAddr T.fd27_5 rfl ⟨rfl, rfl⟩)))
        (first | refine DD_off rfl rfl rfl rfl ?_ | refine DD_off' rfl rfl rfl rfl ?_ | (apply DD_read_on rfl rfl rfl rfl; next => (refine S_loadA1 (v := .int .u64 t.head.counter) H T.ty25 rfl hA spot_len ht rfl (o := 7) (by omega) (by decide) rfl ⟨rfl, rfl⟩)))
        (first | refine DD_off rfl rfl rfl rfl ?_ | refine DD_off' rfl rfl rfl rfl ?_ | (apply DD_on rfl rfl rfl rfl; next => (intro _; first | refine X_cmp_t rfl rfl rfl (by first | assumption | omega) ⟨rfl, rfl⟩ | refine X_cmp_f rfl rfl rfl (by first | assumption | omega) ⟨rfl, rfl⟩ | refine X_bin rfl rfl rfl ⟨rfl, rfl⟩)))
        apply DD_pure rfl rfl; next => (intro _; refine X_pick rfl rfl ⟨rfl, rfl⟩)
        refine hK14 _ _ (W_keep (Keep.cons 1 rfl (Keep.cons 2 rfl (Keep.cons 7 rfl (Keep.cons 8 rfl (Keep.cons 9 rfl (Keep.cons 72 rfl Keep.nil)))))) ?_)
        refine W_true rfl ?_
        refine W_seq_k fun K15 hK15 => ?_
        refine W_reg rfl ?_
        refine RL_some ?_; (refine X_call T.ent11 rfl (calls_to (awake_spec H) ?_); rintro v w ⟨rfl, H⟩)
        refine RL_some ?_; (refine X_assign rfl ?_)
        refine hK15 _ _ (W_keep (Keep.cons 6 rfl Keep.nil) ?_)
        refine W_ret ?_
        (try simp only [thenQ, blockQ, noGotoQ])
        refine body_tmp (.inr rfl) rfl rfl ?_
        exact ⟨rfl, _, H⟩
      · skip
        refine W_draw (.p 0 (.p 1 (.p 2 (.p 3 (.p 4 (.p 5 (.p 6 (.p 7 (.p 8 (.p 9 (.p 10 (.p 11 (.p 12 (.p 13 (.p 14 (.p 15 (.p 16 (.p 17 (.p 18 (.p 19 (.p 20 (.p 21 (.p 22 (.p 23 (.p 24 (.p 25 (.p 26 (.p 27 .nil)))))))))))))))))))))))))))) T.mixed rfl ?_
        replace H := H.drew
        apply DD_pure rfl rfl; next => (intro _; refine X_move rfl ⟨rfl, rfl⟩)
        apply DD_pure rfl rfl; next => (intro _; refine X_move rfl ⟨rfl, rfl⟩)
        apply DD_pure rfl rfl; next => (intro _; refine X_idx T.sl35 rfl rfl (by omega) (by omega) ⟨rfl, rfl⟩)
        apply DD_pure rfl rfl; next => (intro _; refine X_fieldAddr T.fd29_1 rfl ⟨rfl, rfl⟩)
        apply DD_pure rfl rfl; next => (intro _; refine X_fieldAddr T.fd27_4 rfl ⟨rfl, rfl⟩)
        apply DD_read rfl rfl; next => (refine S_loadA1 (v := .int .u64 s.head.epoch) H T.ty25 rfl hA spot_len hs rfl (o := 6) (by omega) (by decide) rfl ⟨rfl, rfl⟩)
        apply DD_pure rfl rfl; next => (intro _; refine X_move rfl ⟨rfl, rfl⟩)
        apply DD_pure rfl rfl; next => (intro _; refine X_move rfl ⟨rfl, rfl⟩)
        apply DD_pure rfl rfl; next => (intro _; refine X_idx T.sl35 rfl rfl (by omega) (by omega) ⟨rfl, rfl⟩)
        apply DD_pure rfl rfl; next => (intro _; refine X_fieldAddr T.fd29_1 rfl ⟨rfl, rfl⟩)
        apply DD_pure rfl rfl; next => (intro _; refine X_fieldAddr T.fd27_4 rfl ⟨rfl, rfl⟩)
        apply DD_read rfl rfl; next => (refine S_loadA1 (v := .int .u64 t.head.epoch) H T.ty25 rfl hA spot_len ht rfl (o := 6) (by omega) (by decide) rfl ⟨rfl, rfl⟩)
        apply DD_pure rfl rfl; next => (intro _; first | refine X_cmp_t rfl rfl rfl (by first | assumption | omega) ⟨rfl, rfl⟩ | refine X_cmp_f rfl rfl rfl (by first | assumption | omega) ⟨rfl, rfl⟩ | refine X_bin rfl rfl rfl ⟨rfl, rfl⟩)
        apply DD_pure rfl rfl; next => (intro _; refine X_move rfl ⟨rfl, rfl⟩)
        (first | refine DD_off rfl rfl rfl rfl ?_ | refine DD_off' rfl rfl rfl rfl ?_ | (apply DD_on rfl rfl rfl rfl; next => (intro _; refine X_move rfl ⟨rfl, rfl⟩)))
        (first | refine DD_off rfl rfl rfl rfl ?_ | refine DD_off' rfl rfl rfl rfl ?_ | (apply DD_on rfl rfl rfl rfl; next => (intro _; refine X_move rfl ⟨rfl, rfl⟩)))
        (first | refine DD_off rfl rfl rfl rfl ?_ | refine DD_off' rfl rfl rfl rfl ?_ | (apply DD_on rfl rfl rfl rfl; next => (intro _; refine X_idx T.sl35 rfl rfl (by omega) (by omega) ⟨rfl, rfl⟩)))
        (first | refine DD_off rfl rfl rfl rfl ?_ | refine DD_off' rfl rfl rfl rfl ?_ | (apply DD_on rfl rfl rfl rfl; next => (intro _; refine X_fieldAddr T.fd29_1 rfl ⟨rfl, rfl⟩)))
        (first | refine DD_off rfl rfl rfl rfl ?_ | refine DD_off' rfl rfl rfl rfl ?_ | (apply DD_on rfl rfl rfl rfl; next => (intro _; refine X_fieldAddr T.fd27_5 rfl ⟨rfl, rfl⟩)))
        (first | refine DD_off rfl rfl rfl rfl ?_ | refine DD_off' rfl rfl rfl rfl ?_ | (apply DD_read_on rfl rfl rfl rfl; next => (refine S_loadA1 (v := .int .u64 s.head.counter) H T.ty25 rfl hA spot_len hs rfl (o := 7) (by omega) (by decide) rfl ⟨rfl, rfl⟩)))
        (first | refine DD_off rfl rfl rfl rfl ?_ | refine DD_off' rfl rfl rfl rfl ?_ | (apply DD_on rfl rfl rfl rfl; next => (intro _; refine X_move rfl ⟨rfl, rfl⟩)))
        (first | refine DD_off rfl rfl rfl rfl ?_ | refine DD_off' rfl rfl rfl rfl ?_ | (apply DD_on rfl rfl rfl rfl; next => (intro _; refine X_move rfl ⟨rfl, rfl⟩)))
        (first | refine DD_off rfl rfl rfl rfl ?_ | refine DD_off' rfl rfl rfl rfl ?_ | (apply DD_on rfl rfl rfl rfl; next => (intro _; refine X_idx T.sl35 rfl rfl (by omega) (by omega) ⟨rfl, rfl⟩)))
        (first | refine DD_off rfl rfl rfl rfl ?_ | refine DD_off' rfl rfl rfl rfl ?_ | (apply DD_on rfl rfl rfl rfl; next => (intro _; refine X_fieldAddr T.fd29_1 rfl ⟨rfl, rfl⟩)))
        (first | refine DD_off rfl rfl rfl rfl ?_ | refine DD_off' rfl rfl rfl rfl ?_ | (apply DD_on rfl rfl rfl rfl; next => (intro _; refine X_fieldAddr T.fd27_5 rfl ⟨rfl, rfl⟩)))
        (first | refine DD_off rfl rfl rfl rfl ?_ | refine DD_off' rfl rfl rfl rfl ?_ | (apply DD_read_on rfl rfl rfl rfl; next => (refine S_loadA1 (v := .int .u64 t.head.counter) H T.ty25 rfl hA spot_len ht rfl (o := 7) (by omega) (by decide) rfl ⟨rfl, rfl⟩)))
        (first | refine DD_off rfl rfl rfl rfl ?_ | refine DD_off' rfl rfl rfl rfl ?_ | (apply DD_on rfl rfl rfl rfl; next => (intro _; first | refine X_cmp_t rfl rfl rfl (by first | assumption | omega) ⟨rfl, rfl⟩ | refine X_cmp_f rfl rfl rfl (by first | assumption | omega) ⟨rfl, rfl⟩ | refine X_bin rfl rfl rfl ⟨rfl, rfl⟩)))
        apply DD_pure rfl rfl; next => (intro _; refine X_pick rfl rfl ⟨rfl, rfl⟩)
        refine hK14 _ _ (W_keep (Keep.cons 1 rfl (Keep.cons 2 rfl (Keep.cons 7 rfl (Keep.cons 8 rfl (Keep.cons 9 rfl (Keep.cons 72 rfl Keep.nil)))))) ?_)
        refine W_false rfl ?_
        refine W_skip ?_
        refine hK13 _ _ (W_keep (Keep.cons 1 rfl (Keep.cons 2 rfl (Keep.cons 7 rfl (Keep.cons 8 rfl (Keep.cons 9 rfl (Keep.cons 72 rfl Keep.nil)))))) ?_)
        refine W_reg rfl ?_
        refine RL_some ?_; (refine X_move rfl ?_)
        refine RL_some ?_; (first | refine X_int rfl rfl rfl (by omega) ?_ | refine X_bin rfl rfl rfl ?_)
        refine RL_some ?_; (refine X_assign rfl ?_)
        refine ⟨left2 - 1, by omega, k + 1, by omega, fun b t' hb ht' => ?_, (Keep.cons 1 rfl (Keep.cons 2 rfl (Keep.cons 7 rfl (Keep.cons 8 rfl (Keep.cons 9 rfl Keep.nil))))), H⟩
        rcases Nat.lt_or_ge b k with h | h
        · exact hun2 b t' h ht'
        · obtain rfl : b = k := by omega
          rw [ht] at ht'; cases ht'
          exact .inr e2
      · skip
        refine W_draw (.p 0 (.p 1 (.p 2 (.p 3 (.p 4 (.p 5 (.p 6 (.p 7 (.p 8 (.p 9 (.p 10 (.p 11 (.p 12 (.p 13 (.p 14 (.p 15 (.p 16 (.p 17 (.p 18 (.p 19 (.p 20 (.p 21 (.p 22 (.p 23 (.p 24 (.p 25 (.p 26 (.p 27 .nil)))))))))))))))))))))))))))) T.mixed rfl ?_
        replace H := H.drew
        apply DD_pure rfl rfl; next => (intro _; refine X_move rfl ⟨rfl, rfl⟩)
        apply DD_pure rfl rfl; next => (intro _; refine X_move rfl ⟨rfl, rfl⟩)
        apply DD_pure rfl rfl; next => (intro _; refine X_idx T.sl35 rfl rfl (by omega) (by omega) ⟨rfl, rfl⟩)
        apply DD_pure rfl rfl; next => (intro _; refine X_fieldAddr T.fd29_1 rfl ⟨rfl, rfl⟩)
        apply DD_pure rfl rfl; next => (intro _; refine X_fieldAddr T.fd27_4 rfl ⟨rfl, rfl⟩)
        apply DD_read rfl rfl; next => (refine S_loadA1 (v := .int .u64 s.head.epoch) H T.ty25 rfl hA spot_len hs rfl (o := 6) (by omega) (by decide) rfl ⟨rfl, rfl⟩)
        apply DD_pure rfl rfl; next => (intro _; refine X_move rfl ⟨rfl, rfl⟩)
        apply DD_pure rfl rfl; next => (intro _; refine X_move rfl ⟨rfl, rfl⟩)
        apply DD_pure rfl rfl; next => (intro _; refine X_idx T.sl35 rfl rfl (by omega) (by omega) ⟨rfl, rfl⟩)
        apply DD_pure rfl rfl; next => (intro _; refine X_fieldAddr T.fd29_1 rfl ⟨rfl, rfl⟩)
        apply DD_pure rfl rfl; next => (intro _; refine X_fieldAddr T.fd27_4 rfl ⟨rfl, rfl⟩)
        apply DD_read rfl rfl; next => (refine S_loadA1 (v := .int .u64 t.head.epoch) H T.ty25 rfl hA spot_len ht rfl (o := 6) (by omega) (by decide) rfl ⟨rfl, rfl⟩)
        apply DD_pure rfl rfl; next => (intro _; first | refine X_cmp_t rfl rfl rfl (by first | assumption | omega) ⟨rfl, rfl⟩ | refine X_cmp_f rfl rfl rfl (by first | assumption | omega) ⟨rfl, rfl⟩ | refine X_bin rfl rfl rfl ⟨rfl, rfl⟩)
        apply DD_pure rfl rfl; next => (intro _; refine X_move rfl ⟨rfl, rfl⟩)
        (first | refine DD_off rfl rfl rfl rfl ?_ | refine DD_off' rfl rfl rfl rfl ?_ | (apply DD_on rfl rfl rfl rfl; next => (intro _; refine X_move rfl ⟨rfl, rfl⟩)))
        (first | refine DD_off rfl rfl rfl rfl ?_ | refine DD_off' rfl rfl rfl rfl ?_ | (apply DD_on rfl rfl rfl rfl; next => (intro _; refine X_move rfl ⟨rfl, rfl⟩)))
        (first | refine DD_off rfl rfl rfl rfl ?_ | refine DD_off' rfl rfl rfl rfl ?_ | (apply DD_on rfl rfl rfl rfl; next => (intro _; refine X_idx T.sl35 rfl rfl (by omega) (by omega) ⟨rfl, rfl⟩)))
        (first | refine DD_off rfl rfl rfl rfl ?_ | refine DD_off' rfl rfl rfl rfl ?_ | (apply DD_on rfl rfl rfl rfl; next => (intro _; refine X_fieldAddr T.fd29_1 rfl ⟨rfl, rfl⟩)))
        (first | refine DD_off rfl rfl rfl rfl ?_ | refine DD_off' rfl rfl rfl rfl ?_ | (apply DD_on rfl rfl rfl rfl; next => (intro _; refine X_fieldAddr T.fd27_5 rfl ⟨rfl, rfl⟩)))
        (first | refine DD_off rfl rfl rfl rfl ?_ | refine DD_off' rfl rfl rfl rfl ?_ | (apply DD_read_on rfl rfl rfl rfl; next => (refine S_loadA1 (v := .int .u64 s.head.counter) H T.ty25 rfl hA spot_len hs rfl (o := 7) (by omega) (by decide) rfl ⟨rfl, rfl⟩)))
        (first | refine DD_off rfl rfl rfl rfl ?_ | refine DD_off' rfl rfl rfl rfl ?_ | (apply DD_on rfl rfl rfl rfl; next => (intro _; refine X_move rfl ⟨rfl, rfl⟩)))
        (first | refine DD_off rfl rfl rfl rfl ?_ | refine DD_off' rfl rfl rfl rfl ?_ | (apply DD_on rfl rfl rfl rfl; next => (intro _; refine X_move rfl ⟨rfl, rfl⟩)))
        (first | refine DD_off rfl rfl rfl rfl ?_ | refine DD_off' rfl rfl rfl rfl ?_ | (apply DD_on rfl rfl rfl rfl; next => (intro _; refine X_idx T.sl35 rfl rfl (by omega) (by omega) ⟨rfl, rfl⟩)))
        (first | refine DD_off rfl rfl rfl rfl ?_ | refine DD_off' rfl rfl rfl rfl ?_ | (apply DD_on rfl rfl rfl rfl; next => (intro _; refine X_fieldAddr T.fd29_1 rfl ⟨rfl, rfl⟩)))
        (first | refine DD_off rfl rfl rfl rfl ?_ | refine DD_off' rfl rfl rfl rfl ?_ | (apply DD_on rfl rfl rfl rfl; next => (intro _; refine X_fieldAddr T.fd27_5 rfl ⟨rfl, rfl⟩)))
        (first | refine DD_off rfl rfl rfl rfl ?_ | refine DD_off' rfl rfl rfl rfl ?_ | (apply DD_read_on rfl rfl rfl rfl; next => (refine S_loadA1 (v := .int .u64 t.head.counter) H T.ty25 rfl hA spot_len ht rfl (o := 7) (by omega) (by decide) rfl ⟨rfl, rfl⟩)))
        (first | refine DD_off rfl rfl rfl rfl ?_ | refine DD_off' rfl rfl rfl rfl ?_ | (apply DD_on rfl rfl rfl rfl; next => (intro _; first | refine X_cmp_t rfl rfl rfl (by first | assumption | omega) ⟨rfl, rfl⟩ | refine X_cmp_f rfl rfl rfl (by first | assumption | omega) ⟨rfl, rfl⟩ | refine X_bin rfl rfl rfl ⟨rfl, rfl⟩)))
        apply DD_pure rfl rfl; next => (intro _; refine X_pick rfl rfl ⟨rfl, rfl⟩)
        refine hK14 _ _ (W_keep (Keep.cons 1 rfl (Keep.cons 2 rfl (Keep.cons 7 rfl (Keep.cons 8 rfl (Keep.cons 9 rfl (Keep.cons 72 rfl Keep.nil)))))) ?_)
        refine W_false rfl ?_
        refine W_skip ?_
        refine hK13 _ _ (W_keep (Keep.cons 1 rfl (Keep.cons 2 rfl (Keep.cons 7 rfl (Keep.cons 8 rfl (Keep.cons 9 rfl (Keep.cons 72 rfl Keep.nil)))))) ?_)
        refine W_reg rfl ?_
        refine RL_some ?_; (refine X_move rfl ?_)
        refine RL_some ?_; (first | refine X_int rfl rfl rfl (by omega) ?_ | refine X_bin rfl rfl rfl ?_)
        refine RL_some ?_; (refine X_assign rfl ?_)
        refine ⟨left2 - 1, by omega, k + 1, by omega, fun b t' hb ht' => ?_, (Keep.cons 1 rfl (Keep.cons 2 rfl (Keep.cons 7 rfl (Keep.cons 8 rfl (Keep.cons 9 rfl Keep.nil))))), H⟩
        rcases Nat.lt_or_ge b k with h | h
        · exact hun2 b t' h ht'
        · obtain rfl : b = k := by omega
          rw [ht] at ht'; cases ht'
          exact .inl e1
    refine W_exit ?_
    refine hK9 _ _ (W_keep (Keep.cons 1 rfl (Keep.cons 2 rfl (Keep.cons 7 rfl (Keep.cons 8 rfl (Keep.cons 9 rfl (Keep.cons 42 rfl Keep.nil)))))) ?_)
    refine W_reg rfl ?_
    refine RL_some ?_; (refine X_move rfl ?_)
    refine RL_some ?_; (first | refine X_int rfl rfl rfl (by omega) ?_ | refine X_bin rfl rfl rfl ?_)
    refine RL_some ?_; (refine X_assign rfl ?_)
    have d := of_decide_eq_false d
    obtain rfl : k = i := by omega
    refine ⟨left - 1, by omega, k + 1, by omega, fun a b s' t' hb ha hs' ht' => ?_, (Keep.cons 1 rfl (Keep.cons 2 rfl (Keep.cons 7 rfl (Keep.cons 8 rfl Keep.nil)))), H⟩
    rcases Nat.lt_or_ge a k with h | h
    · exact hun a b s' t' hb h hs' ht'
    · obtain rfl : a = k := by omega
      rw [hs] at hs'; cases hs'
      exact hun2 b t' hb ht'
  refine W_exit ?_
  refine hK5 _ _ (W_keep (Keep.cons 1 rfl (Keep.cons 2 rfl (Keep.cons 7 rfl (Keep.cons 8 rfl (Keep.cons 37 rfl Keep.nil))))) ?_)
  refine W_seq_k fun K16 hK16 => ?_
  have c := of_decide_eq_false c
  obtain rfl : i = ls.length := by omega
  have hU : Unlike (ls.map toOne) := unlike_own fun a b s t hb hs ht => hun a b s t hb (List.getElem?_eq_some_iff.1 hs).1 hs ht
  refine W_reg rfl ?_
  refine RL_some ?_; (refine X_call T.ent12 rfl (calls_to (New_pm H) ?_); rintro v w ⟨pa, ra, rfl, H⟩)
  refine RL_some ?_; (refine X_assign rfl ?_)
  refine hK16 _ _ (W_keep (Keep.cons 1 rfl (Keep.cons 2 rfl (Keep.cons 7 rfl (Keep.cons 10 rfl Keep.nil)))) ?_)
  refine W_seq_k fun K17 hK17 => ?_
  refine W_reg rfl ?_
  refine RL_some ?_; (refine X_call T.ent12 rfl (calls_to (New_pm H) ?_); rintro v w ⟨pb, rb, rfl, H⟩)
  refine RL_some ?_; (refine X_assign rfl ?_)
  refine hK17 _ _ (W_keep (Keep.cons 1 rfl (Keep.cons 2 rfl (Keep.cons 7 rfl (Keep.cons 10 rfl (Keep.cons 11 rfl Keep.nil))))) ?_)
  refine W_seq_k fun K18 hK18 => ?_
  refine W_seq_k fun K19 hK19 => ?_
  refine W_reg rfl ?_
  refine RL_some ?_; (refine X_move rfl ?_)
  refine RL_some ?_; (refine X_move rfl ?_)
  refine RL_some ?_; (refine X_call T.ent13 rfl (calls_to (Add_new pa ra N hN0 hN1 H.swap) ?_); rintro v w ⟨ma, rfl, rfl, hIa, H⟩)
  refine RL_some ?_; (first | refine X_ne_t rfl rfl rfl (by first | assumption | omega) ?_ | refine X_ne_f rfl rfl rfl (by first | assumption | omega) ?_ | refine X_bin rfl rfl rfl ?_)
  refine RL_some ?_; (refine X_move rfl ?_)
  (first | refine RL_off rfl rfl ?_ | refine RL_off' rfl rfl ?_ | (refine RL_on rfl rfl ?_; (refine X_move rfl ?_)))
  (first | refine RL_off rfl rfl ?_ | refine RL_off' rfl rfl ?_ | (refine RL_on rfl rfl ?_; (refine X_move rfl ?_)))
  (first | refine RL_off rfl rfl ?_ | refine RL_off' rfl rfl ?_ | (refine RL_on rfl rfl ?_; (refine X_call T.ent13 rfl (calls_to (Add_new pb rb N hN0 hN1 H.swap) ?_); rintro v w ⟨mb, rfl, rfl, hIb, H⟩)))
  (first | refine RL_off rfl rfl ?_ | refine RL_off' rfl rfl ?_ | (refine RL_on rfl rfl ?_; (first | refine X_ne_t rfl rfl rfl (by first | assumption | omega) ?_ | refine X_ne_f rfl rfl rfl (by first | assumption | omega) ?_ | refine X_bin rfl rfl rfl ?_)))
  refine RL_some ?_; (refine X_pick rfl rfl ?_)
  refine hK19 _ _ (W_keep (Keep.cons 1 rfl (Keep.cons 2 rfl (Keep.cons 7 rfl (Keep.cons 10 rfl (Keep.cons 11 rfl (Keep.cons 85 rfl Keep.nil)))))) ?_)
  refine W_false rfl ?_
  refine W_skip ?_
  refine hK18 _ _ (W_keep (Keep.cons 1 rfl (Keep.cons 2 rfl (Keep.cons 7 rfl (Keep.cons 10 rfl (Keep.cons 11 rfl (Keep.cons 85 rfl Keep.nil)))))) ?_)
  refine W_seq_k fun K20 hK20 => ?_
  refine W_reg rfl ?_
  refine RL_some ?_; (refine S_lit0 H T.sl35 ?_; intro bo w H; replace H : St w0 w (Tab (sl bo 0 0 0) 29 14 Spot.enc ([] : List Spot) :: _) := H.mkRow (k := 14) rfl (by decide))
  refine RL_some ?_; (refine X_move rfl ?_)
  refine RL_some ?_; (refine S_appendArg H 0 T.sl35 T.ze29 rfl (by decide) rfl rfl rfl hl (spots_one ls) (by simp; omega) (by simp; omega) ?_; intro vw w H)
  refine RL_some ?_; (refine X_assign rfl ?_)
  refine hK20 _ _ (W_keep (Keep.cons 2 rfl (Keep.cons 7 rfl (Keep.cons 10 rfl (Keep.cons 11 rfl (Keep.cons 12 rfl Keep.nil))))) ?_)
  replace H : St w0 w (Tab vw 29 14 Spot.enc ls :: PM mb :: PM ma :: L) := H
  rw [← half_zero ls] at H
  refine W_seq_k fun K21 hK21 => ?_
  refine W_seq_k fun K22 hK22 => ?_
  refine W_reg rfl ?_
  refine RL_some ?_; (refine X_assign rfl ?_)
  refine hK22 _ _ (W_keep (Keep.cons 2 rfl (Keep.cons 7 rfl (Keep.cons 10 rfl (Keep.cons 11 rfl (Keep.cons 12 rfl (Keep.cons 13 rfl Keep.nil)))))) ?_)
  refine W_block ?_
  refine W_loop (fun left pf w => ∃ i ma', i + left = ls.length ∧ ma'.p = ma.p ∧ MapI ma' N ((ls.map toOne).take i) ∧ Keep pf [(2, .slice ao os.length co), (7, i64 N), (10, pt ma.p 0), (11, pt mb.p 0), (12, vw), (13, i64 i)] ∧ St w0 w (Tab vw 29 14 Spot.enc (half ls i) :: PM mb :: PM ma' :: L)) (ls.length) ?_ ?_
  · skip
    exact ⟨0, ma, by omega, rfl, hIa, (Keep.cons 2 rfl (Keep.cons 7 rfl (Keep.cons 10 rfl (Keep.cons 11 rfl (Keep.cons 12 rfl (Keep.cons 13 rfl Keep.nil)))))), H⟩
  clear hIa H
  rintro left pf w ⟨i, ma', hi, hpa, hIa, hpf, H⟩
  refine W_keep hpf ?_
  clear hpf
  obtain ⟨ad, cap, hvw, _⟩ := H.tabVal
  rw [half_len] at hvw
  refine W_seq_k fun K23 hK23 => ?_
  refine W_seq_k fun K24 hK24 => ?_
  refine W_reg rfl ?_
  refine RL_some ?_; (refine X_move rfl ?_)
  refine RL_some ?_; (refine X_move rfl ?_)
  refine RL_some ?_; (rw [hvw]; refine X_len T.sl35 rfl ?_)
  refine RL_some ?_; (first | refine X_cmp_t rfl rfl rfl (by first | assumption | omega) ?_ | refine X_cmp_f rfl rfl rfl (by first | assumption | omega) ?_ | refine X_bin rfl rfl rfl ?_)
  refine hK24 _ _ (W_keep (Keep.cons 2 rfl (Keep.cons 7 rfl (Keep.cons 10 rfl (Keep.cons 11 rfl (Keep.cons 12 rfl (Keep.cons 13 rfl (Keep.cons 92 rfl Keep.nil))))))) ?_)
  refine W_if rfl (fun c => ?_) (fun c => ?_)
  · skip
    refine W_skip ?_
    refine hK23 _ _ (W_keep (Keep.cons 2 rfl (Keep.cons 7 rfl (Keep.cons 10 rfl (Keep.cons 11 rfl (Keep.cons 12 rfl (Keep.cons 13 rfl (Keep.cons 92 rfl Keep.nil))))))) ?_)
    refine W_seq_k fun K25 hK25 => ?_
    refine W_block ?_
    refine W_seq_k fun K26 hK26 => ?_
    have c := of_decide_eq_true c
    obtain ⟨s, hs⟩ : ∃ s, ls[i]? = some s := ⟨_, List.getElem?_eq_getElem (by omega)⟩
    obtain ⟨g, cap', hvw2, _⟩ := H.tabPos' 0 rfl (by rw [half_len]; omega)
    rw [half_len] at hvw2
    subst hvw2
    simp only [Value.slice.injEq] at hvw
    obtain ⟨rfl, _, rfl⟩ := hvw
    refine W_reg rfl ?_
    refine RL_some ?_; (refine X_move rfl ?_)
    refine RL_some ?_; (refine X_move rfl ?_)
    refine RL_some ?_; (refine X_idx T.sl35 rfl rfl (by omega) (by omega) ?_)
    refine RL_some ?_; (refine X_fieldAddr T.fd29_1 rfl ?_)
    refine RL_some ?_; (refine X_fieldAddr T.fd27_1 rfl ?_)
    refine RL_none ?_; (refine S_storeT (a' := toOne s) H 0 T.ty3 rfl rfl spot_len rfl (j := i) (o := 3) (by omega) (half_get ls hs) rfl (by decide) rfl rfl ?_; intro w H)
    refine hK26 _ _ (W_keep (Keep.cons 2 rfl (Keep.cons 7 rfl (Keep.cons 10 rfl (Keep.cons 11 rfl (Keep.cons 12 rfl (Keep.cons 13 rfl Keep.nil)))))) ?_)
    rw [half_set ls hs] at H
    have hmem : toOne s ∈ ls.map toOne := List.mem_map_of_mem (List.mem_of_getElem? hs)
    refine W_reg rfl ?_
    refine RL_some ?_; (refine X_move rfl ?_)
    refine RL_some ?_; (refine X_move rfl ?_)
    refine RL_some ?_; (refine X_move rfl ?_)
    refine RL_some ?_; (refine X_idx T.sl35 rfl rfl (by omega) (by omega) ?_)
    refine RL_some ?_; (refine S_loadT H 0 T.ty29 rfl spot_len rfl (j := i) (o := 0) (by simp) (half_got ls hs) (by decide) (l := (toOne s).enc) rfl ?_)
    refine RL_some ?_; (rw [← hpa]; refine X_call T.ent14 rfl (calls_to (Put_pm (own := ls.map toOne) hIa hU (by simpa using h12) (fun t ht => List.mem_of_mem_take ht) hmem (toOne_ok (hls s (List.mem_of_getElem? hs)).head) rfl (H.foc 2 rfl)) ?_); rintro v w ⟨m', hp', hI', H⟩; rw [hpa])
    refine hK25 _ _ (W_keep (Keep.cons 2 rfl (Keep.cons 7 rfl (Keep.cons 10 rfl (Keep.cons 11 rfl (Keep.cons 12 rfl (Keep.cons 13 rfl Keep.nil)))))) ?_)
    refine W_reg rfl ?_
    refine RL_some ?_; (refine X_move rfl ?_)
    refine RL_some ?_; (first | refine X_int rfl rfl rfl (by omega) ?_ | refine X_bin rfl rfl rfl ?_)
    refine RL_some ?_; (refine X_assign rfl ?_)
    refine ⟨left - 1, by omega, i + 1, m', by omega, by rw [hp', hpa], ?_, (Keep.cons 2 rfl (Keep.cons 7 rfl (Keep.cons 10 rfl (Keep.cons 11 rfl (Keep.cons 12 rfl (Keep.cons 13 rfl Keep.nil)))))), (H.swap.perm (.cons _ (.swap _ _ _)))⟩
    rw [List.take_add_one, List.getElem?_map, hs]
    exact hI'
  refine W_exit ?_
  refine hK21 _ _ (W_keep (Keep.cons 2 rfl (Keep.cons 7 rfl (Keep.cons 10 rfl (Keep.cons 11 rfl (Keep.cons 12 rfl (Keep.cons 13 rfl (Keep.cons 92 rfl Keep.nil))))))) ?_)
  refine W_seq_k fun K27 hK27 => ?_
  refine W_seq_k fun K28 hK28 => ?_
  have c := of_decide_eq_false c
  obtain rfl : i = ls.length := by omega
  rw [half_all] at H
  have htk : (ls.map toOne).take ls.length = ls.map toOne := List.take_of_length_le (by simp)
  rw [htk] at hIa
  rw [hvw] at H
  have hown : ∀ (j : Nat) s, ls[j]? = some s → (ls.map toOne)[j]? = some (toOne s) := fun j s h => by rw [List.getElem?_map, h]; rfl
  refine W_reg rfl ?_
  refine RL_some ?_; (refine X_assign rfl ?_)
  refine hK28 _ _ (W_keep (Keep.cons 2 rfl (Keep.cons 7 rfl (Keep.cons 10 rfl (Keep.cons 11 rfl (Keep.cons 12 rfl (Keep.cons 14 rfl Keep.nil)))))) ?_)
  refine W_block ?_
  refine W_loop (fun left pf w => ∃ i mb' ys, i + left = os.length ∧ mb'.p = mb.p ∧ MapI mb' N ys ∧ (∀ t ∈ ys, t ∈ ls.map toOne) ∧ Keep pf [(2, .slice ao os.length co), (7, i64 N), (10, pt ma.p 0), (11, pt mb.p 0), (12, .slice ad ls.length cap), (14, i64 i)] ∧ St w0 w (Tab (.slice ad ls.length cap) 29 14 Spot.enc (ls.map toOne) :: PM mb' :: PM ma' :: L)) (os.length) ?_ ?_
  · skip
    exact ⟨0, mb, [], by omega, rfl, hIb, by simp, (Keep.cons 2 rfl (Keep.cons 7 rfl (Keep.cons 10 rfl (Keep.cons 11 rfl (Keep.cons 12 rfl (Keep.cons 14 rfl Keep.nil)))))), H⟩
  clear hIb H
  rintro left pf w ⟨i, mb', ys, hi, hpb, hIb, hys, hpf, H⟩
  refine W_keep hpf ?_
  clear hpf
  refine W_seq_k fun K29 hK29 => ?_
  refine W_seq_k fun K30 hK30 => ?_
  refine W_reg rfl ?_
  refine RL_some ?_; (refine X_move rfl ?_)
  refine RL_some ?_; (refine X_move rfl ?_)
  refine RL_some ?_; (refine X_len T.sl36 rfl ?_)
  refine RL_some ?_; (first | refine X_cmp_t rfl rfl rfl (by first | assumption | omega) ?_ | refine X_cmp_f rfl rfl rfl (by first | assumption | omega) ?_ | refine X_bin rfl rfl rfl ?_)
  refine hK30 _ _ (W_keep (Keep.cons 2 rfl (Keep.cons 7 rfl (Keep.cons 10 rfl (Keep.cons 11 rfl (Keep.cons 12 rfl (Keep.cons 14 rfl (Keep.cons 109 rfl Keep.nil))))))) ?_)
  refine W_if rfl (fun c => ?_) (fun c => ?_)
  · skip
    refine W_skip ?_
    refine hK29 _ _ (W_keep (Keep.cons 2 rfl (Keep.cons 7 rfl (Keep.cons 10 rfl (Keep.cons 11 rfl (Keep.cons 12 rfl (Keep.cons 14 rfl (Keep.cons 109 rfl Keep.nil))))))) ?_)
    refine W_seq_k fun K31 hK31 => ?_
    refine W_block ?_
    refine W_seq_k fun K32 hK32 => ?_
    have c := of_decide_eq_true c
    obtain ⟨n, hn⟩ : ∃ n, os[i]? = some n := ⟨_, List.getElem?_eq_getElem (by omega)⟩
    obtain ⟨b1, off1, cc1, ee1, fr1, rfl, _, _, hO⟩ := ho.at_ (by omega)
    have hcs : (0 ≤ n ∧ n < ls.length) ∨ (0 ≤ n ∧ ¬ n < ls.length) ∨ ¬ 0 ≤ n := by omega
    rcases hcs with ⟨e1, e2⟩ | ⟨e1, e2⟩ | e1
    · skip
      refine W_reg rfl ?_
      refine RL_some ?_; (refine X_move rfl ?_)
      refine RL_some ?_; (refine X_move rfl ?_)
      refine RL_some ?_; (refine X_idx T.sl36 rfl rfl (by omega) (by omega) ?_)
      refine RL_some ?_; (refine S_loadA1 (v := i64 n) H T.ty3 rfl hO encI_len hn rfl (o := 0) (by omega) (by decide) rfl ?_)
      refine RL_some ?_; (first | refine X_cmp_t rfl rfl rfl (by first | assumption | omega) ?_ | refine X_cmp_f rfl rfl rfl (by first | assumption | omega) ?_ | refine X_bin rfl rfl rfl ?_)
      refine RL_some ?_; (refine X_move rfl ?_)
      (first | refine RL_off rfl rfl ?_ | refine RL_off' rfl rfl ?_ | (refine RL_on rfl rfl ?_; (refine X_move rfl ?_)))
      (first | refine RL_off rfl rfl ?_ | refine RL_off' rfl rfl ?_ | (refine RL_on rfl rfl ?_; (refine X_move rfl ?_)))
      (first | refine RL_off rfl rfl ?_ | refine RL_off' rfl rfl ?_ | (refine RL_on rfl rfl ?_; (refine X_idx T.sl36 rfl rfl (by omega) (by omega) ?_)))
      (first | refine RL_off rfl rfl ?_ | refine RL_off' rfl rfl ?_ | (refine RL_on rfl rfl ?_; (refine S_loadA1 (v := i64 n) H T.ty3 rfl hO encI_len hn rfl (o := 0) (by omega) (by decide) rfl ?_)))
      (first | refine RL_off rfl rfl ?_ | refine RL_off' rfl rfl ?_ | (refine RL_on rfl rfl ?_; (refine X_move rfl ?_)))
      (first | refine RL_off rfl rfl ?_ | refine RL_off' rfl rfl ?_ | (refine RL_on rfl rfl ?_; (refine X_len T.sl35 rfl ?_)))
      (first | refine RL_off rfl rfl ?_ | refine RL_off' rfl rfl ?_ | (refine RL_on rfl rfl ?_; (first | refine X_cmp_t rfl rfl rfl (by first | assumption | omega) ?_ | refine X_cmp_f rfl rfl rfl (by first | assumption | omega) ?_ | refine X_bin rfl rfl rfl ?_)))
      refine RL_some ?_; (refine X_pick rfl rfl ?_)
      refine hK32 _ _ (W_keep (Keep.cons 2 rfl (Keep.cons 7 rfl (Keep.cons 10 rfl (Keep.cons 11 rfl (Keep.cons 12 rfl (Keep.cons 14 rfl (Keep.cons 125 rfl Keep.nil))))))) ?_)
      refine W_true rfl ?_
      obtain ⟨s, hs⟩ : ∃ s, ls[n.toNat]? = some s := ⟨_, List.getElem?_eq_getElem (by omega)⟩
      have hmem : toOne s ∈ ls.map toOne := List.mem_map_of_mem (List.mem_of_getElem? hs)
      obtain ⟨g, cap', hvw, _⟩ := H.tabPos' 0 rfl (by simp; omega)
      simp only [Value.slice.injEq] at hvw
      obtain ⟨rfl, _, rfl⟩ := hvw
      refine W_reg rfl ?_
      refine RL_some ?_; (refine X_move rfl ?_)
      refine RL_some ?_; (refine X_move rfl ?_)
      refine RL_some ?_; (refine X_move rfl ?_)
      refine RL_some ?_; (refine X_move rfl ?_)
      refine RL_some ?_; (refine X_idx T.sl36 rfl rfl (by omega) (by omega) ?_)
      refine RL_some ?_; (refine S_loadA1 (v := i64 n) H T.ty3 rfl hO encI_len hn rfl (o := 0) (by omega) (by decide) rfl ?_)
      refine RL_some ?_; (refine X_idx T.sl35 rfl rfl (by omega) (by omega) ?_)
      refine RL_some ?_; (refine S_loadT H 0 T.ty29 rfl spot_len rfl (j := n.toNat) (o := 0) (by simp) (hown _ _ hs) (by decide) (l := (toOne s).enc) rfl ?_)
      refine RL_some ?_; (rw [← hpb]; refine X_call T.ent14 rfl (calls_to (Put_pm (own := ls.map toOne) hIb hU (by simpa using h12) hys hmem (toOne_ok (hls s (List.mem_of_getElem? hs)).head) rfl (H.foc 1 rfl)) ?_); rintro v w ⟨m', hp', hI', H⟩; rw [hpb])
      refine hK31 _ _ (W_keep (Keep.cons 2 rfl (Keep.cons 7 rfl (Keep.cons 10 rfl (Keep.cons 11 rfl (Keep.cons 12 rfl (Keep.cons 14 rfl Keep.nil)))))) ?_)
      refine W_reg rfl ?_
      refine RL_some ?_; (refine X_move rfl ?_)
      refine RL_some ?_; (first | refine X_int rfl rfl rfl (by omega) ?_ | refine X_bin rfl rfl rfl ?_)
      refine RL_some ?_; (refine X_assign rfl ?_)
      exact ⟨left - 1, by omega, i + 1, m', _, by omega, by rw [hp', hpb], hI', fun t ht => (List.mem_append.1 ht).elim (hys t) fun h => by rw [List.mem_singleton.1 h]; exact hmem, (Keep.cons 2 rfl (Keep.cons 7 rfl (Keep.cons 10 rfl (Keep.cons 11 rfl (Keep.cons 12 rfl (Keep.cons 14 rfl Keep.nil)))))), H.swap⟩
    · skip
      refine W_reg rfl ?_
      refine RL_some ?_; (refine X_move rfl ?_)
      refine RL_some ?_; (refine X_move rfl ?_)
      refine RL_some ?_; (refine X_idx T.sl36 rfl rfl (by omega) (by omega) ?_)
      refine RL_some ?_; (refine S_loadA1 (v := i64 n) H T.ty3 rfl hO encI_len hn rfl (o := 0) (by omega) (by decide) rfl ?_)
      refine RL_some ?_; (first | refine X_cmp_t rfl rfl rfl (by first | assumption | omega) ?_ | refine X_cmp_f rfl rfl rfl (by first | assumption | omega) ?_ | refine X_bin rfl rfl rfl ?_)
      refine RL_some ?_; (refine X_move rfl ?_)
      (first | refine RL_off rfl rfl ?_ | refine RL_off' rfl rfl ?_ | (refine RL_on rfl rfl ?_; (refine X_move rfl ?_)))
      (first | refine RL_off rfl rfl ?_ | refine RL_off' rfl rfl ?_ | (refine RL_on rfl rfl ?_; (refine X_move rfl ?_)))
      (first | refine RL_off rfl rfl ?_ | refine RL_off' rfl rfl ?_ | (refine RL_on rfl rfl ?_; (refine X_idx T.sl36 rfl rfl (by omega) (by omega) ?_)))
      (first | refine RL_off rfl rfl ?_ | refine RL_off' rfl rfl ?_ | (refine RL_on rfl rfl ?_; (refine S_loadA1 (v := i64 n) H T.ty3 rfl hO encI_len hn rfl (o := 0) (by omega) (by decide) rfl ?_)))
      (first | refine RL_off rfl rfl ?_ | refine RL_off' rfl rfl ?_ | (refine RL_on rfl rfl ?_; (refine X_move rfl ?_)))
      (first | refine RL_off rfl rfl ?_ | refine RL_off' rfl rfl ?_ | (refine RL_on rfl rfl ?_; (refine X_len T.sl35 rfl ?_)))
      (first | refine RL_off rfl rfl ?_ | refine RL_off' rfl rfl ?_ | (refine RL_on rfl rfl ?_; (first | refine X_cmp_t rfl rfl rfl (by first | assumption | omega) ?_ | refine X_cmp_f rfl rfl rfl (by first | assumption | omega) ?_ | refine X_bin rfl rfl rfl ?_)))
      refine RL_some ?_; (refine X_pick rfl rfl ?_)
      refine hK32 _ _ (W_keep (Keep.cons 2 rfl (Keep.cons 7 rfl (Keep.cons 10 rfl (Keep.cons 11 rfl (Keep.cons 12 rfl (Keep.cons 14 rfl (Keep.cons 125 rfl Keep.nil))))))) ?_)
      refine W_false rfl ?_
      refine W_skip ?_
      refine hK31 _ _ (W_keep (Keep.cons 2 rfl (Keep.cons 7 rfl (Keep.cons 10 rfl (Keep.cons 11 rfl (Keep.cons 12 rfl (Keep.cons 14 rfl (Keep.cons 125 rfl Keep.nil))))))) ?_)
      refine W_reg rfl ?_
      refine RL_some ?_; (refine X_move rfl ?_)
      refine RL_some ?_; (first | refine X_int rfl rfl rfl (by omega) ?_ | refine X_bin rfl rfl rfl ?_)
      refine RL_some ?_; (refine X_assign rfl ?_)
      exact ⟨left - 1, by omega, i + 1, mb', ys, by omega, hpb, hIb, hys, (Keep.cons 2 rfl (Keep.cons 7 rfl (Keep.cons 10 rfl (Keep.cons 11 rfl (Keep.cons 12 rfl (Keep.cons 14 rfl Keep.nil)))))), H⟩
    · skip
      refine W_reg rfl ?_
      refine RL_some ?_; (refine X_move rfl ?_)
      refine RL_some ?_; (refine X_move rfl ?_)
      refine RL_some ?_; (refine X_idx T.sl36 rfl rfl (by omega) (by omega) ?_)
      refine RL_some ?_; (refine S_loadA1 (v := i64 n) H T.ty3 rfl hO encI_len hn rfl (o := 0) (by omega) (by decide) rfl ?_)
      refine RL_some ?_; (first | refine X_cmp_t rfl rfl rfl (by first | assumption | omega) ?_ | refine X_cmp_f rfl rfl rfl (by first | assumption | omega) ?_ | refine X_bin rfl rfl rfl ?_)
      refine RL_some ?_; (refine X_move rfl ?_)
      (first | refine RL_off rfl rfl ?_ | refine RL_off' rfl rfl ?_ | (refine RL_on rfl rfl ?_; (refine X_move rfl ?_)))
      (first | refine RL_off rfl rfl ?_ | refine RL_off' rfl rfl ?_ | (refine RL_on rfl rfl ?_; (refine X_move rfl ?_)))
      (first | refine RL_off rfl rfl ?_ | refine RL_off' rfl rfl ?_ | (refine RL_on rfl rfl ?_; (refine X_idx T.sl36 rfl rfl (by omega) (by omega) ?_)))
      (first | refine RL_off rfl rfl ?_ | refine RL_off' rfl rfl ?_ | (refine RL_on rfl rfl ?_; (refine S_loadA1 (v := i64 n) H T.ty3 rfl hO encI_len hn rfl (o := 0) (by omega) (by decide) rfl ?_)))
      (first | refine RL_off rfl rfl ?_ | refine RL_off' rfl rfl ?_ | (refine RL_on rfl rfl ?_; (refine X_move rfl ?_)))
      (first | refine RL_off rfl rfl ?_ | refine RL_off' rfl rfl ?_ | (refine RL_on rfl rfl ?_; (refine X_len T.sl35 rfl ?_)))
      (first | refine RL_off rfl rfl ?_ | refine RL_off' rfl rfl ?_ | (refine RL_on rfl rfl ?_; (first | refine X_cmp_t rfl rfl rfl (by first | assumption | omega) ?_ | refine X_cmp_f rfl rfl rfl (by first | assumption | omega) ?_ | refine X_bin rfl rfl rfl ?_)))
      refine RL_some ?_; (refine X_pick rfl rfl ?_)
      refine hK32 _ _ (W_keep (Keep.cons 2 rfl (Keep.cons 7 rfl (Keep.cons 10 rfl (Keep.cons 11 rfl (Keep.cons 12 rfl (Keep.cons 14 rfl (Keep.cons 125 rfl Keep.nil))))))) ?_)
      refine W_false rfl ?_
      refine W_skip ?_
      refine hK31 _ _ (W_keep (Keep.cons 2 rfl (Keep.cons 7 rfl (Keep.cons 10 rfl (Keep.cons 11 rfl (Keep.cons 12 rfl (Keep.cons 14 rfl (Keep.cons 125 rfl Keep.nil))))))) ?_)
      refine W_reg rfl ?_
      refine RL_some ?_; (refine X_move rfl ?_)
      refine RL_some ?_; (first | refine X_int rfl rfl rfl (by omega) ?_ | refine X_bin rfl rfl rfl ?_)
      refine RL_some ?_; (refine X_assign rfl ?_)
      exact ⟨left - 1, by omega, i + 1, mb', ys, by omega, hpb, hIb, hys, (Keep.cons 2 rfl (Keep.cons 7 rfl (Keep.cons 10 rfl (Keep.cons 11 rfl (Keep.cons 12 rfl (Keep.cons 14 rfl Keep.nil)))))), H⟩
  refine W_exit ?_
  refine hK27 _ _ (W_keep (Keep.cons 2 rfl (Keep.cons 7 rfl (Keep.cons 10 rfl (Keep.cons 11 rfl (Keep.cons 12 rfl (Keep.cons 14 rfl (Keep.cons 109 rfl Keep.nil))))))) ?_)
  refine W_seq_k fun K33 hK33 => ?_
  refine W_seq_k fun K34 hK34 => ?_
  refine W_reg rfl ?_
  refine RL_some ?_; (refine X_move rfl ?_)
  refine RL_some ?_; (refine X_len T.sl35 rfl ?_)
  refine RL_some ?_; (first | refine X_int rfl rfl rfl (by omega) ?_ | refine X_bin rfl rfl rfl ?_)
  refine RL_some ?_; (refine X_assign rfl ?_)
  refine hK34 _ _ (W_keep (Keep.cons 7 rfl (Keep.cons 10 rfl (Keep.cons 11 rfl (Keep.cons 12 rfl (Keep.cons 15 rfl Keep.nil))))) ?_)
  clear c hi
  obtain ⟨g, hg⟩ : ∃ g : Nat, g = ls.length := ⟨_, rfl⟩
  refine W_block ?_
  refine W_loop (fun left pf w => ∃ (i : Nat) (mb' : PMx) (ys : List Spot), i ≤ ls.length ∧ left = i ∧ mb'.p = mb.p ∧ MapI mb' N ys ∧ (∀ t ∈ ys, t ∈ ls.map toOne) ∧ (∀ (j : Nat) t, i ≤ j → (ls.map toOne)[j]? = some t → t ∈ ys) ∧ Keep pf [(7, i64 N), (10, pt ma.p 0), (11, pt mb.p 0), (12, .slice ad ls.length cap), (15, i64 (i - 1))] ∧ St w0 w (Tab (.slice ad ls.length cap) 29 14 Spot.enc (ls.map toOne) :: PM mb' :: PM ma' :: L)) (ls.length) ?_ ?_
  · skip
    exact ⟨ls.length, mb', ys, by omega, rfl, hpb, hIb, hys, fun j t hj ht => (by rw [List.getElem?_eq_none (by simpa using hj)] at ht; simp at ht), (Keep.cons 7 rfl (Keep.cons 10 rfl (Keep.cons 11 rfl (Keep.cons 12 rfl (Keep.cons 15 rfl Keep.nil))))), H⟩
  clear hIb H hpb hys
  rintro left pf w ⟨i, mb', ys, hi, rfl, hpb, hIb, hys, hys2, hpf, H⟩
  refine W_keep hpf ?_
  clear hpf
  refine W_seq_k fun K35 hK35 => ?_
  refine W_seq_k fun K36 hK36 => ?_
  refine W_reg rfl ?_
  refine RL_some ?_; (refine X_move rfl ?_)
  refine RL_some ?_; (first | refine X_cmp_t rfl rfl rfl (by first | assumption | omega) ?_ | refine X_cmp_f rfl rfl rfl (by first | assumption | omega) ?_ | refine X_bin rfl rfl rfl ?_)
  refine hK36 _ _ (W_keep (Keep.cons 7 rfl (Keep.cons 10 rfl (Keep.cons 11 rfl (Keep.cons 12 rfl (Keep.cons 15 rfl (Keep.cons 139 rfl Keep.nil)))))) ?_)
  refine W_if rfl (fun c => ?_) (fun c => ?_)
  · skip
    refine W_skip ?_
    refine hK35 _ _ (W_keep (Keep.cons 7 rfl (Keep.cons 10 rfl (Keep.cons 11 rfl (Keep.cons 12 rfl (Keep.cons 15 rfl (Keep.cons 139 rfl Keep.nil)))))) ?_)
    refine W_seq_k fun K37 hK37 => ?_
    refine W_block ?_
    have c := of_decide_eq_true c
    obtain ⟨i, rfl⟩ : ∃ i', left = i' + 1 := ⟨left - 1, by omega⟩
    have hi1 : ((i + 1 : Nat) : Int) - 1 = i := by omega
    rw [hi1]
    obtain ⟨s, hs⟩ : ∃ s, ls[i]? = some s := ⟨_, List.getElem?_eq_getElem (by omega)⟩
    have hmem : toOne s ∈ ls.map toOne := List.mem_map_of_mem (List.mem_of_getElem? hs)
    obtain ⟨g, cap', hvw, _⟩ := H.tabPos' 0 rfl (by simp; omega)
    simp only [Value.slice.injEq] at hvw
    obtain ⟨rfl, _, rfl⟩ := hvw
    refine W_reg rfl ?_
    refine RL_some ?_; (refine X_move rfl ?_)
    refine RL_some ?_; (refine X_move rfl ?_)
    refine RL_some ?_; (refine X_move rfl ?_)
    refine RL_some ?_; (refine X_idx T.sl35 rfl rfl (by omega) (by omega) ?_)
    refine RL_some ?_; (refine S_loadT H 0 T.ty29 rfl spot_len rfl (j := i) (o := 0) (by simp) (hown _ _ hs) (by decide) (l := (toOne s).enc) rfl ?_)
    refine RL_some ?_; (rw [← hpb]; refine X_call T.ent14 rfl (calls_to (Put_pm (own := ls.map toOne) hIb hU (by simpa using h12) hys hmem (toOne_ok (hls s (List.mem_of_getElem? hs)).head) rfl (H.foc 1 rfl)) ?_); rintro v w ⟨m', hp', hI', H⟩; rw [hpb])
    refine hK37 _ _ (W_keep (Keep.cons 7 rfl (Keep.cons 10 rfl (Keep.cons 11 rfl (Keep.cons 12 rfl (Keep.cons 15 rfl Keep.nil))))) ?_)
    refine W_reg rfl ?_
    refine RL_some ?_; (refine X_move rfl ?_)
    refine RL_some ?_; (first | refine X_int rfl rfl rfl (by omega) ?_ | refine X_bin rfl rfl rfl ?_)
    refine RL_some ?_; (refine X_assign rfl ?_)
    refine ⟨i, by omega, i, m', _, by omega, rfl, by rw [hp', hpb], hI', fun t ht => (List.mem_append.1 ht).elim (hys t) fun h => by rw [List.mem_singleton.1 h]; exact hmem, fun j t hj ht => ?_, (Keep.cons 7 rfl (Keep.cons 10 rfl (Keep.cons 11 rfl (Keep.cons 12 rfl (Keep.cons 15 rfl Keep.nil))))), H.swap⟩
    rcases Nat.lt_or_ge i j with h | h
    · exact List.mem_append_left _ (hys2 j t (by omega) ht)
    · obtain rfl : j = i := by omega
      rw [hown _ _ hs] at ht; cases ht
      exact List.mem_append_right _ (List.mem_singleton.2 rfl)
  refine W_exit ?_
  refine hK33 _ _ (W_keep (Keep.cons 7 rfl (Keep.cons 10 rfl (Keep.cons 11 rfl (Keep.cons 12 rfl (Keep.cons 15 rfl (Keep.cons 139 rfl Keep.nil)))))) ?_)
  refine W_seq_k fun K38 hK38 => ?_
  refine W_seq_k fun K39 hK39 => ?_
  have c := of_decide_eq_false c
  obtain rfl : left = 0 := by omega
  have hsame := fun lba => MapI.same hU (fun t => Iff.rfl) (fun t => ⟨hys t, fun h => by obtain ⟨j, hj⟩ := List.mem_iff_getElem?.1 h; exact hys2 j t (by omega) hj⟩) hIa hIb lba
  replace H := H.drop
  refine W_reg rfl ?_
  refine RL_some ?_; (refine X_assign rfl ?_)
  refine hK39 _ _ (W_keep (Keep.cons 7 rfl (Keep.cons 10 rfl (Keep.cons 11 rfl (Keep.cons 16 rfl Keep.nil)))) ?_)
  refine W_block ?_
  refine W_loop (fun left pf w => ∃ (i : Nat), i + left = N ∧ Keep pf [(7, i64 N), (10, pt ma.p 0), (11, pt mb.p 0), (16, i64 i)] ∧ St w0 w (PM mb' :: PM ma' :: L)) (N) ?_ ?_
  · skip
    exact ⟨0, by omega, (Keep.cons 7 rfl (Keep.cons 10 rfl (Keep.cons 11 rfl (Keep.cons 16 rfl Keep.nil)))), H⟩
  clear H
  rintro left pf w ⟨i, hi, hpf, H⟩
  refine W_keep hpf ?_
  clear hpf
  refine W_seq_k fun K40 hK40 => ?_
  refine W_seq_k fun K41 hK41 => ?_
  refine W_reg rfl ?_
  refine RL_some ?_; (refine X_move rfl ?_)
  refine RL_some ?_; (refine X_move rfl ?_)
  refine RL_some ?_; (first | refine X_cmp_t rfl rfl rfl (by first | assumption | omega) ?_ | refine X_cmp_f rfl rfl rfl (by first | assumption | omega) ?_ | refine X_bin rfl rfl rfl ?_)
  refine hK41 _ _ (W_keep (Keep.cons 7 rfl (Keep.cons 10 rfl (Keep.cons 11 rfl (Keep.cons 16 rfl (Keep.cons 150 rfl Keep.nil))))) ?_)
  refine W_if rfl (fun c => ?_) (fun c => ?_)
  · skip
    refine W_skip ?_
    refine hK40 _ _ (W_keep (Keep.cons 7 rfl (Keep.cons 10 rfl (Keep.cons 11 rfl (Keep.cons 16 rfl (Keep.cons 150 rfl Keep.nil))))) ?_)
    refine W_seq_k fun K42 hK42 => ?_
    refine W_block ?_
    refine W_seq_k fun K43 hK43 => ?_
    refine W_reg rfl ?_
    refine RL_some ?_; (refine X_move rfl ?_)
    refine RL_some ?_; (refine X_move rfl ?_)
    refine RL_some ?_; (rw [← hpa]; refine X_call T.ent15 rfl (calls_to (Get_pm ma' 1 i H.swap) ?_); rintro v w ⟨rfl, H⟩; rw [hpa])
    refine RL_some ?_; (refine X_move rfl ?_)
    refine RL_some ?_; (refine X_extract rfl rfl ?_)
    refine RL_some ?_; (refine X_extract rfl rfl ?_)
    refine RL_some ?_; (refine S_alloc H T.ze29 ?_; intro b17 w H)
    refine RL_none ?_; (refine S_store H 0 T.ty29 rfl rfl rfl rfl (Nat.le_of_ble_eq_true rfl) rfl (c' := ((getV ma' 1 i).getD noSpot).enc.toArray) rfl ?_; intro w H)
    refine RL_some ?_; (refine X_assign rfl ?_)
    refine hK43 _ _ (W_keep (Keep.cons 7 rfl (Keep.cons 10 rfl (Keep.cons 11 rfl (Keep.cons 16 rfl (Keep.cons 17 rfl (Keep.cons 18 rfl Keep.nil)))))) ?_)
    refine W_seq_k fun K44 hK44 => ?_
    refine W_reg rfl ?_
    refine RL_some ?_; (refine X_move rfl ?_)
    refine RL_some ?_; (refine X_move rfl ?_)
    refine RL_some ?_; (rw [← hpb]; refine X_call T.ent15 rfl (calls_to (Get_pm mb' 1 i (H.foc 2 rfl)) ?_); rintro v w ⟨rfl, H⟩; rw [hpb])
    refine RL_some ?_; (refine X_move rfl ?_)
    refine RL_some ?_; (refine X_extract rfl rfl ?_)
    refine RL_some ?_; (refine X_extract rfl rfl ?_)
    refine RL_some ?_; (refine S_alloc H T.ze29 ?_; intro b19 w H)
    refine RL_none ?_; (refine S_store H 0 T.ty29 rfl rfl rfl rfl (Nat.le_of_ble_eq_true rfl) rfl (c' := ((getV mb' 1 i).getD noSpot).enc.toArray) rfl ?_; intro w H)
    refine RL_some ?_; (refine X_assign rfl ?_)
    refine hK44 _ _ (W_keep (Keep.cons 7 rfl (Keep.cons 10 rfl (Keep.cons 11 rfl (Keep.cons 16 rfl (Keep.cons 17 rfl (Keep.cons 18 rfl (Keep.cons 19 rfl (Keep.cons 20 rfl Keep.nil)))))))) ?_)
    rw [← hsame i] at H
    rw [← hsame i]
    refine W_seq_k fun K45 hK45 => ?_
    refine W_reg rfl ?_
    refine RL_some ?_; (refine X_move rfl ?_)
    refine RL_some ?_; (refine X_move rfl ?_)
    refine RL_some ?_; (refine X_neB Try.underlying4 rfl rfl ?_; rw [decide_eq_true rfl])
    refine RL_some ?_; (refine X_move rfl ?_)
    (first | refine RL_off rfl rfl ?_ | refine RL_off' rfl rfl ?_ | (refine RL_on rfl rfl ?_; ((first | refine S_load H 0 T.ty29 rfl rfl (l := ((getV ma' 1 i).getD noSpot).enc) rfl (Nat.le_of_ble_eq_true rfl) ?_ | refine S_load H 1 T.ty29 rfl rfl (l := ((getV ma' 1 i).getD noSpot).enc) rfl (Nat.le_of_ble_eq_true rfl) ?_ | refine S_load H 2 T.ty29 rfl rfl (l := ((getV ma' 1 i).getD noSpot).enc) rfl (Nat.le_of_ble_eq_true rfl) ?_ | refine S_load H 3 T.ty29 rfl rfl (l := ((getV ma' 1 i).getD noSpot).enc) rfl (Nat.le_of_ble_eq_true rfl) ?_ | refine S_load H 4 T.ty29 rfl rfl (l := ((getV ma' 1 i).getD noSpot).enc) rfl (Nat.le_of_ble_eq_true rfl) ?_ | refine S_load H 5 T.ty29 rfl rfl (l := ((getV ma' 1 i).getD noSpot).enc) rfl (Nat.le_of_ble_eq_true rfl) ?_ | refine S_load H 6 T.ty29 rfl rfl (l := ((getV ma' 1 i).getD noSpot).enc) rfl (Nat.le_of_ble_eq_true rfl) ?_ | refine S_load H 7 T.ty29 rfl rfl (l := ((getV ma' 1 i).getD noSpot).enc) rfl (Nat.le_of_ble_eq_true rfl) ?_ | refine S_load H 8 T.ty29 rfl rfl (l := ((getV ma' 1 i).getD noSpot).enc) rfl (Nat.le_of_ble_eq_true rfl) ?_ | refine S_load H 9 T.ty29 rfl rfl (l := ((getV ma' 1 i).getD noSpot).enc) rfl (Nat.le_of_ble_eq_true rfl) ?_))))
    (first | refine RL_off rfl rfl ?_ | refine RL_off' rfl rfl ?_ | (refine RL_on rfl rfl ?_; ((first | refine S_load H 0 T.ty29 rfl rfl (l := ((getV ma' 1 i).getD noSpot).enc) rfl (Nat.le_of_ble_eq_true rfl) ?_ | refine S_load H 1 T.ty29 rfl rfl (l := ((getV ma' 1 i).getD noSpot).enc) rfl (Nat.le_of_ble_eq_true rfl) ?_ | refine S_load H 2 T.ty29 rfl rfl (l := ((getV ma' 1 i).getD noSpot).enc) rfl (Nat.le_of_ble_eq_true rfl) ?_ | refine S_load H 3 T.ty29 rfl rfl (l := ((getV ma' 1 i).getD noSpot).enc) rfl (Nat.le_of_ble_eq_true rfl) ?_ | refine S_load H 4 T.ty29 rfl rfl (l := ((getV ma' 1 i).getD noSpot).enc) rfl (Nat.le_of_ble_eq_true rfl) ?_ | refine S_load H 5 T.ty29 rfl rfl (l := ((getV ma' 1 i).getD noSpot).enc) rfl (Nat.le_of_ble_eq_true rfl) ?_ | refine S_load H 6 T.ty29 rfl rfl (l := ((getV ma' 1 i).getD noSpot).enc) rfl (Nat.le_of_ble_eq_true rfl) ?_ | refine S_load H 7 T.ty29 rfl rfl (l := ((getV ma' 1 i).getD noSpot).enc) rfl (Nat.le_of_ble_eq_true rfl) ?_ | refine S_load H 8 T.ty29 rfl rfl (l := ((getV ma' 1 i).getD noSpot).enc) rfl (Nat.le_of_ble_eq_true rfl) ?_ | refine S_load H 9 T.ty29 rfl rfl (l := ((getV ma' 1 i).getD noSpot).enc) rfl (Nat.le_of_ble_eq_true rfl) ?_))))
    (first | refine RL_off rfl rfl ?_ | refine RL_off' rfl rfl ?_ | (refine RL_on rfl rfl ?_; (refine X_neS T.eg29 (spot_eq 9997 _ _) rfl rfl ?_; rw [decide_eq_true rfl])))
    refine RL_some ?_; (refine X_pick rfl rfl ?_)
    refine hK45 _ _ (W_keep (Keep.cons 7 rfl (Keep.cons 10 rfl (Keep.cons 11 rfl (Keep.cons 16 rfl (Keep.cons 172 rfl Keep.nil))))) ?_)
    refine W_false rfl ?_
    refine W_skip ?_
    refine hK42 _ _ (W_keep (Keep.cons 7 rfl (Keep.cons 10 rfl (Keep.cons 11 rfl (Keep.cons 16 rfl (Keep.cons 172 rfl Keep.nil))))) ?_)
    refine W_reg rfl ?_
    refine RL_some ?_; (refine X_move rfl ?_)
    refine RL_some ?_; (first | refine X_int rfl rfl rfl (by omega) ?_ | refine X_bin rfl rfl rfl ?_)
    refine RL_some ?_; (refine X_assign rfl ?_)
    exact ⟨left - 1, by have c := of_decide_eq_true c; omega, i + 1, by have c := of_decide_eq_true c; omega, (Keep.cons 7 rfl (Keep.cons 10 rfl (Keep.cons 11 rfl (Keep.cons 16 rfl Keep.nil)))), H.drop.swap.drop⟩
  refine W_exit ?_
  refine hK38 _ _ (W_keep (Keep.cons 7 rfl (Keep.cons 10 rfl (Keep.cons 11 rfl (Keep.cons 16 rfl (Keep.cons 150 rfl Keep.nil))))) ?_)
  refine W_seq_k fun K46 hK46 => ?_
  refine W_reg rfl ?_
  refine RL_some ?_; (refine X_call T.ent11 rfl (calls_to (awake_spec H) ?_); rintro v w ⟨rfl, H⟩)
  refine RL_some ?_; (refine X_assign rfl ?_)
  refine hK46 _ _ (W_keep (Keep.cons 6 rfl Keep.nil) ?_)
  refine W_ret ?_
  (try simp only [thenQ, blockQ, noGotoQ])
  refine body_tmp (.inr rfl) rfl rfl ?_
  exact ⟨rfl, _, H⟩
end Go.Proofs.Ytinngnckojbpnaa
