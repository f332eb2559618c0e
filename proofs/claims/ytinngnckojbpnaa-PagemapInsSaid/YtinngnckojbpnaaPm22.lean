import Derived.Test.YtinngnckojbpnaaPm21
/-! pagemap: Move. -/
namespace Go.Proofs.Ytinngnckojbpnaa
open Go.Nep Go.Sort Go.Shelf Go.Proofs
set_option maxRecDepth 100000
set_option linter.unusedVariables false
set_option linter.unusedSimpArgs false
set_option maxHeartbeats 1600000

def mvS (a b : Pl) (o : Hd) (s : Spot) : Spot := if s.place = a then { s with place := b, order := o } else s
def mvC (a b : Pl) (o : Hd) (c : Option Spot) : Option Spot := c.map (mvS a b o)
/-- a row of which so many cells are turned -/
def mvK (a b : Pl) (o : Hd) (l : List (Option Spot)) (i : Nat) : List (Option Spot) := (l.take i).map (mvC a b o) ++ l.drop i
theorem mvK_len (a b : Pl) (o : Hd) (l : List (Option Spot)) (i : Nat) : (mvK a b o l i).length = l.length := by simp [mvK]; omega
theorem mvK_get (a b : Pl) (o : Hd) {l : List (Option Spot)} {i : Nat} {c : Option Spot} (h : l[i]? = some c) : (mvK a b o l i)[i]? = some c := by
  have hi := (List.getElem?_eq_some_iff.1 h).1
  unfold mvK
  rw [List.getElem?_append_right (by simp; omega)]
  simp [Nat.min_eq_left (Nat.le_of_lt hi), h]
theorem mvK_step (a b : Pl) (o : Hd) {l : List (Option Spot)} {i : Nat} {c : Option Spot} (h : l[i]? = some c) : mvK a b o l (i + 1) = (mvK a b o l i).set i (mvC a b o c) := by
  obtain ⟨hi, hc⟩ := List.getElem?_eq_some_iff.1 h
  unfold mvK
  rw [map_take _ _ _ h, List.set_append_right _ _ (by simp; omega), List.length_map, List.length_take, Nat.min_eq_left (Nat.le_of_lt hi), Nat.sub_self, List.drop_eq_getElem_cons hi, List.set_cons_zero, List.append_assoc, List.singleton_append]
theorem mvK_zero (a b : Pl) (o : Hd) (l : List (Option Spot)) : mvK a b o l 0 = l := by simp [mvK]
theorem mvK_all (a b : Pl) (o : Hd) (l : List (Option Spot)) : mvK a b o l l.length = l.map (mvC a b o) := by simp [mvK]
/-- the rows, in the midst -/
def mvL (a b : Pl) (o : Hd) (f : Nat → List (Option Spot)) (k i : Nat) : Nat → List (Option Spot) := fun j => if j < k then (f j).map (mvC a b o) else if j = k then mvK a b o (f k) i else f j
theorem mvL_len (a b : Pl) (o : Hd) (f : Nat → List (Option Spot)) (k i j : Nat) : (mvL a b o f k i j).length = (f j).length := by
  unfold mvL
  split
  · simp
  · split
    · rename_i h; subst h; exact mvK_len ..
    · rfl
theorem mvL_zero (a b : Pl) (o : Hd) (f : Nat → List (Option Spot)) : mvL a b o f 0 0 = f := by
  funext j
  unfold mvL
  rw [if_neg (by omega)]
  split
  · rename_i h; subst h; exact mvK_zero ..
  · rfl
theorem mvL_next (a b : Pl) (o : Hd) (f : Nat → List (Option Spot)) (k : Nat) : mvL a b o f k (f k).length = mvL a b o f (k + 1) 0 := by
  funext j
  unfold mvL
  by_cases h1 : j < k
  · rw [if_pos h1, if_pos (by omega)]
  · rw [if_neg h1]
    by_cases h2 : j = k
    · subst h2
      rw [if_pos rfl, if_pos (by omega), mvK_all]
    · rw [if_neg h2, if_neg (by omega)]
      by_cases h3 : j = k + 1
      · subst h3; rw [if_pos rfl, mvK_zero]
      · rw [if_neg h3]
theorem mvL_at (a b : Pl) (o : Hd) (f : Nat → List (Option Spot)) (k i : Nat) : mvL a b o f k i k = mvK a b o (f k) i := by
  unfold mvL
  rw [if_neg (by omega), if_pos rfl]
theorem mvL_step (a b : Pl) (o : Hd) (f : Nat → List (Option Spot)) (k i : Nat) {c : Option Spot} (h : (f k)[i]? = some c) : mvL a b o f k (i + 1) = atK (mvL a b o f k i) k ((mvK a b o (f k) i).set i (mvC a b o c)) := by
  funext j
  unfold atK
  by_cases h2 : j = k
  · subst h2; rw [if_pos rfl, mvL_at, mvK_step a b o h]
  · rw [if_neg h2]
    unfold mvL
    rw [if_neg h2, if_neg h2]
/-- a map whose cells are others -/
def PMx.withF (m : PMx) (f : Nat → List (Option Spot)) : PMx := { m with l := f }
theorem withF_vs (m : PMx) (f : Nat → List (Option Spot)) (h : ∀ j, (f j).length = (m.l j).length) : (m.withF f).vs = m.vs := by
  unfold PMx.vs PMx.withF
  simp only [h]

theorem plOf_mv (a b : Pl) (o : Hd) (c : Option Spot) (q : Pl) : plOf (mvC a b o c) q = if a = b then plOf c q else if q = b then plOf c a + plOf c b else if q = a then 0 else plOf c q := by
  cases c with
  | none => simp [mvC, plOf]
  | some s =>
    simp only [mvC, Option.map_some, plOf, mvS]
    by_cases e1 : s.place = a
    · rw [if_pos e1]
      by_cases e2 : a = b
      · rw [if_pos e2, e1, e2]
      · rw [if_neg e2]
        by_cases e3 : q = b
        · subst e3; simp [e1, Ne.symm e2]
        · rw [if_neg e3, if_neg e3]
          by_cases e4 : q = a
          · rw [if_pos e4]
          · rw [if_neg e4, if_neg (by rw [e1]; exact e4)]
    · rw [if_neg e1]
      by_cases e2 : a = b
      · rw [if_pos e2]
      · rw [if_neg e2]
        by_cases e3 : q = b
        · subst e3; simp [Ne.symm e1]
        · rw [if_neg e3]
          by_cases e4 : q = a
          · rw [if_pos e4, if_neg (by rw [e4]; exact Ne.symm e1)]
          · rw [if_neg e4]
theorem cntL_mv (a b : Pl) (o : Hd) (l : List (Option Spot)) (q : Pl) : cntL (l.map (mvC a b o)) q = if a = b then cntL l q else if q = b then cntL l a + cntL l b else if q = a then 0 else cntL l q := by
  unfold cntL
  rw [List.map_map]
  induction l with
  | nil => simp
  | cons c r ih =>
    simp only [List.map_cons, List.sum_cons, Function.comp] at ih ⊢
    rw [ih, plOf_mv]
    by_cases e1 : a = b
    · simp only [e1, if_true]
    · simp only [e1, if_false]
      by_cases e2 : q = b
      · simp only [e2, if_true]; omega
      · simp only [e2, if_false]
        by_cases e3 : q = a
        · simp only [e3, if_true]; omega
        · simp only [e3, if_false]
/-- all rows -/
def mvF (a b : Pl) (o : Hd) (f : Nat → List (Option Spot)) : Nat → List (Option Spot) := fun j => if j < 4 then (f j).map (mvC a b o) else f j
theorem cnt_mv (a b : Pl) (o : Hd) (f : Nat → List (Option Spot)) (q : Pl) : cnt (mvF a b o f) q = if a = b then cnt f q else if q = b then cnt f a + cnt f b else if q = a then 0 else cnt f q := by
  have e : ∀ k, k < 4 → cntL (mvF a b o f k) q = cntL ((f k).map (mvC a b o)) q := fun k hk => by unfold mvF; rw [if_pos hk]
  unfold cnt
  rw [e 0 (by omega), e 1 (by omega), e 2 (by omega), e 3 (by omega), cntL_mv, cntL_mv, cntL_mv, cntL_mv]
  by_cases e1 : a = b
  · simp only [e1, if_true]
  · simp only [e1, if_false]
    by_cases e2 : q = b
    · simp only [e2, if_true]; omega
    · simp only [e2, if_false]
      by_cases e3 : q = a
      · simp only [e3, if_true]; omega
      · simp only [e3, if_false]
theorem mvL_four (a b : Pl) (o : Hd) (f : Nat → List (Option Spot)) : mvL a b o f 4 0 = mvF a b o f := by
  funext j
  unfold mvL mvF
  by_cases h : j < 4
  · rw [if_pos h, if_pos h]
  · rw [if_neg h, if_neg h]
    split
    · rename_i e; subst e; exact mvK_zero ..
    · rfl

theorem Move_bad (m : PMx) (a b : Pl) (o : Hd) (hR : REF m.E m.clock (cnt m.l)) (hbad : a ≠ b ∧ cnt m.l b ≠ 0) {w0 w : World} {L : List Asn} (H : St w0 w (m.at_ ++ L)) :
    Calls Try.prog 24 #[pt m.p 0, pk a, pk b, .agg o.enc.toArray] w (After fun v w' => v = i64 2 ∧ St w0 w' (m.at_ ++ L)) := by
  obtain ⟨hab, hb⟩ := hbad
  have h0 := (cnt_le m.l b).1
  have hv := hR.val b
  refine calls_of_W (N := 91) (args := [pt m.p 0, pk a, pk b, .agg o.enc.toArray]) Try.func24 rfl Try.ntmps24 (by simp) ?_
  refine W_seq_k fun K1 hK1 => ?_
  refine W_reg rfl ?_
  refine RL_some ?_; (refine S_box H rfl ?_; intro b5 w H)
  refine RL_some ?_; (refine S_box H rfl ?_; intro b6 w H)
  refine RL_some ?_; (refine S_box H rfl ?_; intro b7 w H)
  refine RL_some ?_; (refine X_assign rfl ?_)
  refine hK1 _ _ (W_keep (Keep.cons 0 rfl (Keep.cons 5 rfl (Keep.cons 6 rfl (Keep.cons 7 rfl Keep.nil)))) ?_)
  refine W_seq_k fun K2 hK2 => ?_
  refine W_seq_k fun K3 hK3 => ?_
  refine W_draw (.p 0 (.p 1 (.p 2 (.p 3 (.p 4 (.p 5 (.p 6 (.p 7 (.p 8 (.p 9 (.p 10 (.p 11 (.p 12 (.p 13 (.p 14 (.p 15 .nil)))))))))))))))) T.mixed rfl ?_
  replace H := H.drew
  apply DD_pure rfl rfl; next => (intro _; refine X_move rfl ⟨rfl, rfl⟩)
  apply DD_pure rfl rfl; next => (intro _; first | refine X_isnil T.pt37 rfl rfl ⟨rfl, rfl⟩ | refine X_isnil' T.pt37 rfl rfl ⟨rfl, rfl⟩)
  apply DD_pure rfl rfl; next => (intro _; refine X_move rfl ⟨rfl, rfl⟩)
  (first | refine DD_off rfl rfl rfl rfl ?_ | refine DD_off' rfl rfl rfl rfl ?_ | (apply DD_read_on rfl rfl rfl rfl; next => (refine S_load H 2 T.ty23 rfl rfl (l := a.enc) rfl (Nat.le_of_ble_eq_true rfl) ⟨rfl, rfl⟩)))
  (first | refine DD_off rfl rfl rfl rfl ?_ | refine DD_off' rfl rfl rfl rfl ?_ | (apply DD_read_on rfl rfl rfl rfl; next => (refine S_load H 1 T.ty23 rfl rfl (l := b.enc) rfl (Nat.le_of_ble_eq_true rfl) ⟨rfl, rfl⟩)))
  (first | refine DD_off rfl rfl rfl rfl ?_ | refine DD_off' rfl rfl rfl rfl ?_ | (apply DD_on rfl rfl rfl rfl; next => (intro _; refine X_neS (r := false) T.eg23 ((pl_eq 9998 a b).of (decide_eq_false hab)) rfl rfl ⟨rfl, rfl⟩)))
  (first | refine DD_off rfl rfl rfl rfl ?_ | refine DD_off' rfl rfl rfl rfl ?_ | (apply DD_on rfl rfl rfl rfl; next => (intro _; refine X_move rfl ⟨rfl, rfl⟩)))
  (first | refine DD_off rfl rfl rfl rfl ?_ | refine DD_off' rfl rfl rfl rfl ?_ | (apply DD_on rfl rfl rfl rfl; next => (intro _; refine X_move rfl ⟨rfl, rfl⟩)))
  (first | refine DD_off rfl rfl rfl rfl ?_ | refine DD_off' rfl rfl rfl rfl ?_ | (apply DD_on rfl rfl rfl rfl; next => (intro _; first | refine X_nil rfl ⟨rfl, rfl⟩ | refine X_nil_func rfl ⟨rfl, rfl⟩)))
  (first | refine DD_off rfl rfl rfl rfl ?_ | refine DD_off' rfl rfl rfl rfl ?_ | (apply DD_on rfl rfl rfl rfl; next => (intro _; refine X_fieldAddr T.fd73_1 rfl ⟨rfl, rfl⟩)))
  (first | refine DD_off rfl rfl rfl rfl ?_ | refine DD_off' rfl rfl rfl rfl ?_ | (apply DD_read_on rfl rfl rfl rfl; next => (refine S_load1 H 3 T.ty69 rfl rfl (v := .map (some m.r)) rfl ⟨rfl, rfl⟩)))
  (first | refine DD_off rfl rfl rfl rfl ?_ | refine DD_off' rfl rfl rfl rfl ?_ | (apply DD_read_on rfl rfl rfl rfl; next => (refine S_load H 1 T.ty23 rfl rfl (l := b.enc) rfl (Nat.le_of_ble_eq_true rfl) ⟨rfl, rfl⟩)))
  (first | refine DD_off rfl rfl rfl rfl ?_ | refine DD_off' rfl rfl rfl rfl ?_ | (apply DD_read_on rfl rfl rfl rfl; next => (refine S_lookup (a := b) H 4 pl_law T.mp69 T.ze3 rfl rfl rfl ⟨rfl, rfl⟩)))
  (first | refine DD_off rfl rfl rfl rfl ?_ | refine DD_off' rfl rfl rfl rfl ?_ | (apply DD_on rfl rfl rfl rfl; next => (intro _; refine X_cmp_t (c := 0 < valE m.E b) rfl rfl rfl (by omega) ⟨rfl, rfl⟩)))
  (first | refine DD_off rfl rfl rfl rfl ?_ | refine DD_off' rfl rfl rfl rfl ?_ | (apply DD_on rfl rfl rfl rfl; next => (intro _; refine X_pick rfl rfl ⟨rfl, rfl⟩)))
  apply DD_pure rfl rfl; next => (intro _; refine X_pick rfl rfl ⟨rfl, rfl⟩)
  refine hK3 _ _ (W_keep (Keep.cons 0 rfl (Keep.cons 5 rfl (Keep.cons 6 rfl (Keep.cons 7 rfl (Keep.cons 29 rfl Keep.nil))))) ?_)
  refine W_true rfl ?_
  refine W_seq_k fun K4 hK4 => ?_
  refine W_reg rfl ?_
  refine RL_some ?_; (refine X_assign rfl ?_)
  refine hK4 _ _ (W_keep (Keep.cons 8 rfl Keep.nil) ?_)
  refine W_ret ?_
  (try simp only [thenQ, blockQ, noGotoQ])
  refine body_tmp (.inr rfl) rfl rfl ?_
  exact ⟨rfl, H.drop.drop.drop⟩

theorem Move_spec (m : PMx) (a b : Pl) (o : Hd) (hlen : ∀ k, k < 4 → (m.l k).length ≤ 65535) (hR : REF m.E m.clock (cnt m.l)) (hok : a = b ∨ cnt m.l b = 0) {w0 w : World} {L : List Asn} (H : St w0 w (m.at_ ++ L)) :
    Calls Try.prog 24 #[pt m.p 0, pk a, pk b, .agg o.enc.toArray] w (After fun v w' => v = i64 0 ∧ ∃ E' clock', REF E' clock' (cnt (mvF a b o m.l)) ∧ St w0 w' (((m.withF (mvF a b o m.l)).withE E' clock').at_ ++ L)) := by
  have hva := hR.val a
  have hvb := hR.val b
  have hca := cnt_le m.l a
  have hl0 := hlen 0 (by omega)
  have hl1 := hlen 1 (by omega)
  have hl2 := hlen 2 (by omega)
  have hl3 := hlen 3 (by omega)
  refine calls_of_W (N := 91) (args := [pt m.p 0, pk a, pk b, .agg o.enc.toArray]) Try.func24 rfl Try.ntmps24 (by simp) ?_
  refine W_seq_k fun K1 hK1 => ?_
  refine W_reg rfl ?_
  refine RL_some ?_; (refine S_box H rfl ?_; intro b5 w H)
  refine RL_some ?_; (refine S_box H rfl ?_; intro b6 w H)
  refine RL_some ?_; (refine S_box H rfl ?_; intro b7 w H)
  refine RL_some ?_; (refine X_assign rfl ?_)
  refine hK1 _ _ (W_keep (Keep.cons 0 rfl (Keep.cons 5 rfl (Keep.cons 6 rfl (Keep.cons 7 rfl Keep.nil)))) ?_)
  refine W_seq_k fun K2 hK2 => ?_
  refine W_seq_k fun K3 hK3 => ?_
  refine W_boolR 29 (False) [0, 5, 6, 7] H ?_ ?_
  · by_cases e : a = b
    all_goals
      refine W_draw (.p 0 (.p 1 (.p 2 (.p 3 (.p 4 (.p 5 (.p 6 (.p 7 (.p 8 (.p 9 (.p 10 (.p 11 (.p 12 (.p 13 (.p 14 (.p 15 .nil)))))))))))))))) T.mixed rfl ?_
      replace H := H.drew
      apply DD_pure rfl rfl; next => (intro _; refine X_move rfl ⟨rfl, rfl⟩)
      apply DD_pure rfl rfl; next => (intro _; first | refine X_isnil T.pt37 rfl rfl ⟨rfl, rfl⟩ | refine X_isnil' T.pt37 rfl rfl ⟨rfl, rfl⟩)
      apply DD_pure rfl rfl; next => (intro _; refine X_move rfl ⟨rfl, rfl⟩)
      (first | refine DD_off rfl rfl rfl rfl ?_ | refine DD_off' rfl rfl rfl rfl ?_ | (apply DD_read_on rfl rfl rfl rfl; next => (refine S_load H 2 T.ty23 rfl rfl (l := a.enc) rfl (Nat.le_of_ble_eq_true rfl) ⟨rfl, rfl⟩)))
      (first | refine DD_off rfl rfl rfl rfl ?_ | refine DD_off' rfl rfl rfl rfl ?_ | (apply DD_read_on rfl rfl rfl rfl; next => (refine S_load H 1 T.ty23 rfl rfl (l := b.enc) rfl (Nat.le_of_ble_eq_true rfl) ⟨rfl, rfl⟩)))
      (first | refine DD_off rfl rfl rfl rfl ?_ | refine DD_off' rfl rfl rfl rfl ?_ | (apply DD_on rfl rfl rfl rfl; next => (intro _; first | refine X_neS (r := true) T.eg23 ((pl_eq 9998 a b).of (decide_eq_true e)) rfl rfl ⟨rfl, rfl⟩ | refine X_neS (r := false) T.eg23 ((pl_eq 9998 a b).of (decide_eq_false e)) rfl rfl ⟨rfl, rfl⟩)))
      (first | refine DD_off rfl rfl rfl rfl ?_ | refine DD_off' rfl rfl rfl rfl ?_ | (apply DD_on rfl rfl rfl rfl; next => (intro _; refine X_move rfl ⟨rfl, rfl⟩)))
      (first | refine DD_off rfl rfl rfl rfl ?_ | refine DD_off' rfl rfl rfl rfl ?_ | (apply DD_on rfl rfl rfl rfl; next => (intro _; refine X_move rfl ⟨rfl, rfl⟩)))
      (first | refine DD_off rfl rfl rfl rfl ?_ | refine DD_off' rfl rfl rfl rfl ?_ | (apply DD_on rfl rfl rfl rfl; next => (intro _; first | refine X_nil rfl ⟨rfl, rfl⟩ | refine X_nil_func rfl ⟨rfl, rfl⟩)))
      (first | refine DD_off rfl rfl rfl rfl ?_ | refine DD_off' rfl rfl rfl rfl ?_ | (apply DD_on rfl rfl rfl rfl; next => (intro _; refine X_fieldAddr T.fd73_1 rfl ⟨rfl, rfl⟩)))
      (first | refine DD_off rfl rfl rfl rfl ?_ | refine DD_off' rfl rfl rfl rfl ?_ | (apply DD_read_on rfl rfl rfl rfl; next => (refine S_load1 H 3 T.ty69 rfl rfl (v := .map (some m.r)) rfl ⟨rfl, rfl⟩)))
      (first | refine DD_off rfl rfl rfl rfl ?_ | refine DD_off' rfl rfl rfl rfl ?_ | (apply DD_read_on rfl rfl rfl rfl; next => (refine S_load H 1 T.ty23 rfl rfl (l := b.enc) rfl (Nat.le_of_ble_eq_true rfl) ⟨rfl, rfl⟩)))
      (first | refine DD_off rfl rfl rfl rfl ?_ | refine DD_off' rfl rfl rfl rfl ?_ | (apply DD_read_on rfl rfl rfl rfl; next => (refine S_lookup (a := b) H 4 pl_law T.mp69 T.ze3 rfl rfl rfl ⟨rfl, rfl⟩)))
      (first | refine DD_off rfl rfl rfl rfl ?_ | refine DD_off' rfl rfl rfl rfl ?_ | (apply DD_on rfl rfl rfl rfl; next => (intro _; refine X_cmp_f (c := 0 < valE m.E b) rfl rfl rfl (by rcases hok with h | h; exact absurd h e; omega) ⟨rfl, rfl⟩)))
      (first | refine DD_off rfl rfl rfl rfl ?_ | refine DD_off' rfl rfl rfl rfl ?_ | (apply DD_on rfl rfl rfl rfl; next => (intro _; refine X_pick rfl rfl ⟨rfl, rfl⟩)))
      apply DD_pure rfl rfl; next => (intro _; refine X_pick rfl rfl ⟨rfl, rfl⟩)
      exact ⟨_, by simp, rfl, ⟨rfl, rfl, rfl, rfl, trivial⟩, H⟩
  intro q w hq H
  skip
  refine hK3 _ _ (W_keep (Keep.cons 0 rfl (Keep.cons 5 rfl (Keep.cons 6 rfl (Keep.cons 7 rfl (Keep.cons 29 rfl Keep.nil))))) ?_)
  obtain rfl : q = false := by cases q; rfl; exact (hq.1 rfl).elim
  refine W_false rfl ?_
  refine W_skip ?_
  refine hK2 _ _ (W_keep (Keep.cons 0 rfl (Keep.cons 5 rfl (Keep.cons 6 rfl (Keep.cons 7 rfl (Keep.cons 29 rfl Keep.nil))))) ?_)
  refine W_seq_k fun K4 hK4 => ?_
  refine W_draw (.p 0 (.p 1 (.p 2 (.p 3 (.p 4 (.p 5 (.p 6 .nil))))))) T.mixed rfl ?_
  replace H := H.drew
  apply DD_pure rfl rfl; next => (intro _; refine X_move rfl ⟨rfl, rfl⟩)
  apply DD_pure rfl rfl; next => (intro _; first | refine X_nil rfl ⟨rfl, rfl⟩ | refine X_nil_func rfl ⟨rfl, rfl⟩)
  apply DD_pure rfl rfl; next => (intro _; refine X_fieldAddr T.fd73_1 rfl ⟨rfl, rfl⟩)
  apply DD_read rfl rfl; next => (refine S_load1 H 3 T.ty69 rfl rfl (v := .map (some m.r)) rfl ⟨rfl, rfl⟩)
  apply DD_read rfl rfl; next => (refine S_load H 2 T.ty23 rfl rfl (l := a.enc) rfl (Nat.le_of_ble_eq_true rfl) ⟨rfl, rfl⟩)
  apply DD_read rfl rfl; next => (refine S_lookup (a := a) H 4 pl_law T.mp69 T.ze3 rfl rfl rfl ⟨rfl, rfl⟩)
  apply DD_pure rfl rfl; next => (intro _; refine X_assign rfl ⟨rfl, rfl⟩)
  refine hK4 _ _ (W_keep (Keep.cons 0 rfl (Keep.cons 5 rfl (Keep.cons 6 rfl (Keep.cons 7 rfl (Keep.cons 9 rfl Keep.nil))))) ?_)
  rw [hva]
  refine W_seq_k fun K5 hK5 => ?_
  refine W_seq_k fun K6 hK6 => ?_
  refine W_reg rfl ?_
  refine RL_some ?_; (refine X_move rfl ?_)
  refine RL_some ?_; (first | refine X_nil rfl ?_ | refine X_nil_func rfl ?_)
  refine RL_some ?_; (refine X_fieldAddr T.fd73_0 rfl ?_)
  refine RL_some ?_; (refine S_load H 3 T.ty71 rfl rfl (l := [slv (m.bo 0) (m.l 0).length, slv (m.bo 1) (m.l 1).length, slv (m.bo 2) (m.l 2).length, slv (m.bo 3) (m.l 3).length]) rfl (Nat.le_of_ble_eq_true rfl) ?_)
  refine RL_some ?_; (refine X_move rfl ?_)
  refine hK6 _ _ (W_keep (Keep.cons 0 rfl (Keep.cons 5 rfl (Keep.cons 6 rfl (Keep.cons 7 rfl (Keep.cons 9 rfl (Keep.cons 39 rfl (Keep.cons 40 rfl Keep.nil))))))) ?_)
  refine W_block ?_
  refine W_loop (fun left pf w => ∃ (k : Nat), k + left = 4 ∧ Keep pf [(0, pt m.p 0), (5, pt b5 0), (6, pt b6 0), (7, pt b7 0), (9, i64 (cnt m.l a)), (39, .agg #[slv (m.bo 0) (m.l 0).length, slv (m.bo 1) (m.l 1).length, slv (m.bo 2) (m.l 2).length, slv (m.bo 3) (m.l 3).length]), (40, i64 k)] ∧ St w0 w (Cs b7 o.enc.toArray 27 :: Cs b6 b.enc.toArray 23 :: Cs b5 a.enc.toArray 23 :: ((m.withF (mvL a b o m.l k 0)).at_ ++ L))) (4) ?_ ?_
  · skip
    exact ⟨0, by omega, (Keep.cons 0 rfl (Keep.cons 5 rfl (Keep.cons 6 rfl (Keep.cons 7 rfl (Keep.cons 9 rfl (Keep.cons 39 rfl (Keep.cons 40 rfl Keep.nil))))))), by rw [mvL_zero]; exact H⟩
  clear H
  rintro left pf w ⟨k, hk, hpf, H⟩
  refine W_keep hpf ?_
  clear hpf
  refine W_seq_k fun K7 hK7 => ?_
  refine W_reg rfl ?_
  refine RL_some ?_; (first | refine X_cmp_t rfl rfl rfl (by first | assumption | omega) ?_ | refine X_cmp_f rfl rfl rfl (by first | assumption | omega) ?_ | refine X_bin rfl rfl rfl ?_)
  refine hK7 _ _ (W_keep (Keep.cons 0 rfl (Keep.cons 5 rfl (Keep.cons 6 rfl (Keep.cons 7 rfl (Keep.cons 9 rfl (Keep.cons 39 rfl (Keep.cons 40 rfl (Keep.cons 41 rfl Keep.nil)))))))) ?_)
  refine W_seq_k fun K8 hK8 => ?_
  refine W_if rfl (fun c => ?_) (fun c => ?_)
  · skip
    refine W_skip ?_
    refine hK8 _ _ (W_keep (Keep.cons 0 rfl (Keep.cons 5 rfl (Keep.cons 6 rfl (Keep.cons 7 rfl (Keep.cons 9 rfl (Keep.cons 39 rfl (Keep.cons 40 rfl (Keep.cons 41 rfl Keep.nil)))))))) ?_)
    refine W_seq_k fun K9 hK9 => ?_
    refine W_block ?_
    refine W_seq_k fun K10 hK10 => ?_
    have c := of_decide_eq_true c
    have hk4 : k < 4 := by omega
    obtain ⟨ad, had⟩ := slv_len (m.bo k) (m.l k).length (fun h => by
      have := row_none H.drop.drop.drop k hk4 h
      have h2 := mvL_len a b o m.l k 0 k
      rw [show mvL a b o m.l k 0 k = [] from this] at h2
      simpa using h2.symm)
    refine W_reg rfl ?_
    refine RL_some ?_; (refine X_index (v := .slice ad (m.l k).length (m.l k).length) T.ar71 T.ty70 rfl rfl (by omega) (by omega) (by rw [← had]; show #[slv (m.bo 0) (m.l 0).length, slv (m.bo 1) (m.l 1).length, slv (m.bo 2) (m.l 2).length, slv (m.bo 3) (m.l 3).length][(k : Int).toNat * 1]? = _; rw [Nat.mul_one, Int.toNat_natCast]; rcases (by omega : k = 0 ∨ k = 1 ∨ k = 2 ∨ k = 3) with rfl | rfl | rfl | rfl <;> rfl) ?_)
    refine RL_some ?_; (refine X_assign rfl ?_)
    refine hK10 _ _ (W_keep (Keep.cons 0 rfl (Keep.cons 5 rfl (Keep.cons 6 rfl (Keep.cons 7 rfl (Keep.cons 9 rfl (Keep.cons 11 rfl (Keep.cons 39 rfl (Keep.cons 40 rfl Keep.nil)))))))) ?_)
    refine W_seq_k fun K11 hK11 => ?_
    refine W_reg rfl ?_
    refine RL_some ?_; (refine X_move rfl ?_)
    refine RL_some ?_; (refine X_len T.sl70 rfl ?_)
    refine RL_some ?_; (refine X_move rfl ?_)
    refine hK11 _ _ (W_keep (Keep.cons 0 rfl (Keep.cons 5 rfl (Keep.cons 6 rfl (Keep.cons 7 rfl (Keep.cons 9 rfl (Keep.cons 11 rfl (Keep.cons 39 rfl (Keep.cons 40 rfl (Keep.cons 43 rfl (Keep.cons 44 rfl (Keep.cons 45 rfl Keep.nil))))))))))) ?_)
    refine W_block ?_
    refine W_loop (fun left2 pf w => ∃ (i : Nat), i + left2 = (m.l k).length ∧ Keep pf [(0, pt m.p 0), (5, pt b5 0), (6, pt b6 0), (7, pt b7 0), (9, i64 (cnt m.l a)), (11, .slice ad (m.l k).length (m.l k).length), (39, .agg #[slv (m.bo 0) (m.l 0).length, slv (m.bo 1) (m.l 1).length, slv (m.bo 2) (m.l 2).length, slv (m.bo 3) (m.l 3).length]), (40, i64 k), (43, .slice ad (m.l k).length (m.l k).length), (44, i64 (m.l k).length), (45, i64 i)] ∧ St w0 w (Cs b7 o.enc.toArray 27 :: Cs b6 b.enc.toArray 23 :: Cs b5 a.enc.toArray 23 :: ((m.withF (mvL a b o m.l k i)).at_ ++ L))) ((m.l k).length) ?_ ?_
    · skip
      exact ⟨0, by omega, (Keep.cons 0 rfl (Keep.cons 5 rfl (Keep.cons 6 rfl (Keep.cons 7 rfl (Keep.cons 9 rfl (Keep.cons 11 rfl (Keep.cons 39 rfl (Keep.cons 40 rfl (Keep.cons 43 rfl (Keep.cons 44 rfl (Keep.cons 45 rfl Keep.nil))))))))))), H⟩
    clear H
    rintro left2 pf w ⟨i, hi, hpf, H⟩
    refine W_keep hpf ?_
    clear hpf
    have hlk := hlen k hk4
    refine W_seq_k fun K12 hK12 => ?_
    refine W_reg rfl ?_
    refine RL_some ?_; (first | refine X_cmp_t rfl rfl rfl (by first | assumption | omega) ?_ | refine X_cmp_f rfl rfl rfl (by first | assumption | omega) ?_ | refine X_bin rfl rfl rfl ?_)
    refine hK12 _ _ (W_keep (Keep.cons 0 rfl (Keep.cons 5 rfl (Keep.cons 6 rfl (Keep.cons 7 rfl (Keep.cons 9 rfl (Keep.cons 11 rfl (Keep.cons 39 rfl (Keep.cons 40 rfl (Keep.cons 43 rfl (Keep.cons 44 rfl (Keep.cons 45 rfl (Keep.cons 46 rfl Keep.nil)))))))))))) ?_)
    refine W_seq_k fun K13 hK13 => ?_
    refine W_if rfl (fun c2 => ?_) (fun c2 => ?_)
    · skip
      refine W_skip ?_
      refine hK13 _ _ (W_keep (Keep.cons 0 rfl (Keep.cons 5 rfl (Keep.cons 6 rfl (Keep.cons 7 rfl (Keep.cons 9 rfl (Keep.cons 11 rfl (Keep.cons 39 rfl (Keep.cons 40 rfl (Keep.cons 43 rfl (Keep.cons 44 rfl (Keep.cons 45 rfl (Keep.cons 46 rfl Keep.nil)))))))))))) ?_)
      refine W_seq_k fun K14 hK14 => ?_
      refine W_block ?_
      refine W_seq_k fun K15 hK15 => ?_
      have c2 := of_decide_eq_true c2
      obtain ⟨x, hx⟩ : ∃ x, (m.l k)[i]? = some x := ⟨_, List.getElem?_eq_getElem (by omega)⟩
      have hpos : 0 < ((m.withF (mvL a b o m.l k i)).l k).length := by show 0 < (mvL a b o m.l k i k).length; rw [mvL_len]; omega
      obtain ⟨b', hb', hrow⟩ := row_some H.drop.drop.drop hk4 hpos
      have hx2 : ((m.withF (mvL a b o m.l k i)).l k)[i]? = some x := by show (mvL a b o m.l k i k)[i]? = _; rw [mvL_at]; exact mvK_get a b o hx
      have hbo : m.bo k = some b' := hb'
      rw [hbo] at had
      simp only [slv, Value.slice.injEq] at had
      obtain ⟨rfl, _⟩ := had
      have hseg := row_seg hx2
      have hfl := flat_len encC encC_len ((m.withF (mvL a b o m.l k i)).l k)
      refine W_reg rfl ?_
      refine RL_some ?_; (refine X_move rfl ?_)
      refine RL_some ?_; (refine X_idx T.sl70 rfl rfl (by omega) (by omega) ?_)
      refine RL_some ?_; (refine S_load H (2 + k + 3) T.ty76 rfl hrow (l := encC x) hseg.1 hseg.2 ?_)
      refine RL_some ?_; (refine S_alloc H T.ze76 ?_; intro b13 w H)
      refine RL_some ?_; (refine X_assign rfl ?_)
      refine RL_none ?_; (refine S_store H 0 T.ty76 rfl rfl rfl (encC_len x) (Nat.le_of_ble_eq_true rfl) (encC_one x) (c' := (encC x).toArray) (by cases x <;> rfl) ?_; intro w H)
      refine hK15 _ _ (W_keep (Keep.cons 0 rfl (Keep.cons 5 rfl (Keep.cons 6 rfl (Keep.cons 7 rfl (Keep.cons 9 rfl (Keep.cons 11 rfl (Keep.cons 12 rfl (Keep.cons 13 rfl (Keep.cons 39 rfl (Keep.cons 40 rfl (Keep.cons 43 rfl (Keep.cons 44 rfl (Keep.cons 45 rfl Keep.nil))))))))))))) ?_)
      refine W_seq_k fun K16 hK16 => ?_
      refine W_boolR 58 (∃ s, x = some s ∧ s.place = a) [0, 5, 6, 7, 9, 11, 12, 39, 40, 43, 44, 45] H ?_ ?_
      · rcases x with _ | s
        all_goals
          refine W_reg rfl ?_
          refine RL_some ?_; (refine X_fieldAddr T.fd76_0 rfl ?_)
          refine RL_some ?_; ((first | refine S_load1 H 0 T.ty4 rfl rfl rfl ?_ | refine S_load1 H 1 T.ty4 rfl rfl rfl ?_ | refine S_load1 H 2 T.ty4 rfl rfl rfl ?_ | refine S_load1 H 3 T.ty4 rfl rfl rfl ?_ | refine S_load1 H 4 T.ty4 rfl rfl rfl ?_ | refine S_load1 H 5 T.ty4 rfl rfl rfl ?_ | refine S_load1 H 6 T.ty4 rfl rfl rfl ?_ | refine S_load1 H 7 T.ty4 rfl rfl rfl ?_ | refine S_load1 H 8 T.ty4 rfl rfl rfl ?_ | refine S_load1 H 9 T.ty4 rfl rfl rfl ?_))
          refine RL_some ?_; (refine X_move rfl ?_)
          (first | refine RL_off rfl rfl ?_ | refine RL_off' rfl rfl ?_ | (refine RL_on rfl rfl ?_; (refine X_fieldAddr T.fd76_1 rfl ?_)))
          (first | refine RL_off rfl rfl ?_ | refine RL_off' rfl rfl ?_ | (refine RL_on rfl rfl ?_; (refine X_fieldAddr T.fd29_0 rfl ?_)))
          (first | refine RL_off rfl rfl ?_ | refine RL_off' rfl rfl ?_ | (refine RL_on rfl rfl ?_; (refine S_load H 0 T.ty23 rfl rfl (l := s.place.enc) rfl (Nat.le_of_ble_eq_true rfl) ?_)))
          (first | refine RL_off rfl rfl ?_ | refine RL_off' rfl rfl ?_ | (refine RL_on rfl rfl ?_; (refine S_load H 3 T.ty23 rfl rfl (l := a.enc) rfl (Nat.le_of_ble_eq_true rfl) ?_)))
          (first | refine RL_off rfl rfl ?_ | refine RL_off' rfl rfl ?_ | (refine RL_on rfl rfl ?_; (refine X_eqS T.eg23 (pl_eq 9998 s.place a) rfl rfl ?_)))
          refine RL_some ?_; (refine X_pick rfl rfl ?_)
          exact ⟨_, by simp, rfl, ⟨rfl, rfl, rfl, rfl, rfl, rfl, rfl, rfl, rfl, rfl, rfl, rfl, trivial⟩, H⟩
      intro r w hr H
      skip
      refine hK16 _ _ (W_keep (Keep.cons 0 rfl (Keep.cons 5 rfl (Keep.cons 6 rfl (Keep.cons 7 rfl (Keep.cons 9 rfl (Keep.cons 11 rfl (Keep.cons 12 rfl (Keep.cons 39 rfl (Keep.cons 40 rfl (Keep.cons 43 rfl (Keep.cons 44 rfl (Keep.cons 45 rfl (Keep.cons 58 rfl Keep.nil))))))))))))) ?_)
      refine W_if rfl (fun d => ?_) (fun d => ?_)
      · skip
        obtain ⟨s, rfl, hs⟩ := hr.1 d
        replace H := H.drop
        have hset := mvL_step a b o m.l k i hx
        have hsz := hseg.2
        have hrk : (mvL a b o m.l k i k)[i]? = some (some s) := hx2
        refine W_draw (.p 0 (.p 1 (.p 2 (.p 3 (.p 4 (.p 5 (.p 6 (.p 7 (.p 8 (.e 9 [2, 3, 5] (.p 10 (.p 11 (.p 12 (.e 13 [] .nil .none)))) .none)))))))))) T.mixed rfl ?_
        replace H := H.drew
        apply DD_pure rfl rfl; next => (intro _; refine X_move rfl ⟨rfl, rfl⟩)
        apply DD_pure rfl rfl; next => (intro _; refine X_move rfl ⟨rfl, rfl⟩)
        apply DD_pure rfl rfl; next => (intro _; refine X_move rfl ⟨rfl, rfl⟩)
        apply DD_pure rfl rfl; next => (intro _; refine X_move rfl ⟨rfl, rfl⟩)
        apply DD_read rfl rfl; next => (refine S_load H 1 T.ty23 rfl rfl (l := b.enc) rfl (Nat.le_of_ble_eq_true rfl) ⟨rfl, rfl⟩)
        apply DD_read rfl rfl; next => (refine S_load H 0 T.ty27 rfl rfl (l := o.enc) rfl (Nat.le_of_ble_eq_true rfl) ⟨rfl, rfl⟩)
        apply DD_pure rfl rfl; next => (intro _; refine X_idx T.sl70 rfl rfl (by omega) (by omega) ⟨rfl, rfl⟩)
        apply DD_pure rfl rfl; next => (intro _; refine X_fieldAddr T.fd76_1 rfl ⟨rfl, rfl⟩)
        apply DD_pure rfl rfl; next => (intro _; refine X_fieldAddr T.fd29_0 rfl ⟨rfl, rfl⟩)
        refine DD_eff rfl rfl ?_; (refine S_store (c' := (((mvL a b o m.l k i k).set i (some { s with place := b })).flatMap encC).toArray) H (2 + k + 3) T.ty23 rfl rfl hrow rfl (by omega) rfl (by rw [← flat_part encC encC_len _ i 1 b.enc hrk (Nat.le_of_ble_eq_true rfl) (a' := some { s with place := b }) rfl]; exact congrArg (fun n => splice _ n _) (by omega)) ?_; intro w H)
        refine ⟨?_, ?_⟩; next => (repeat (first | exact rc_nil | refine rc_skip rfl ?_ | refine rc_true ?_ | (refine rc_read ?_ ?_; next => (first | (refine S_load H 0 T.ty27 rfl rfl (l := o.enc) rfl (Nat.le_of_ble_eq_true rfl) ⟨rfl, rfl⟩)))))
        apply DD_pure rfl rfl; next => (intro _; refine X_idx T.sl70 rfl rfl (by omega) (by omega) ⟨rfl, rfl⟩)
        apply DD_pure rfl rfl; next => (intro _; refine X_fieldAddr T.fd76_1 rfl ⟨rfl, rfl⟩)
        apply DD_pure rfl rfl; next => (intro _; refine X_fieldAddr T.fd29_2 rfl ⟨rfl, rfl⟩)
        refine DD_eff rfl rfl ?_; (refine S_store (c' := ((((mvL a b o m.l k i k).set i (some { s with place := b })).set i (some { s with place := b, order := o })).flatMap encC).toArray) H (2 + k + 3) T.ty27 rfl rfl (List.getElem?_set_self (Nat.add_lt_add_right (List.getElem?_eq_some_iff.1 hrow).1 3)) rfl (by rw [List.size_toArray, flat_len encC encC_len, List.length_set, ← flat_len encC encC_len]; rw [List.size_toArray] at hsz; have hsz' : 0 + (i : Int).toNat * 15 + 15 ≤ ((mvL a b o m.l k i k).flatMap encC).length := hsz; omega) rfl (by rw [← flat_part encC encC_len _ i 9 o.enc (a := some { s with place := b }) (by rw [List.getElem?_set_self (List.getElem?_eq_some_iff.1 hrk).1]) (Nat.le_of_ble_eq_true rfl) (a' := some { s with place := b, order := o }) rfl]; exact congrArg (fun n => splice _ n _) (by omega)) ?_; intro w H)
        refine ⟨by repeat (first | exact rc_nil | refine rc_skip rfl ?_ | refine rc_true ?_), ?_⟩
        refine hK14 _ _ (W_keep (Keep.cons 0 rfl (Keep.cons 5 rfl (Keep.cons 6 rfl (Keep.cons 7 rfl (Keep.cons 9 rfl (Keep.cons 11 rfl (Keep.cons 39 rfl (Keep.cons 40 rfl (Keep.cons 43 rfl (Keep.cons 44 rfl (Keep.cons 45 rfl Keep.nil))))))))))) ?_)
        rw [List.set_set] at H
        have he : (m.withF (mvL a b o m.l k i)).withL k (((mvL a b o m.l k i k).set i (some { s with place := b })).set i (some { s with place := b, order := o })) = m.withF (mvL a b o m.l k (i + 1)) := by
          rw [hset]
          simp only [PMx.withL, PMx.withF, List.set_set, mvL_at]
          congr 2
          simp [mvC, mvS, hs]
        have hw := withL_at (m.withF (mvL a b o m.l k i)) k hk4 hbo (((mvL a b o m.l k i k).set i (some { s with place := b })).set i (some { s with place := b, order := o })) (by rw [List.length_set, List.length_set]; rfl) L
        rw [he] at hw
        replace H : St w0 w (Cs b7 o.enc.toArray 27 :: Cs b6 b.enc.toArray 23 :: Cs b5 a.enc.toArray 23 :: ((m.withF (mvL a b o m.l k (i + 1))).at_ ++ L)) := by
          rw [← hw]; exact H
        refine W_reg rfl ?_
        refine RL_some ?_; (first | refine X_int rfl rfl rfl (by omega) ?_ | refine X_bin rfl rfl rfl ?_)
        refine RL_some ?_; (refine X_move rfl ?_)
        exact ⟨left2 - 1, by omega, i + 1, by omega, (Keep.cons 0 rfl (Keep.cons 5 rfl (Keep.cons 6 rfl (Keep.cons 7 rfl (Keep.cons 9 rfl (Keep.cons 11 rfl (Keep.cons 39 rfl (Keep.cons 40 rfl (Keep.cons 43 rfl (Keep.cons 44 rfl (Keep.cons 45 rfl Keep.nil))))))))))), H⟩
      refine W_skip ?_
      refine hK14 _ _ (W_keep (Keep.cons 0 rfl (Keep.cons 5 rfl (Keep.cons 6 rfl (Keep.cons 7 rfl (Keep.cons 9 rfl (Keep.cons 11 rfl (Keep.cons 12 rfl (Keep.cons 39 rfl (Keep.cons 40 rfl (Keep.cons 43 rfl (Keep.cons 44 rfl (Keep.cons 45 rfl (Keep.cons 58 rfl Keep.nil))))))))))))) ?_)
      have he : mvL a b o m.l k (i + 1) = mvL a b o m.l k i := by
        rw [mvL_step a b o m.l k i hx]
        have hmx : mvC a b o x = x := by
          rcases x with _ | s
          · rfl
          · simp only [mvC, Option.map_some, mvS]
            rw [if_neg fun h => by rw [hr.2 ⟨s, rfl, h⟩] at d; cases d]
        rw [hmx, set_same _ _ (mvK_get a b o hx), ← mvL_at]
        funext j
        unfold atK
        by_cases h : j = k <;> simp [h]
      refine W_reg rfl ?_
      refine RL_some ?_; (first | refine X_int rfl rfl rfl (by omega) ?_ | refine X_bin rfl rfl rfl ?_)
      refine RL_some ?_; (refine X_move rfl ?_)
      exact ⟨left2 - 1, by omega, i + 1, by omega, (Keep.cons 0 rfl (Keep.cons 5 rfl (Keep.cons 6 rfl (Keep.cons 7 rfl (Keep.cons 9 rfl (Keep.cons 11 rfl (Keep.cons 39 rfl (Keep.cons 40 rfl (Keep.cons 43 rfl (Keep.cons 44 rfl (Keep.cons 45 rfl Keep.nil))))))))))), by rw [he]; exact H.drop⟩
    refine W_exit ?_
    refine hK9 _ _ (W_keep (Keep.cons 0 rfl (Keep.cons 5 rfl (Keep.cons 6 rfl (Keep.cons 7 rfl (Keep.cons 9 rfl (Keep.cons 11 rfl (Keep.cons 39 rfl (Keep.cons 40 rfl (Keep.cons 43 rfl (Keep.cons 44 rfl (Keep.cons 45 rfl (Keep.cons 46 rfl Keep.nil)))))))))))) ?_)
    have c2 := of_decide_eq_false c2
    obtain rfl : i = (m.l k).length := by omega
    rw [mvL_next] at H
    refine W_reg rfl ?_
    refine RL_some ?_; (first | refine X_int rfl rfl rfl (by omega) ?_ | refine X_bin rfl rfl rfl ?_)
    refine RL_some ?_; (refine X_move rfl ?_)
    exact ⟨left - 1, by omega, k + 1, by omega, (Keep.cons 0 rfl (Keep.cons 5 rfl (Keep.cons 6 rfl (Keep.cons 7 rfl (Keep.cons 9 rfl (Keep.cons 39 rfl (Keep.cons 40 rfl Keep.nil))))))), H⟩
  refine W_exit ?_
  refine hK5 _ _ (W_keep (Keep.cons 0 rfl (Keep.cons 5 rfl (Keep.cons 6 rfl (Keep.cons 7 rfl (Keep.cons 9 rfl (Keep.cons 39 rfl (Keep.cons 40 rfl (Keep.cons 41 rfl Keep.nil)))))))) ?_)
  refine W_seq_k fun K17 hK17 => ?_
  refine W_seq_k fun K18 hK18 => ?_
  have c := of_decide_eq_false c
  obtain rfl : k = 4 := by omega
  rw [mvL_four] at H
  have hcs : (¬ 0 < cnt m.l a) ∨ (0 < cnt m.l a ∧ a = b) ∨ (0 < cnt m.l a ∧ ¬ a = b) := by by_cases e : a = b <;> simp [e] <;> omega
  refine W_boolR 79 (0 < cnt m.l a ∧ ¬ a = b) [0, 5, 6, 9] H ?_ ?_
  · rcases hcs with e0 | ⟨e0, e⟩ | ⟨e0, e⟩
    all_goals
      refine W_reg rfl ?_
      refine RL_some ?_; (refine X_move rfl ?_)
      refine RL_some ?_; (first | refine X_cmp_t rfl rfl rfl (by first | assumption | omega) ?_ | refine X_cmp_f rfl rfl rfl (by first | assumption | omega) ?_ | refine X_bin rfl rfl rfl ?_)
      refine RL_some ?_; (refine X_move rfl ?_)
      (first | refine RL_off rfl rfl ?_ | refine RL_off' rfl rfl ?_ | (refine RL_on rfl rfl ?_; (refine S_load H 2 T.ty23 rfl rfl (l := a.enc) rfl (Nat.le_of_ble_eq_true rfl) ?_)))
      (first | refine RL_off rfl rfl ?_ | refine RL_off' rfl rfl ?_ | (refine RL_on rfl rfl ?_; (refine S_load H 1 T.ty23 rfl rfl (l := b.enc) rfl (Nat.le_of_ble_eq_true rfl) ?_)))
      (first | refine RL_off rfl rfl ?_ | refine RL_off' rfl rfl ?_ | (refine RL_on rfl rfl ?_; (first | refine X_neS (r := true) T.eg23 ((pl_eq 9998 a b).of (decide_eq_true e)) rfl rfl ?_ | refine X_neS (r := false) T.eg23 ((pl_eq 9998 a b).of (decide_eq_false e)) rfl rfl ?_)))
      refine RL_some ?_; (refine X_pick rfl rfl ?_)
      exact ⟨_, by first | (simp [e0]; done) | (simp [e0, e]; done) | (simp; omega), rfl, ⟨rfl, rfl, rfl, rfl, trivial⟩, H⟩
  intro r w hr H
  skip
  refine hK18 _ _ (W_keep (Keep.cons 0 rfl (Keep.cons 5 rfl (Keep.cons 6 rfl (Keep.cons 9 rfl (Keep.cons 79 rfl Keep.nil))))) ?_)
  refine W_if rfl (fun d => ?_) (fun d => ?_)
  · skip
    refine W_seq_k fun K19 hK19 => ?_
    obtain ⟨e0, e⟩ := hr.1 d
    have hb0 : cnt m.l b = 0 := hok.resolve_left e
    have hna : cnt m.l a ≠ 0 := by omega
    have hp := hR.push hb0 (v := cnt m.l a) hna
    have hpa : (if a = b then cnt m.l a else cnt m.l a) ≠ 0 := by split <;> exact hna
    refine W_draw (.p 0 (.p 1 (.p 2 (.p 3 (.p 4 (.p 5 (.e 6 [] .nil .none))))))) T.mixed rfl ?_
    replace H := H.drew
    apply DD_pure rfl rfl; next => (intro _; refine X_move rfl ⟨rfl, rfl⟩)
    apply DD_pure rfl rfl; next => (intro _; first | refine X_nil rfl ⟨rfl, rfl⟩ | refine X_nil_func rfl ⟨rfl, rfl⟩)
    apply DD_pure rfl rfl; next => (intro _; refine X_fieldAddr T.fd73_1 rfl ⟨rfl, rfl⟩)
    apply DD_read rfl rfl; next => (refine S_load1 H 3 T.ty69 rfl rfl (v := .map (some m.r)) rfl ⟨rfl, rfl⟩)
    apply DD_read rfl rfl; next => (refine S_load H 1 T.ty23 rfl rfl (l := b.enc) rfl (Nat.le_of_ble_eq_true rfl) ⟨rfl, rfl⟩)
    apply DD_pure rfl rfl; next => (intro _; refine X_move rfl ⟨rfl, rfl⟩)
    refine DD_eff rfl rfl ?_; (refine S_update (a := b) H 4 pl_law T.mp69 rfl rfl rfl rfl (fun j hj => absurd (hR.idx_none.2 hb0) (by rw [show idxE m.E b = some j from hj]; simp)) ?_; intro _ w H)
    refine ⟨by repeat (first | exact rc_nil | refine rc_skip rfl ?_ | refine rc_true ?_), ?_⟩
    refine hK19 _ _ (W_keep (Keep.cons 0 rfl (Keep.cons 5 rfl Keep.nil)) ?_)
    refine W_draw (.p 0 (.p 1 (.p 2 (.p 3 (.p 4 (.e 5 [] .nil .none)))))) T.mixed rfl ?_
    replace H := H.drew
    apply DD_pure rfl rfl; next => (intro _; refine X_move rfl ⟨rfl, rfl⟩)
    apply DD_pure rfl rfl; next => (intro _; first | refine X_nil rfl ⟨rfl, rfl⟩ | refine X_nil_func rfl ⟨rfl, rfl⟩)
    apply DD_pure rfl rfl; next => (intro _; refine X_fieldAddr T.fd73_1 rfl ⟨rfl, rfl⟩)
    apply DD_read rfl rfl; next => (refine S_load1 H 3 T.ty69 rfl rfl (v := .map (some m.r)) rfl ⟨rfl, rfl⟩)
    apply DD_read rfl rfl; next => (refine S_load H 2 T.ty23 rfl rfl (l := a.enc) rfl (Nat.le_of_ble_eq_true rfl) ⟨rfl, rfl⟩)
    refine DD_eff rfl rfl ?_; (refine S_delete (a := a) H 4 pl_law T.mp69 rfl rfl rfl ?_; intro w H)
    refine ⟨by repeat (first | exact rc_nil | refine rc_skip rfl ?_ | refine rc_true ?_), ?_⟩
    refine hK17 _ _ (W_keep Keep.nil ?_)
    obtain ⟨j, hj⟩ := hp.idx_some hpa
    have hj' : idxE ((m.withF (mvF a b o m.l)).E ++ [(b, cnt m.l a, (m.withF (mvF a b o m.l)).clock)]) a = some j := hj
    rw [hj'] at H
    have he2 := hp.erase hj
    refine W_seq_k fun K20 hK20 => ?_
    refine W_reg rfl ?_
    refine RL_some ?_; (refine X_assign rfl ?_)
    refine hK20 _ _ (W_keep (Keep.cons 8 rfl Keep.nil) ?_)
    refine W_ret ?_
    (try simp only [thenQ, blockQ, noGotoQ])
    refine body_tmp (.inr rfl) rfl rfl ?_
    refine ⟨rfl, _, _, cast (congrArg (REF _ _) ?_) he2, H.drop.drop.drop⟩
    funext q
    rw [cnt_mv, if_neg e, hb0]
    by_cases e3 : q = b
    · subst e3; simp [Ne.symm e]
    · by_cases e4 : q = a
      · subst e4; simp [e]
      · simp [e3, e4]
  refine W_skip ?_
  refine hK17 _ _ (W_keep (Keep.cons 0 rfl (Keep.cons 5 rfl (Keep.cons 6 rfl (Keep.cons 9 rfl (Keep.cons 79 rfl Keep.nil))))) ?_)
  refine W_seq_k fun K21 hK21 => ?_
  refine W_reg rfl ?_
  refine RL_some ?_; (refine X_assign rfl ?_)
  refine hK21 _ _ (W_keep (Keep.cons 8 rfl Keep.nil) ?_)
  refine W_ret ?_
  (try simp only [thenQ, blockQ, noGotoQ])
  refine body_tmp (.inr rfl) rfl rfl ?_
  refine ⟨rfl, m.E, m.clock, ?_, H.drop.drop.drop⟩
  have : cnt (mvF a b o m.l) = cnt m.l := by
    funext q
    rw [cnt_mv]
    by_cases e : a = b
    · rw [if_pos e]
    · rw [if_neg e]
      have h0 : cnt m.l a = 0 := by
        have : ¬ 0 < cnt m.l a := fun h => by rw [hr.2 ⟨h, e⟩] at d; cases d
        omega
      by_cases e3 : q = b
      · subst e3; simp [h0]
      · by_cases e4 : q = a
        · subst e4; simp [e, h0]
        · simp [e3, e4]
  rw [this]
  exact hR
end Go.Proofs.Ytinngnckojbpnaa
