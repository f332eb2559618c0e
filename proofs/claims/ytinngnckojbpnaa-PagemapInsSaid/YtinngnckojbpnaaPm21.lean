import Derived.Test.YtinngnckojbpnaaPm20
/-! pagemap: Put with places in order; Drop, Data. -/
namespace Go.Proofs.Ytinngnckojbpnaa
open Go.Nep Go.Sort Go.Shelf Go.Proofs
set_option maxRecDepth 100000
set_option linter.unusedVariables false
set_option linter.unusedSimpArgs false
set_option maxHeartbeats 1600000

theorem asc_unique {a b : List Pl} (ha : Asc a) (hb : Asc b) (hp : a.Perm b) : a = b := by
  refine List.Perm.eq_of_pairwise (le := fun x y => aheadP x y = true) ?_ ha hb hp
  intro x y _ _ h1 h2
  have := ahead_tr h1 h2
  rw [ahead_irr] at this
  cases this
theorem asc_mem {a b : List Pl} (ha : Asc a) (hb : Asc b) (hm : ∀ q, q ∈ a ↔ q ∈ b) : a = b := by
  have hn : ∀ {l : List Pl}, Asc l → l.Nodup := fun h => h.imp fun h1 e => by subst e; rw [ahead_irr] at h1; cases h1
  exact asc_unique ha hb ((List.perm_ext_iff_of_nodup (hn ha) (hn hb)).2 hm)
noncomputable def sortA (l : List Pl) : List Pl := Classical.epsilon fun ys => ys.Perm l ∧ Asc ys
theorem sortA_eq {l ys : List Pl} (h1 : ys.Perm l) (h2 : Asc ys) : sortA l = ys := by
  have : (sortA l).Perm l ∧ Asc (sortA l) := Classical.epsilon_spec (p := fun ys => ys.Perm l ∧ Asc ys) ⟨ys, h1, h2⟩
  exact asc_unique this.2 h2 (this.1.trans h1.symm)

/-- what is told to be gone: in order, of what was live and is not any more -/
structure Gone (C0 C : Pl → Int) (l : List Pl) : Prop where
  asc : Asc l
  mem : ∀ q, q ∈ l ↔ C0 q ≠ 0 ∧ C q = 0

theorem Put_any (m : PMx) (s : Spot) (hok : s.head.ok) (hr : rightS m s) (hlen : ∀ k, k < 4 → (m.l k).length ≤ 65535) (hR : REF m.E m.clock (cnt m.l)) (hrng : ∀ q, cnt m.l q ≠ 0 → Rng q) {w0 w : World} {L : List Asn} (H : St w0 w (m.at_ ++ L)) :
    Calls Try.prog 14 #[pt m.p 0, .agg s.enc.toArray] w (After fun v w' => ∃ u E' clock' outs, v = .tuple #[u, i64 0] ∧ REF E' clock' (cnt (m.mid s s.head.count.toNat).l) ∧
      Gone (cnt m.l) (cnt (m.mid s s.head.count.toNat).l) outs ∧ St w0 w' (((m.mid s s.head.count.toNat).withE E' clock').at_ ++ PT u outs :: L)) := by
  refine calls_to (Put_spec m s hok hr hlen hR sortA (fun outs hO hl v w0 w L H => ?_) H) ?_
  · refine calls_to (told_any outs (fun x hx => hrng x ((hO.mem x).1 hx).1) hO.nodup (by omega) H) ?_
    rintro u w' ⟨ys, h1, h2, H⟩
    rw [sortA_eq h1 h2]
    have hl2 := h1.length_eq
    unfold PT Tab at H
    rw [hl2] at H
    exact H
  · rintro v w' ⟨u, E, clock, outs, rfl, hR', hO, hl, H⟩
    have hrg : ∀ x ∈ outs, Rng x := fun x hx => hrng x ((hO.mem x).1 hx).1
    obtain ⟨ys, h1, h2⟩ : ∃ ys, ys.Perm outs ∧ Asc ys := by
      refine ⟨outs.mergeSort (fun a b => !aheadP b a), List.mergeSort_perm _ _, ?_⟩
      have h3 : (outs.mergeSort (fun a b => !aheadP b a)).Pairwise (fun a b => (!aheadP b a) = true) := List.pairwise_mergeSort
        (fun a b c h4 h5 => by simp only [Bool.not_eq_true'] at *; cases h6 : aheadP c a with | false => rfl | true => exact absurd h6 (ahead_nt (by rw [h5]; simp) (by rw [h4]; simp)))
        (fun a b => by cases h4 : aheadP b a with | false => simp | true => cases h5 : aheadP a b with | false => simp | true => have := ahead_tr h4 h5; rw [ahead_irr] at this; cases this) _
      have hn2 : (outs.mergeSort (fun a b => !aheadP b a)).Nodup := (List.mergeSort_perm _ _).nodup_iff.2 hO.nodup
      refine (h3.and hn2).imp ?_
      intro a b ⟨h4, h5⟩
      rcases ahead_or (x := b) (y := a) (by simpa using h4) with h6 | h6
      · exact absurd h6.symm h5
      · exact h6
    rw [sortA_eq h1 h2] at H
    refine ⟨u, E, clock, ys, rfl, hR', ⟨h2, fun q => by rw [h1.mem_iff, hO.mem]⟩, ?_⟩
    unfold PT Tab
    rw [h1.length_eq]
    exact H

/-! ### a namespace's cells -/
def cellsOf (m : PMx) (ns : Int) : List (Option Spot) := if 0 ≤ ns ∧ ns < 4 then m.l ns.toNat else []
theorem own_val {m : PMx} {w0 w : World} {L : List Asn} (H : St w0 w (m.at_ ++ L)) (ns : Int) : ∃ ad, ownV m ns = .slice ad (cellsOf m ns).length (cellsOf m ns).length := by
  obtain ⟨ad, h⟩ := own_len H ns
  refine ⟨ad, ?_⟩
  rw [h]
  unfold cellsOf
  split <;> rfl
theorem own_row {m : PMx} {w0 w : World} {L : List Asn} (H : St w0 w (m.at_ ++ L)) {ns : Int} {i : Nat} {c : Option Spot} (h : (cellsOf m ns)[i]? = some c) :
    0 ≤ ns ∧ ns < 4 ∧ (m.l ns.toNat)[i]? = some c ∧ cellsOf m ns = m.l ns.toNat ∧ ∃ b, ownV m ns = sl b 0 (cellsOf m ns).length (cellsOf m ns).length ∧ m.bo ns.toNat = some b ∧ (m.at_ ++ L)[2 + ns.toNat]? = some (Cs b ((m.l ns.toNat).flatMap encC).toArray 76) := by
  by_cases hn : 0 ≤ ns ∧ ns < 4
  · have he : cellsOf m ns = m.l ns.toNat := by unfold cellsOf; rw [if_pos hn]
    rw [he] at h
    have hlt := (List.getElem?_eq_some_iff.1 h).1
    obtain ⟨b, hb, hrow⟩ := row_some H (k := ns.toNat) (by omega) (by omega)
    exact ⟨hn.1, hn.2, h, he, b, by unfold ownV; rw [if_pos hn, hb, he]; rfl, hb, hrow⟩
  · unfold cellsOf at h; rw [if_neg hn] at h; simp at h
/-- a cell's part, read -/
theorem row_seg {l : List (Option Spot)} {i : Nat} {c : Option Spot} (h : l[i]? = some c) : (((l.flatMap encC).toArray.toList.drop (0 + (i : Int).toNat * 15)).take 15) = encC c ∧ 0 + (i : Int).toNat * 15 + 15 ≤ (l.flatMap encC).toArray.size := by
  have h1 := flat_seg encC encC_len l i h
  have h2 := flat_len encC encC_len l
  have h3 := (List.getElem?_eq_some_iff.1 h).1
  have h4 : (i + 1) * 15 ≤ l.length * 15 := Nat.mul_le_mul_right 15 h3
  refine ⟨by simpa using h1, ?_⟩
  rw [List.size_toArray, h2]
  simp
  omega
theorem encC_one (c : Option Spot) : (encC c).all Nep.one = true := by cases c <;> rfl

def isData (c : Option Spot) : Bool := match c with
  | some s => decide (s.head.kind = 1)
  | none => false
def dataM (m : PMx) (ns : Int) : Nat := (cellsOf m ns).countP isData

theorem Data_spec (m : PMx) (ns : Int) (hlen : (cellsOf m ns).length ≤ 65535) {w0 w : World} {L : List Asn} (H : St w0 w (m.at_ ++ L)) :
    Calls Try.prog 25 #[pt m.p 0, i64 ns] w (After fun v w' => v = i64 (dataM m ns) ∧ St w0 w' (m.at_ ++ L)) := by
  obtain ⟨ad, had⟩ := own_val H ns
  refine calls_of_W (N := 29) (args := [pt m.p 0, i64 ns]) Try.func25 rfl Try.ntmps25 (by simp) ?_
  refine W_seq_k fun K1 hK1 => ?_
  refine W_reg rfl ?_
  refine RL_some ?_; (refine X_assign rfl ?_)
  refine hK1 _ _ (W_keep (Keep.cons 0 rfl (Keep.cons 1 rfl Keep.nil)) ?_)
  refine W_seq_k fun K2 hK2 => ?_
  refine W_reg rfl ?_
  refine RL_some ?_; (refine X_assign rfl ?_)
  refine hK2 _ _ (W_keep (Keep.cons 0 rfl (Keep.cons 1 rfl (Keep.cons 5 rfl Keep.nil))) ?_)
  refine W_seq_k fun K3 hK3 => ?_
  refine W_seq_k fun K4 hK4 => ?_
  refine W_reg rfl ?_
  refine RL_some ?_; (refine X_move rfl ?_)
  refine RL_some ?_; (refine X_move rfl ?_)
  refine RL_some ?_; (refine X_call T.ent31 rfl (calls_to (own_spec m ns H) ?_); rintro v w ⟨rfl, rfl⟩; rw [had])
  refine RL_some ?_; (refine X_len T.sl70 rfl ?_)
  refine RL_some ?_; (refine X_move rfl ?_)
  refine hK4 _ _ (W_keep (Keep.cons 5 rfl (Keep.cons 10 rfl (Keep.cons 11 rfl (Keep.cons 12 rfl Keep.nil)))) ?_)
  refine W_block ?_
  refine W_loop (fun left pf w => ∃ i : Nat, i + left = (cellsOf m ns).length ∧ Keep pf [(5, i64 (((cellsOf m ns).take i).countP isData)), (10, .slice ad (cellsOf m ns).length (cellsOf m ns).length), (11, i64 (cellsOf m ns).length), (12, i64 i)] ∧ St w0 w (m.at_ ++ L)) ((cellsOf m ns).length) ?_ ?_
  · skip
    exact ⟨0, by omega, (Keep.cons 5 rfl (Keep.cons 10 rfl (Keep.cons 11 rfl (Keep.cons 12 rfl Keep.nil)))), H⟩
  clear H
  rintro left pf w ⟨i, hi, hpf, H⟩
  refine W_keep hpf ?_
  clear hpf
  have hcnt : ((cellsOf m ns).take i).countP isData ≤ i := by have := List.countP_le_length (p := isData) (l := (cellsOf m ns).take i); simp at this; omega
  refine W_seq_k fun K5 hK5 => ?_
  refine W_reg rfl ?_
  refine RL_some ?_; (first | refine X_cmp_t rfl rfl rfl (by first | assumption | omega) ?_ | refine X_cmp_f rfl rfl rfl (by first | assumption | omega) ?_ | refine X_bin rfl rfl rfl ?_)
  refine hK5 _ _ (W_keep (Keep.cons 5 rfl (Keep.cons 10 rfl (Keep.cons 11 rfl (Keep.cons 12 rfl (Keep.cons 13 rfl Keep.nil))))) ?_)
  refine W_seq_k fun K6 hK6 => ?_
  refine W_if rfl (fun c => ?_) (fun c => ?_)
  · skip
    refine W_skip ?_
    refine hK6 _ _ (W_keep (Keep.cons 5 rfl (Keep.cons 10 rfl (Keep.cons 11 rfl (Keep.cons 12 rfl (Keep.cons 13 rfl Keep.nil))))) ?_)
    refine W_seq_k fun K7 hK7 => ?_
    refine W_block ?_
    refine W_seq_k fun K8 hK8 => ?_
    have c := of_decide_eq_true c
    obtain ⟨x, hx⟩ : ∃ x, (cellsOf m ns)[i]? = some x := ⟨_, List.getElem?_eq_getElem (by omega)⟩
    obtain ⟨h0, h4, hx2, hco, b, hov, hb, hrow⟩ := own_row H hx
    rw [had] at hov
    simp only [Value.slice.injEq] at hov
    obtain ⟨rfl, _⟩ := hov
    have htk : ((cellsOf m ns).take (i + 1)).countP isData = ((cellsOf m ns).take i).countP isData + if isData x then 1 else 0 := by
      rw [List.take_add_one, hx, List.countP_append]
      simp only [Option.toList_some, List.countP_singleton]
    refine W_reg rfl ?_
    refine RL_some ?_; (refine X_idx T.sl70 rfl rfl (by omega) (by omega) ?_)
    refine RL_some ?_; (refine S_load H (2 + ns.toNat) T.ty76 rfl hrow (l := encC x) (row_seg hx2).1 (row_seg hx2).2 ?_)
    refine RL_some ?_; (refine S_alloc H T.ze76 ?_; intro b7 w H)
    refine RL_none ?_; (refine S_store H 0 T.ty76 rfl rfl rfl (encC_len x) (Nat.le_of_ble_eq_true rfl) (encC_one x) (c' := (encC x).toArray) (by cases x <;> rfl) ?_; intro w H)
    refine hK8 _ _ (W_keep (Keep.cons 5 rfl (Keep.cons 7 rfl (Keep.cons 10 rfl (Keep.cons 11 rfl (Keep.cons 12 rfl Keep.nil))))) ?_)
    refine W_seq_k fun K9 hK9 => ?_
    refine W_boolR 24 (isData x = true) [5, 10, 11, 12] H ?_ ?_
    · rcases x with _ | s
      all_goals
        refine W_reg rfl ?_
        refine RL_some ?_; (refine X_fieldAddr T.fd76_0 rfl ?_)
        refine RL_some ?_; ((first | refine S_load1 H 0 T.ty4 rfl rfl rfl ?_ | refine S_load1 H 1 T.ty4 rfl rfl rfl ?_ | refine S_load1 H 2 T.ty4 rfl rfl rfl ?_ | refine S_load1 H 3 T.ty4 rfl rfl rfl ?_ | refine S_load1 H 4 T.ty4 rfl rfl rfl ?_ | refine S_load1 H 5 T.ty4 rfl rfl rfl ?_ | refine S_load1 H 6 T.ty4 rfl rfl rfl ?_ | refine S_load1 H 7 T.ty4 rfl rfl rfl ?_ | refine S_load1 H 8 T.ty4 rfl rfl rfl ?_ | refine S_load1 H 9 T.ty4 rfl rfl rfl ?_))
        refine RL_some ?_; (refine X_move rfl ?_)
        (first | refine RL_off rfl rfl ?_ | refine RL_off' rfl rfl ?_ | (refine RL_on rfl rfl ?_; (refine X_fieldAddr T.fd76_1 rfl ?_)))
        (first | refine RL_off rfl rfl ?_ | refine RL_off' rfl rfl ?_ | (refine RL_on rfl rfl ?_; (refine X_fieldAddr T.fd29_1 rfl ?_)))
        (first | refine RL_off rfl rfl ?_ | refine RL_off' rfl rfl ?_ | (refine RL_on rfl rfl ?_; (refine X_fieldAddr T.fd27_0 rfl ?_)))
        (first | refine RL_off rfl rfl ?_ | refine RL_off' rfl rfl ?_ | (refine RL_on rfl rfl ?_; ((first | refine S_load1 H 0 T.ty3 rfl rfl rfl ?_ | refine S_load1 H 1 T.ty3 rfl rfl rfl ?_ | refine S_load1 H 2 T.ty3 rfl rfl rfl ?_ | refine S_load1 H 3 T.ty3 rfl rfl rfl ?_ | refine S_load1 H 4 T.ty3 rfl rfl rfl ?_ | refine S_load1 H 5 T.ty3 rfl rfl rfl ?_ | refine S_load1 H 6 T.ty3 rfl rfl rfl ?_ | refine S_load1 H 7 T.ty3 rfl rfl rfl ?_ | refine S_load1 H 8 T.ty3 rfl rfl rfl ?_ | refine S_load1 H 9 T.ty3 rfl rfl rfl ?_))))
        (first | refine RL_off rfl rfl ?_ | refine RL_off' rfl rfl ?_ | (refine RL_on rfl rfl ?_; (first | refine X_cmp_t rfl rfl rfl (by first | assumption | omega) ?_ | refine X_cmp_f rfl rfl rfl (by first | assumption | omega) ?_ | refine X_bin rfl rfl rfl ?_)))
        refine RL_some ?_; (refine X_pick rfl rfl ?_)
        exact ⟨_, by simp [isData], rfl, ⟨rfl, rfl, rfl, rfl, trivial⟩, H⟩
    intro q w hq H
    skip
    refine hK9 _ _ (W_keep (Keep.cons 5 rfl (Keep.cons 10 rfl (Keep.cons 11 rfl (Keep.cons 12 rfl (Keep.cons 24 rfl Keep.nil))))) ?_)
    refine W_if rfl (fun d => ?_) (fun d => ?_)
    · skip
      refine W_reg rfl ?_
      refine RL_some ?_; (refine X_move rfl ?_)
      refine RL_some ?_; (first | refine X_int rfl rfl rfl (by omega) ?_ | refine X_bin rfl rfl rfl ?_)
      refine RL_some ?_; (refine X_assign rfl ?_)
      refine hK7 _ _ (W_keep (Keep.cons 5 rfl (Keep.cons 10 rfl (Keep.cons 11 rfl (Keep.cons 12 rfl Keep.nil)))) ?_)
      refine W_reg rfl ?_
      refine RL_some ?_; (first | refine X_int rfl rfl rfl (by omega) ?_ | refine X_bin rfl rfl rfl ?_)
      refine RL_some ?_; (refine X_move rfl ?_)
      refine ⟨left - 1, by omega, i + 1, by omega, ?_, H.drop⟩
      rw [htk, if_pos (hq.1 d)]
      exact (Keep.cons 5 rfl (Keep.cons 10 rfl (Keep.cons 11 rfl (Keep.cons 12 rfl Keep.nil))))
    refine W_skip ?_
    refine hK7 _ _ (W_keep (Keep.cons 5 rfl (Keep.cons 10 rfl (Keep.cons 11 rfl (Keep.cons 12 rfl (Keep.cons 24 rfl Keep.nil))))) ?_)
    refine W_reg rfl ?_
    refine RL_some ?_; (first | refine X_int rfl rfl rfl (by omega) ?_ | refine X_bin rfl rfl rfl ?_)
    refine RL_some ?_; (refine X_move rfl ?_)
    refine ⟨left - 1, by omega, i + 1, by omega, ?_, H.drop⟩
    rw [htk, if_neg (fun h => by rw [hq.2 h] at d; cases d)]
    exact (Keep.cons 5 rfl (Keep.cons 10 rfl (Keep.cons 11 rfl (Keep.cons 12 rfl Keep.nil))))
  refine W_exit ?_
  refine hK3 _ _ (W_keep (Keep.cons 5 rfl (Keep.cons 10 rfl (Keep.cons 11 rfl (Keep.cons 12 rfl (Keep.cons 13 rfl Keep.nil))))) ?_)
  refine W_seq_k fun K10 hK10 => ?_
  have c := of_decide_eq_false c
  obtain rfl : i = (cellsOf m ns).length := by omega
  rw [List.take_length]
  refine W_reg rfl ?_
  refine RL_some ?_; (refine X_move rfl ?_)
  refine RL_some ?_; (refine X_assign rfl ?_)
  refine hK10 _ _ (W_keep (Keep.cons 4 rfl Keep.nil) ?_)
  refine W_ret ?_
  (try simp only [thenQ, blockQ, noGotoQ])
  refine body_tmp (.inr rfl) rfl rfl ?_
  exact ⟨rfl, H⟩

/-! ### Drop -/
def dropK (l : List (Option Spot)) (i : Nat) : List (Option Spot) := List.replicate i none ++ l.drop i
theorem dropK_len (l : List (Option Spot)) {i : Nat} (h : i ≤ l.length) : (dropK l i).length = l.length := by simp [dropK]; omega
theorem dropK_step (l : List (Option Spot)) {i : Nat} {c : Option Spot} (h : l[i]? = some c) : dropK l (i + 1) = (dropK l i).set i none ∧ (dropK l i)[i]? = some c := by
  obtain ⟨hi, hc⟩ := List.getElem?_eq_some_iff.1 h
  unfold dropK
  constructor
  · rw [List.set_append_right _ _ (by simp), List.length_replicate, Nat.sub_self, List.drop_eq_getElem_cons hi, List.replicate_succ', List.set_cons_zero, List.append_assoc, List.singleton_append]
  · rw [List.getElem?_append_right (by simp)]
    simp [h]
theorem dropK_cnt (l : List (Option Spot)) {i : Nat} {c : Option Spot} (h : l[i]? = some c) (q : Pl) : cntL (dropK l (i + 1)) q = cntL (dropK l i) q - plOf c q := by
  obtain ⟨h1, h2⟩ := dropK_step l h
  rw [h1, cntL_set _ _ _ _ h2]
  have : plOf none q = 0 := rfl
  omega
theorem dropK_all (l : List (Option Spot)) (q : Pl) : cntL (dropK l l.length) q = 0 := by
  unfold dropK cntL
  rw [List.drop_length, List.append_nil, List.map_replicate]
  have : ∀ n, (List.replicate n (plOf none q)).sum = 0 := by
    intro n
    induction n with
    | zero => rfl
    | succ n ih => rw [List.replicate_succ, List.sum_cons, ih]; rfl
  exact this _

/-- what is gone, in the midst -/
structure GoneM (C0 C : Pl → Int) (outs : List Pl) : Prop where
  nodup : outs.Nodup
  mem : ∀ q, q ∈ outs ↔ C0 q ≠ 0 ∧ C q = 0
theorem GoneM.step {C0 C C' : Pl → Int} {op : Pl} {outs : List Pl} (h : GoneM C0 C outs) (h0 : 1 ≤ C op) (h00 : C0 op ≠ 0) (hC : ∀ q, C' q = C q - if q = op then 1 else 0) : GoneM C0 C' (outs ++ if C op = 1 then [op] else []) := by
  have hno : op ∉ outs := fun hm => by have := ((h.mem op).1 hm).2; omega
  by_cases h1 : C op = 1
  · rw [if_pos h1]
    refine ⟨List.nodup_append.2 ⟨h.nodup, by simp, fun x hx y hy e => ?_⟩, fun q => ?_⟩
    · simp at hy; subst hy; subst e; exact hno hx
    · rw [List.mem_append, h.mem, List.mem_singleton, hC]
      by_cases e : q = op
      · subst e; simp; omega
      · simp [e]
  · rw [if_neg h1, List.append_nil]
    refine ⟨h.nodup, fun q => ?_⟩
    rw [h.mem, hC]
    by_cases e : q = op
    · subst e; simp; omega
    · simp [e]

/-- a namespace less -/
def PMx.less (m : PMx) (k : Nat) : PMx := { m with bo := fun j => if j = k then none else m.bo j, l := atK m.l k [] }
theorem less_at (m : PMx) (k : Nat) (hk : k < 4) {w0 w : World} {L : List Asn} (H : St w0 w (Cs m.p (splice m.vs k [.slice none 0 0]) 73 :: (m.at_ ++ L).tail)) : St w0 w ((m.less k).at_ ++ L) := by
  obtain rfl | rfl | rfl | rfl : k = 0 ∨ k = 1 ∨ k = 2 ∨ k = 3 := by omega
  · have H2 := St.mkPu (p := ([] : List (Option Spot)) = []) rfl (H.dropAt 2).emp
    exact (H2.swap.perm (.cons _ (.swap _ _ _)))
  · have H2 := St.mkPu (p := ([] : List (Option Spot)) = []) rfl (H.dropAt 3).emp
    exact (H2.swap.perm (.cons _ ((List.Perm.swap _ _ _).trans (.cons _ (.swap _ _ _)))))
  · have H2 := St.mkPu (p := ([] : List (Option Spot)) = []) rfl (H.dropAt 4).emp
    exact (H2.swap.perm (.cons _ ((List.Perm.swap _ _ _).trans (.cons _ ((List.Perm.swap _ _ _).trans (.cons _ (.swap _ _ _)))))))
  · have H2 := St.mkPu (p := ([] : List (Option Spot)) = []) rfl (H.dropAt 5).emp
    exact (H2.swap.perm (.cons _ ((List.Perm.swap _ _ _).trans (.cons _ ((List.Perm.swap _ _ _).trans (.cons _ ((List.Perm.swap _ _ _).trans (.cons _ (.swap _ _ _)))))))))

theorem Drop_none (m : PMx) (ns : Int) (h : cellsOf m ns = []) {w0 w : World} {L : List Asn} (H : St w0 w (m.at_ ++ L)) :
    Calls Try.prog 22 #[pt m.p 0, i64 ns] w (After fun v w' => v = .tuple #[nilS, i64 2] ∧ St w0 w' (m.at_ ++ L)) := by
  obtain ⟨ad, had⟩ := own_val H ns
  rw [h] at had
  refine calls_of_W (N := 34) (args := [pt m.p 0, i64 ns]) Try.func22 rfl Try.ntmps22 (by simp) ?_
  refine W_seq_k fun K1 hK1 => ?_
  refine W_reg rfl ?_
  refine RL_some ?_; (refine X_assign rfl ?_)
  refine RL_some ?_; (refine X_assign rfl ?_)
  refine hK1 _ _ (W_keep (Keep.cons 0 rfl (Keep.cons 1 rfl Keep.nil)) ?_)
  refine W_seq_k fun K2 hK2 => ?_
  refine W_reg rfl ?_
  refine RL_some ?_; (refine X_move rfl ?_)
  refine RL_some ?_; (refine X_move rfl ?_)
  refine RL_some ?_; (refine X_call T.ent31 rfl (calls_to (own_spec m ns H) ?_); rintro v w ⟨rfl, rfl⟩; rw [had])
  refine RL_some ?_; (refine X_assign rfl ?_)
  refine hK2 _ _ (W_keep (Keep.cons 0 rfl (Keep.cons 1 rfl (Keep.cons 6 rfl Keep.nil))) ?_)
  refine W_seq_k fun K3 hK3 => ?_
  refine W_seq_k fun K4 hK4 => ?_
  refine W_reg rfl ?_
  refine RL_some ?_; (refine X_move rfl ?_)
  refine RL_some ?_; (refine X_len T.sl70 rfl ?_)
  refine RL_some ?_; (first | refine X_cmp_t rfl rfl rfl (by first | assumption | omega) ?_ | refine X_cmp_f rfl rfl rfl (by first | assumption | omega) ?_ | refine X_bin rfl rfl rfl ?_)
  refine hK4 _ _ (W_keep (Keep.cons 0 rfl (Keep.cons 1 rfl (Keep.cons 6 rfl (Keep.cons 15 rfl Keep.nil)))) ?_)
  refine W_true rfl ?_
  refine W_seq_k fun K5 hK5 => ?_
  refine W_reg rfl ?_
  refine RL_some ?_; (refine X_assign rfl ?_)
  refine RL_some ?_; (refine X_assign rfl ?_)
  refine hK5 _ _ (W_keep (Keep.cons 4 rfl (Keep.cons 5 rfl Keep.nil)) ?_)
  refine W_ret ?_
  (try simp only [thenQ, blockQ, noGotoQ])
  refine body_tmp2 (.inr rfl) rfl rfl rfl ?_
  exact ⟨rfl, H⟩

theorem Drop_spec (m : PMx) (ns : Int) (h : cellsOf m ns ≠ []) (hlen : ∀ k, k < 4 → (m.l k).length ≤ 65535) (hR : REF m.E m.clock (cnt m.l)) (hrng : ∀ q, cnt m.l q ≠ 0 → Rng q) {w0 w : World} {L : List Asn} (H : St w0 w (m.at_ ++ L)) :
    Calls Try.prog 22 #[pt m.p 0, i64 ns] w (After fun v w' => ∃ u E' clock' outs, v = .tuple #[u, i64 0] ∧ REF E' clock' (cnt (m.less ns.toNat).l) ∧ Gone (cnt m.l) (cnt (m.less ns.toNat).l) outs ∧
      St w0 w' (((m.less ns.toNat).withE E' clock').at_ ++ PT u outs :: L)) := by
  obtain ⟨c0, r0, hcr⟩ : ∃ c r, cellsOf m ns = c :: r := by cases hc : cellsOf m ns with | nil => exact absurd hc h | cons c r => exact ⟨c, r, rfl⟩
  obtain ⟨hn0, hn4, _, hco, b, hov, hb, hrow⟩ := own_row H (i := 0) (c := c0) (by rw [hcr]; rfl)
  have hpos : 0 < (cellsOf m ns).length := by rw [hcr]; simp
  have hl := hlen ns.toNat (by omega)
  rw [← hco] at hl
  have hk4 : ns.toNat < 4 := by omega
  have hcnt : ∀ i q, cnt (atK m.l ns.toNat (dropK (cellsOf m ns) i)) q = cnt m.l q - cntL (m.l ns.toNat) q + cntL (dropK (cellsOf m ns) i) q := fun i q => cnt_atK m.l _ hk4 _ q
  refine calls_of_W (N := 34) (args := [pt m.p 0, i64 ns]) Try.func22 rfl Try.ntmps22 (by simp) ?_
  refine W_seq_k fun K1 hK1 => ?_
  refine W_reg rfl ?_
  refine RL_some ?_; (refine X_assign rfl ?_)
  refine RL_some ?_; (refine X_assign rfl ?_)
  refine hK1 _ _ (W_keep (Keep.cons 0 rfl (Keep.cons 1 rfl Keep.nil)) ?_)
  refine W_seq_k fun K2 hK2 => ?_
  refine W_reg rfl ?_
  refine RL_some ?_; (refine X_move rfl ?_)
  refine RL_some ?_; (refine X_move rfl ?_)
  refine RL_some ?_; (refine X_call T.ent31 rfl (calls_to (own_spec m ns H) ?_); rintro v w ⟨rfl, rfl⟩; rw [hov])
  refine RL_some ?_; (refine X_assign rfl ?_)
  refine hK2 _ _ (W_keep (Keep.cons 0 rfl (Keep.cons 1 rfl (Keep.cons 6 rfl Keep.nil))) ?_)
  refine W_seq_k fun K3 hK3 => ?_
  refine W_seq_k fun K4 hK4 => ?_
  refine W_reg rfl ?_
  refine RL_some ?_; (refine X_move rfl ?_)
  refine RL_some ?_; (refine X_len T.sl70 rfl ?_)
  refine RL_some ?_; (first | refine X_cmp_t rfl rfl rfl (by first | assumption | omega) ?_ | refine X_cmp_f rfl rfl rfl (by first | assumption | omega) ?_ | refine X_bin rfl rfl rfl ?_)
  refine hK4 _ _ (W_keep (Keep.cons 0 rfl (Keep.cons 1 rfl (Keep.cons 6 rfl (Keep.cons 15 rfl Keep.nil)))) ?_)
  refine W_false rfl ?_
  refine W_skip ?_
  refine hK3 _ _ (W_keep (Keep.cons 0 rfl (Keep.cons 1 rfl (Keep.cons 6 rfl (Keep.cons 15 rfl Keep.nil)))) ?_)
  refine W_seq_k fun K5 hK5 => ?_
  refine W_reg rfl ?_
  refine RL_some ?_; (refine X_assign rfl ?_)
  refine hK5 _ _ (W_keep (Keep.cons 0 rfl (Keep.cons 1 rfl (Keep.cons 6 rfl (Keep.cons 7 rfl Keep.nil)))) ?_)
  refine W_seq_k fun K6 hK6 => ?_
  refine W_seq_k fun K7 hK7 => ?_
  refine W_reg rfl ?_
  refine RL_some ?_; (refine X_move rfl ?_)
  refine RL_some ?_; (refine X_len T.sl70 rfl ?_)
  refine RL_some ?_; (refine X_move rfl ?_)
  refine hK7 _ _ (W_keep (Keep.cons 0 rfl (Keep.cons 1 rfl (Keep.cons 7 rfl (Keep.cons 16 rfl (Keep.cons 17 rfl (Keep.cons 18 rfl Keep.nil)))))) ?_)
  refine W_block ?_
  refine W_loop (fun left pf w => ∃ (i : Nat) (E : Ents Pl) (clock : Nat) (outs : List Pl) (v : Value), i + left = (cellsOf m ns).length ∧ REF E clock (cnt (atK m.l ns.toNat (dropK (cellsOf m ns) i))) ∧ GoneM (cnt m.l) (cnt (atK m.l ns.toNat (dropK (cellsOf m ns) i))) outs ∧ outs.length ≤ i ∧ Keep pf [(0, pt m.p 0), (1, i64 ns), (7, v), (16, sl b 0 (cellsOf m ns).length (cellsOf m ns).length), (17, i64 (cellsOf m ns).length), (18, i64 i)] ∧ St w0 w ((m.withE E clock).at_ ++ Row v 23 2 outs.length (outs.flatMap Pl.enc) :: L)) ((cellsOf m ns).length) ?_ ?_
  · skip
    have e0 : cnt (atK m.l ns.toNat (dropK (cellsOf m ns) 0)) = cnt m.l := by
      funext q
      rw [hcnt, ← hco]
      have : dropK (cellsOf m ns) 0 = cellsOf m ns := by simp [dropK]
      rw [this]; omega
    refine ⟨0, m.E, m.clock, [], nilS, by omega, by rw [e0]; exact hR, by rw [e0]; exact ⟨by simp, fun q => by simp⟩, by simp, (Keep.cons 0 rfl (Keep.cons 1 rfl (Keep.cons 7 rfl (Keep.cons 16 rfl (Keep.cons 17 rfl (Keep.cons 18 rfl Keep.nil)))))), ?_⟩
    exact H.rowNil.perm (List.perm_middle (l₁ := m.at_)).symm
  clear H
  rintro left pf w ⟨i, E, clock, outs, v, hi, hR', hG, hol, hpf, H⟩
  refine W_keep hpf ?_
  clear hpf
  refine W_seq_k fun K8 hK8 => ?_
  refine W_reg rfl ?_
  refine RL_some ?_; (first | refine X_cmp_t rfl rfl rfl (by first | assumption | omega) ?_ | refine X_cmp_f rfl rfl rfl (by first | assumption | omega) ?_ | refine X_bin rfl rfl rfl ?_)
  refine hK8 _ _ (W_keep (Keep.cons 0 rfl (Keep.cons 1 rfl (Keep.cons 7 rfl (Keep.cons 16 rfl (Keep.cons 17 rfl (Keep.cons 18 rfl (Keep.cons 19 rfl Keep.nil))))))) ?_)
  refine W_seq_k fun K9 hK9 => ?_
  refine W_if rfl (fun c => ?_) (fun c => ?_)
  · skip
    refine W_skip ?_
    refine hK9 _ _ (W_keep (Keep.cons 0 rfl (Keep.cons 1 rfl (Keep.cons 7 rfl (Keep.cons 16 rfl (Keep.cons 17 rfl (Keep.cons 18 rfl (Keep.cons 19 rfl Keep.nil))))))) ?_)
    refine W_seq_k fun K10 hK10 => ?_
    refine W_block ?_
    refine W_seq_k fun K11 hK11 => ?_
    have c := of_decide_eq_true c
    obtain ⟨x, hx⟩ : ∃ x, (cellsOf m ns)[i]? = some x := ⟨_, List.getElem?_eq_getElem (by omega)⟩
    obtain ⟨_, _, hx2, _, b', hov', hb', hrow'⟩ := own_row (m := m.withE E clock) H hx
    have hbb : b' = b := by rw [show (m.withE E clock).bo = m.bo from rfl, hb] at hb'; cases hb'; rfl
    subst hbb
    have hstep := fun q => dropK_cnt (cellsOf m ns) hx q
    refine W_reg rfl ?_
    refine RL_some ?_; (refine X_idx T.sl70 rfl rfl (by omega) (by omega) ?_)
    refine RL_some ?_; (refine S_load H (2 + ns.toNat) T.ty76 rfl hrow' (l := encC x) (row_seg hx2).1 (row_seg hx2).2 ?_)
    refine RL_some ?_; (refine S_alloc H T.ze76 ?_; intro b9 w H)
    refine RL_none ?_; (refine S_store H 0 T.ty76 rfl rfl rfl (encC_len x) (Nat.le_of_ble_eq_true rfl) (encC_one x) (c' := (encC x).toArray) (by cases x <;> rfl) ?_; intro w H)
    refine hK11 _ _ (W_keep (Keep.cons 0 rfl (Keep.cons 1 rfl (Keep.cons 7 rfl (Keep.cons 9 rfl (Keep.cons 16 rfl (Keep.cons 17 rfl (Keep.cons 18 rfl Keep.nil))))))) ?_)
    rcases x with _ | s
    · skip
      refine W_reg rfl ?_
      refine RL_some ?_; (refine X_move rfl ?_)
      refine RL_some ?_; (refine S_load H 0 T.ty76 rfl rfl (l := encC none) rfl (Nat.le_of_ble_eq_true rfl) ?_)
      refine RL_some ?_; (refine X_move rfl ?_)
      refine RL_some ?_; (refine X_call T.ent29 rfl (calls_to (lose_none (m.withE E clock) v H.drop) ?_); rintro u w ⟨rfl, H⟩)
      refine RL_some ?_; (refine X_assign rfl ?_)
      refine hK10 _ _ (W_keep (Keep.cons 0 rfl (Keep.cons 1 rfl (Keep.cons 7 rfl (Keep.cons 16 rfl (Keep.cons 17 rfl (Keep.cons 18 rfl Keep.nil)))))) ?_)
      refine W_reg rfl ?_
      refine RL_some ?_; (first | refine X_int rfl rfl rfl (by omega) ?_ | refine X_bin rfl rfl rfl ?_)
      refine RL_some ?_; (refine X_move rfl ?_)
      refine ⟨left - 1, by omega, i + 1, E, clock, outs, u, by omega, ?_, ?_, by omega, (Keep.cons 0 rfl (Keep.cons 1 rfl (Keep.cons 7 rfl (Keep.cons 16 rfl (Keep.cons 17 rfl (Keep.cons 18 rfl Keep.nil)))))), H⟩
      · have : cnt (atK m.l ns.toNat (dropK (cellsOf m ns) (i + 1))) = cnt (atK m.l ns.toNat (dropK (cellsOf m ns) i)) := by
          funext q; rw [hcnt, hcnt, hstep]; simp [plOf]
        rw [this]; exact hR'
      · have : cnt (atK m.l ns.toNat (dropK (cellsOf m ns) (i + 1))) = cnt (atK m.l ns.toNat (dropK (cellsOf m ns) i)) := by
          funext q; rw [hcnt, hcnt, hstep]; simp [plOf]
        rw [this]; exact hG
    · skip
      have hone : 1 ≤ cnt (atK m.l ns.toNat (dropK (cellsOf m ns) i)) s.place := by
        have h1 := cntL_get _ _ (dropK_step _ hx).2
        have h2 := cntL_cnt m.l ns.toNat hk4 s.place
        rw [hcnt]; omega
      have hone0 : cnt m.l s.place ≠ 0 := by
        have h1 := cntL_get (m.l ns.toNat) i (s := s) (by rw [← hco]; exact hx)
        have h2 := cntL_cnt m.l ns.toNat hk4 s.place
        omega
      have hle : cnt (atK m.l ns.toNat (dropK (cellsOf m ns) i)) s.place ≤ 1000000000 := by
        have h1 := (cnt_le (atK m.l ns.toNat (dropK (cellsOf m ns) i)) s.place).2
        have h2 : ∀ j, j < 4 → (atK m.l ns.toNat (dropK (cellsOf m ns) i) j).length ≤ 65535 := by
          intro j hj
          unfold atK
          split
          · rw [dropK_len _ (by omega)]; exact hl
          · exact hlen j hj
        have a0 := h2 0 (by omega)
        have a1 := h2 1 (by omega)
        have a2 := h2 2 (by omega)
        have a3 := h2 3 (by omega)
        omega
      have hC : ∀ q, cnt (atK m.l ns.toNat (dropK (cellsOf m ns) (i + 1))) q = cnt (atK m.l ns.toNat (dropK (cellsOf m ns) i)) q - if q = s.place then 1 else 0 := fun q => by
        rw [hcnt, hcnt, hstep]; simp only [plOf]; omega
      have hG2 := hG.step hone hone0 hC
      refine W_reg rfl ?_
      refine RL_some ?_; (refine X_move rfl ?_)
      refine RL_some ?_; (refine S_load H 0 T.ty76 rfl rfl (l := encC (some s)) rfl (Nat.le_of_ble_eq_true rfl) ?_)
      refine RL_some ?_; (refine X_move rfl ?_)
      refine RL_some ?_; (refine X_call T.ent29 rfl (calls_to (lose_some (m.withE E clock) s hR' hone hle (by omega) H.drop) ?_); rintro u w ⟨E2, clock2, hR2, H⟩)
      refine RL_some ?_; (refine X_assign rfl ?_)
      refine hK10 _ _ (W_keep (Keep.cons 0 rfl (Keep.cons 1 rfl (Keep.cons 7 rfl (Keep.cons 16 rfl (Keep.cons 17 rfl (Keep.cons 18 rfl Keep.nil)))))) ?_)
      refine W_reg rfl ?_
      refine RL_some ?_; (first | refine X_int rfl rfl rfl (by omega) ?_ | refine X_bin rfl rfl rfl ?_)
      refine RL_some ?_; (refine X_move rfl ?_)
      have hlen2 : (outs ++ if cnt (atK m.l ns.toNat (dropK (cellsOf m ns) i)) s.place = 1 then [s.place] else []).length = outs.length + if cnt (atK m.l ns.toNat (dropK (cellsOf m ns) i)) s.place = 1 then 1 else 0 := by
        split <;> simp
      have henc : (outs ++ if cnt (atK m.l ns.toNat (dropK (cellsOf m ns) i)) s.place = 1 then [s.place] else []).flatMap Pl.enc = outs.flatMap Pl.enc ++ if cnt (atK m.l ns.toNat (dropK (cellsOf m ns) i)) s.place = 1 then s.place.enc else [] := by
        split <;> simp
      refine ⟨left - 1, by omega, i + 1, E2, clock2, _, u, by omega, ?_, hG2, ?_, (Keep.cons 0 rfl (Keep.cons 1 rfl (Keep.cons 7 rfl (Keep.cons 16 rfl (Keep.cons 17 rfl (Keep.cons 18 rfl Keep.nil)))))), ?_⟩
      · refine cast (congrArg (REF _ _) ?_) hR2
        funext q
        rw [hC]
        by_cases e : q = s.place
        · subst e; simp
        · simp [e]
      · rw [hlen2]; split <;> omega
      · rw [hlen2, henc]; exact H
  refine W_exit ?_
  refine hK6 _ _ (W_keep (Keep.cons 0 rfl (Keep.cons 1 rfl (Keep.cons 7 rfl (Keep.cons 16 rfl (Keep.cons 17 rfl (Keep.cons 18 rfl (Keep.cons 19 rfl Keep.nil))))))) ?_)
  refine W_seq_k fun K12 hK12 => ?_
  have c := of_decide_eq_false c
  obtain rfl : i = (cellsOf m ns).length := by omega
  refine W_reg rfl ?_
  refine RL_some ?_; (refine X_move rfl ?_)
  refine RL_some ?_; (refine X_move rfl ?_)
  refine RL_some ?_; (first | refine X_nil rfl ?_ | refine X_nil_func rfl ?_)
  refine RL_some ?_; (refine X_fieldAddr T.fd73_0 rfl ?_)
  refine RL_some ?_; (refine X_idxA T.ar71 rfl rfl (by omega) (by omega) ?_)
  refine RL_none ?_; (refine S_store (c' := splice m.vs ns.toNat [nilS]) H 0 T.ty70 rfl rfl rfl rfl (by rw [Nat.mul_one, Nat.zero_add]; show _ ≤ 5; omega) rfl (by rw [Nat.mul_one, Nat.zero_add]; rfl) ?_; intro w H)
  refine hK12 _ _ (W_keep (Keep.cons 7 rfl Keep.nil) ?_)
  replace H := less_at (m.withE E clock) ns.toNat hk4 H
  have hz : cnt (atK m.l ns.toNat (dropK (cellsOf m ns) (cellsOf m ns).length)) = cnt (m.less ns.toNat).l := by
    funext q
    rw [hcnt, dropK_all]
    show _ = cnt (atK m.l ns.toNat []) q
    rw [cnt_atK m.l _ hk4]
    rfl
  rw [hz] at hR' hG
  refine W_seq_k fun K13 hK13 => ?_
  refine W_reg rfl ?_
  refine RL_some ?_; (refine X_move rfl ?_)
  refine RL_some ?_; (refine X_call T.ent30 rfl (calls_to (told_any outs (fun x hx => hrng x ((hG.mem x).1 hx).1) hG.nodup (by omega) (H.perm (List.perm_middle (l₁ := ((m.withE E clock).less ns.toNat).at_)))) ?_); rintro u w ⟨ys, hp, hA, H⟩)
  refine RL_some ?_; (refine X_assign rfl ?_)
  refine RL_some ?_; (refine X_assign rfl ?_)
  refine hK13 _ _ (W_keep (Keep.cons 4 rfl (Keep.cons 5 rfl Keep.nil)) ?_)
  refine W_ret ?_
  (try simp only [thenQ, blockQ, noGotoQ])
  refine body_tmp2 (.inr rfl) rfl rfl rfl ?_
  exact ⟨u, E, clock, ys, rfl, hR', ⟨hA, fun q => by rw [hp.mem_iff, hG.mem]⟩, St.into (A := ((m.withE E clock).less ns.toNat).at_) H⟩
end Go.Proofs.Ytinngnckojbpnaa
