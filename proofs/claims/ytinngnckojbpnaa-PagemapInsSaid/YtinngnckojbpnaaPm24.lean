import Derived.Test.YtinngnckojbpnaaPm23
/-! pagemap: the steps of PagemapRuns and PagemapIns. -/
namespace Go.Proofs.Ytinngnckojbpnaa
open Go.Nep
set_option maxRecDepth 100000
set_option linter.unusedVariables false
set_option linter.unusedSimpArgs false
set_option maxHeartbeats 3200000

structure RelM (m : PMx) (z : Z4) (cs : List Cell) : Prop where
  rel : Rel m.l cs
  ref : REF m.E m.clock (cnt m.l)
  size : ∀ k, k < 4 → z.get k = (m.l k).length
  small : ∀ k, k < 4 → (m.l k).length ≤ 40
  rng : ∀ q, cnt m.l q ≠ 0 → Rng q
theorem RelM.len {m : PMx} {z : Z4} {cs : List Cell} (h : RelM m z cs) : cs.length ≤ 160 := by
  have h1 := h.rel.len
  have := h.small 0 (by omega)
  have := h.small 1 (by omega)
  have := h.small 2 (by omega)
  have := h.small 3 (by omega)
  omega
theorem RelM.big {m : PMx} {z : Z4} {cs : List Cell} (h : RelM m z cs) : ∀ k, k < 4 → (m.l k).length ≤ 65535 := fun k hk => by have := h.small k hk; omega
theorem RelM.zok {m : PMx} {z : Z4} {cs : List Cell} (h : RelM m z cs) : z.ok := ⟨fun k => by
  rcases Nat.lt_or_ge k 4 with hk | hk
  · have := h.size k hk
    have := h.small k hk
    omega
  · have e : z.get k = z.get 3 := by unfold Z4.get; rw [if_neg (by omega), if_neg (by omega), if_neg (by omega), if_neg (by omega), if_neg (by omega), if_neg (by omega)]
    have := h.size 3 (by omega)
    have := h.small 3 (by omega)
    omega⟩
theorem RelM.right {m : PMx} {z : Z4} {cs : List Cell} (h : RelM m z cs) (s : Spot) : rightD z s ↔ rightS m s := by
  unfold rightD rightS sizeOf_
  by_cases hn : 0 ≤ s.head.ns ∧ s.head.ns < 4
  · rw [if_pos hn, h.size s.head.ns.toNat (by omega)]
    constructor
    · rintro ⟨h1, h2, h3, h4, h5, h6⟩; exact ⟨h3, h4, h5, h6⟩
    · rintro ⟨h3, h4, h5, h6⟩; exact ⟨by omega, by omega, h3, h4, h5, h6⟩
  · rw [if_neg hn]
    constructor
    · rintro ⟨h1, h2, _⟩; omega
    · rintro ⟨h3, h4, h5, h6⟩; omega
theorem RelM.empty {m : PMx} {z : Z4} {cs : List Cell} (h : RelM m z cs) (ns : Int) : cellsOf m ns = [] ↔ ns < 0 ∨ 3 < ns ∨ z.get ns.toNat = 0 := by
  unfold cellsOf
  by_cases hn : 0 ≤ ns ∧ ns < 4
  · rw [if_pos hn, h.size ns.toNat (by omega), ← List.length_eq_zero_iff]
    omega
  · rw [if_neg hn]
    constructor
    · intro _; omega
    · intro _; rfl
theorem RelM.get {m : PMx} {z : Z4} {cs : List Cell} (h : RelM m z cs) (ns : Int) (hn : 0 ≤ ns ∧ ns < 4) : z.get ns.toNat = sizeOf_ m ns := by
  unfold sizeOf_
  rw [if_pos hn, h.size ns.toNat (by omega)]

/-! ### the program's, with a map as one piece -/
theorem Put_pmBad (m : PMx) (s : Spot) (hok : s.head.ok) (hr : ¬ rightS m s) (hn : sizeOf_ m s.head.ns ≤ 65535) {w0 w : World} {L : List Asn} (H : St w0 w (PM m :: L)) :
    Calls Try.prog 14 #[pt m.p 0, .agg s.enc.toArray] w (After fun v w' => v = .tuple #[nilS, i64 2] ∧ St w0 w' (PM m :: L)) := by
  refine calls_to (Put_bad m s hok hr hn H.open_) ?_
  rintro v w ⟨rfl, H⟩
  exact ⟨rfl, H.shut⟩
theorem RelM.put {m : PMx} {z : Z4} {cs : List Cell} (h : RelM m z cs) {s : Spot} (hok : s.head.ok) (hr : rightS m s) (hrg : Rng s.place) {w0 w : World} {L : List Asn} (H : St w0 w (PM m :: L)) :
    Calls Try.prog 14 #[pt m.p 0, .agg s.enc.toArray] w (After fun v w' => ∃ u m', v = .tuple #[u, i64 0] ∧ m'.p = m.p ∧ RelM m' z (putD cs s) ∧ St w0 w' (PM m' :: PT u (goneL (putD cs s) cs) :: L)) := by
  refine calls_to (Put_any m s hok hr h.big h.ref h.rng H.open_) ?_
  rintro v w ⟨u, E, clock, outs, rfl, hR, hG, H⟩
  have hrel := h.rel.put hr hok
  rw [h.rel.gone hrel hG] at H
  have hlen : ∀ k, ((m.mid s s.head.count.toNat).l k).length = (m.l k).length := fun k => by
    show (if k = s.head.ns.toNat then putL s s.head.lba.toNat s.head.count.toNat (m.l s.head.ns.toNat) else m.l k).length = _
    split
    · rename_i e; rw [putL_len, e]
    · rfl
  refine ⟨u, (m.mid s s.head.count.toNat).withE E clock, rfl, rfl, ⟨hrel, hR, fun k hk => ?_, fun k hk => ?_, fun q hq => ?_⟩, H.shut⟩
  · rw [h.size k hk]; exact congrArg _ (hlen k).symm
  · have := h.small k hk
    have e := hlen k
    show ((m.mid s s.head.count.toNat).l k).length ≤ 40
    omega
  · have hq' : cnt (m.mid s s.head.count.toNat).l q ≠ 0 := hq
    have h1 := hrel.refs q
    have h2 : refsD (putD cs s) q ≠ 0 := by omega
    unfold refsD at h2
    obtain ⟨c, hc, hcq⟩ := List.countP_pos_iff.1 (Nat.pos_of_ne_zero h2)
    have hcq : c.s.place = q := by simpa using hcq
    unfold putD at hc
    rcases List.mem_append.1 hc with h3 | h3
    · obtain ⟨c0, hc0, rfl⟩ := List.mem_map.1 h3
      unfold updC at hcq
      split at hcq
      · subst hcq; exact hrg
      · refine h.rng q ?_
        have h4 := h.rel.refs q
        have h5 : 0 < refsD cs q := List.countP_pos_iff.2 ⟨c0, hc0, by simpa using hcq⟩
        omega
    · have : ∀ n, ∀ c ∈ addD cs s n, c.s = s := by
        intro n
        induction n with
        | zero => intro c hc; simp [addD] at hc
        | succ n ih =>
          intro c hc
          unfold addD at hc
          rcases List.mem_append.1 hc with h6 | h6
          · exact ih c h6
          · split at h6
            · rw [List.mem_singleton.1 h6]
            · simp at h6
      rw [this _ c h3] at hcq
      subst hcq; exact hrg
theorem Drop_pmNone (m : PMx) (ns : Int) (h : cellsOf m ns = []) {w0 w : World} {L : List Asn} (H : St w0 w (PM m :: L)) :
    Calls Try.prog 22 #[pt m.p 0, i64 ns] w (After fun v w' => v = .tuple #[nilS, i64 2] ∧ St w0 w' (PM m :: L)) := by
  refine calls_to (Drop_none m ns h H.open_) ?_
  rintro v w ⟨rfl, H⟩
  exact ⟨rfl, H.shut⟩
theorem z_set (z : Z4) (k j : Nat) (hj : j < 4) (hk : k < 4) (x : Int) : (z.set k x).get j = if j = k then x else z.get j := by
  rcases (by omega : k = 0 ∨ k = 1 ∨ k = 2 ∨ k = 3) with e | e | e | e <;> subst e <;> rcases (by omega : j = 0 ∨ j = 1 ∨ j = 2 ∨ j = 3) with e | e | e | e <;> subst e <;> rfl
theorem RelM.drop {m : PMx} {z : Z4} {cs : List Cell} (h : RelM m z cs) {ns : Int} (hne : cellsOf m ns ≠ []) {w0 w : World} {L : List Asn} (H : St w0 w (PM m :: L)) :
    Calls Try.prog 22 #[pt m.p 0, i64 ns] w (After fun v w' => ∃ u m', v = .tuple #[u, i64 0] ∧ m'.p = m.p ∧ RelM m' (z.set ns.toNat 0) (dropD cs ns) ∧ St w0 w' (PM m' :: PT u (goneL (dropD cs ns) cs) :: L)) := by
  have hns : 0 ≤ ns ∧ ns < 4 := by
    by_cases hn : 0 ≤ ns ∧ ns < 4
    · exact hn
    · exact absurd (by unfold cellsOf; rw [if_neg hn]) hne
  refine calls_to (Drop_spec m ns hne h.big h.ref h.rng H.open_) ?_
  rintro v w ⟨u, E, clock, outs, rfl, hR, hG, H⟩
  have hrel := h.rel.drop hns
  rw [h.rel.gone hrel hG] at H
  have hlk : ∀ k, (m.less ns.toNat).l k = if k = ns.toNat then [] else m.l k := fun k => rfl
  refine ⟨u, (m.less ns.toNat).withE E clock, rfl, rfl, ⟨hrel, hR, fun k hk => ?_, fun k hk => ?_, fun q hq => ?_⟩, H.shut⟩
  · rw [z_set z ns.toNat k hk (by omega)]
    show _ = (((m.less ns.toNat).l k).length : Int)
    rw [hlk]
    split
    · rfl
    · exact h.size k hk
  · show ((m.less ns.toNat).l k).length ≤ 40
    rw [hlk]
    split
    · simp
    · exact h.small k hk
  · have hq' : cnt (m.less ns.toNat).l q ≠ 0 := hq
    have h1 := hrel.refs q
    have h4 := h.rel.refs q
    have h5 : refsD (dropD cs ns) q ≤ refsD cs q := by unfold refsD dropD; exact List.Sublist.countP_le List.filter_sublist
    exact h.rng q (by omega)
theorem Move_pmBad {m : PMx} {z : Z4} {cs : List Cell} (h : RelM m z cs) (a b : Pl) (o : Hd) (hbad : a ≠ b ∧ 0 < refsD cs b) {w0 w : World} {L : List Asn} (H : St w0 w (PM m :: L)) :
    Calls Try.prog 24 #[pt m.p 0, pk a, pk b, .agg o.enc.toArray] w (After fun v w' => v = i64 2 ∧ St w0 w' (PM m :: L)) := by
  have h4 := h.rel.refs b
  refine calls_to (Move_bad m a b o h.ref ⟨hbad.1, by omega⟩ H.open_) ?_
  rintro v w ⟨rfl, H⟩
  exact ⟨rfl, H.shut⟩
theorem RelM.move {m : PMx} {z : Z4} {cs : List Cell} (h : RelM m z cs) (a b : Pl) (o : Hd) (hok : ¬ (a ≠ b ∧ 0 < refsD cs b)) (hb : Rng b) {w0 w : World} {L : List Asn} (H : St w0 w (PM m :: L)) :
    Calls Try.prog 24 #[pt m.p 0, pk a, pk b, .agg o.enc.toArray] w (After fun v w' => v = i64 0 ∧ ∃ m', m'.p = m.p ∧ RelM m' z (moveD cs a b o) ∧ St w0 w' (PM m' :: L)) := by
  have h4 := h.rel.refs b
  refine calls_to (Move_spec m a b o h.big h.ref (by
    by_cases e : a = b
    · exact .inl e
    · right; have : ¬ 0 < refsD cs b := fun h5 => hok ⟨e, h5⟩; omega) H.open_) ?_
  rintro v w ⟨rfl, E, clock, hR, H⟩
  have hlk : ∀ k, (mvF a b o m.l k).length = (m.l k).length := fun k => by unfold mvF; split <;> simp
  refine ⟨rfl, (m.withF (mvF a b o m.l)).withE E clock, rfl, ⟨h.rel.move a b o, hR, fun k hk => ?_, fun k hk => ?_, fun q hq => ?_⟩, H.shut⟩
  · rw [h.size k hk]; exact congrArg _ (hlk k).symm
  · show (mvF a b o m.l k).length ≤ 40
    rw [hlk]; exact h.small k hk
  · have hq' : cnt (mvF a b o m.l) q ≠ 0 := hq
    rw [cnt_mv] at hq'
    split at hq'
    · exact h.rng q hq'
    · split at hq'
      · rename_i e; subst e; exact hb
      · split at hq'
        · exact absurd rfl hq'
        · exact h.rng q hq'

theorem places_same {u v : Value} (l : List Pl) (hl : l.length ≤ 1000000) {w0 w : World} {L : List Asn} (H : St w0 w (PT u l :: PT v l :: L)) :
    Calls Try.prog 34 #[u, v] w (After fun r w' => r = .bool true ∧ St w0 w' (PT u l :: PT v l :: L)) := by
  obtain ⟨au, cu, rfl, _⟩ := H.tabVal
  obtain ⟨av, cv, rfl, _⟩ := H.tabVal' 1 rfl
  refine calls_of_W (N := 26) (args := [.slice au l.length cu, .slice av l.length cv]) Try.func34 rfl Try.ntmps34 (by simp) ?_
  refine W_seq_k fun K1 hK1 => ?_
  refine W_reg rfl ?_
  refine RL_some ?_; (refine X_assign rfl ?_)
  refine hK1 _ _ (W_keep (Keep.cons 0 rfl (Keep.cons 1 rfl Keep.nil)) ?_)
  refine W_seq_k fun K2 hK2 => ?_
  refine W_seq_k fun K3 hK3 => ?_
  refine W_reg rfl ?_
  refine RL_some ?_; (refine X_move rfl ?_)
  refine RL_some ?_; (refine X_len T.sl41 rfl ?_)
  refine RL_some ?_; (refine X_move rfl ?_)
  refine RL_some ?_; (refine X_len T.sl41 rfl ?_)
  refine RL_some ?_; (refine X_ne_f (c := (l.length : Int) = l.length) rfl rfl rfl rfl ?_)
  refine hK3 _ _ (W_keep (Keep.cons 0 rfl (Keep.cons 1 rfl (Keep.cons 10 rfl Keep.nil))) ?_)
  refine W_false rfl ?_
  refine W_skip ?_
  refine hK2 _ _ (W_keep (Keep.cons 0 rfl (Keep.cons 1 rfl (Keep.cons 10 rfl Keep.nil))) ?_)
  refine W_seq_k fun K4 hK4 => ?_
  refine W_seq_k fun K5 hK5 => ?_
  refine W_reg rfl ?_
  refine RL_some ?_; (refine X_assign rfl ?_)
  refine hK5 _ _ (W_keep (Keep.cons 0 rfl (Keep.cons 1 rfl (Keep.cons 5 rfl Keep.nil))) ?_)
  refine W_block ?_
  refine W_loop (fun left pf w => ∃ i : Nat, i + left = l.length ∧ Keep pf [(0, .slice au l.length cu), (1, .slice av l.length cv), (5, i64 i)] ∧ St w0 w (PT (.slice au l.length cu) l :: PT (.slice av l.length cv) l :: L)) (l.length) ?_ ?_
  · skip
    exact ⟨0, by omega, (Keep.cons 0 rfl (Keep.cons 1 rfl (Keep.cons 5 rfl Keep.nil))), H⟩
  clear H
  rintro left pf w ⟨i, hi, hpf, H⟩
  refine W_keep hpf ?_
  clear hpf
  refine W_seq_k fun K6 hK6 => ?_
  refine W_seq_k fun K7 hK7 => ?_
  refine W_reg rfl ?_
  refine RL_some ?_; (refine X_move rfl ?_)
  refine RL_some ?_; (refine X_move rfl ?_)
  refine RL_some ?_; (refine X_len T.sl41 rfl ?_)
  refine RL_some ?_; (first | refine X_cmp_t rfl rfl rfl (by first | assumption | omega) ?_ | refine X_cmp_f rfl rfl rfl (by first | assumption | omega) ?_ | refine X_bin rfl rfl rfl ?_)
  refine hK7 _ _ (W_keep (Keep.cons 0 rfl (Keep.cons 1 rfl (Keep.cons 5 rfl (Keep.cons 14 rfl Keep.nil)))) ?_)
  refine W_if rfl (fun c => ?_) (fun c => ?_)
  · skip
    refine W_skip ?_
    refine hK6 _ _ (W_keep (Keep.cons 0 rfl (Keep.cons 1 rfl (Keep.cons 5 rfl (Keep.cons 14 rfl Keep.nil)))) ?_)
    refine W_seq_k fun K8 hK8 => ?_
    refine W_block ?_
    refine W_seq_k fun K9 hK9 => ?_
    have c := of_decide_eq_true c
    obtain ⟨x, hx⟩ : ∃ x, l[i]? = some x := ⟨_, List.getElem?_eq_getElem (by omega)⟩
    obtain ⟨g, cap', hv, _⟩ := H.tabPos' 0 rfl (by omega)
    simp only [Value.slice.injEq] at hv
    obtain ⟨rfl, _, rfl⟩ := hv
    obtain ⟨g2, cap2, hv, _⟩ := H.tabPos' 1 rfl (by omega)
    simp only [Value.slice.injEq] at hv
    obtain ⟨rfl, _, rfl⟩ := hv
    refine W_draw (.p 0 (.p 1 (.p 2 (.p 3 (.p 4 (.p 5 (.p 6 (.p 7 (.p 8 .nil))))))))) T.mixed rfl ?_
    replace H := H.drew
    apply DD_pure rfl rfl; next => (intro _; refine X_move rfl ⟨rfl, rfl⟩)
    apply DD_pure rfl rfl; next => (intro _; refine X_move rfl ⟨rfl, rfl⟩)
    apply DD_pure rfl rfl; next => (intro _; refine X_idx T.sl41 rfl rfl (by omega) (by omega) ⟨rfl, rfl⟩)
    apply DD_read rfl rfl; next => (refine S_loadT H 0 T.ty23 rfl pl_len rfl (j := i) (o := 0) (by omega) hx (by decide) (l := x.enc) rfl ⟨rfl, rfl⟩)
    apply DD_pure rfl rfl; next => (intro _; refine X_move rfl ⟨rfl, rfl⟩)
    apply DD_pure rfl rfl; next => (intro _; refine X_move rfl ⟨rfl, rfl⟩)
    apply DD_pure rfl rfl; next => (intro _; refine X_idx T.sl41 rfl rfl (by omega) (by omega) ⟨rfl, rfl⟩)
    apply DD_read rfl rfl; next => (refine S_loadT H 1 T.ty23 rfl pl_len rfl (j := i) (o := 0) (by omega) hx (by decide) (l := x.enc) rfl ⟨rfl, rfl⟩)
    apply DD_pure rfl rfl; next => (intro _; refine X_neS (r := true) T.eg23 ((pl_eq 9998 x x).of (decide_eq_true rfl)) rfl rfl ⟨rfl, rfl⟩)
    refine hK9 _ _ (W_keep (Keep.cons 0 rfl (Keep.cons 1 rfl (Keep.cons 5 rfl (Keep.cons 25 rfl Keep.nil)))) ?_)
    refine W_false rfl ?_
    refine W_skip ?_
    refine hK8 _ _ (W_keep (Keep.cons 0 rfl (Keep.cons 1 rfl (Keep.cons 5 rfl (Keep.cons 25 rfl Keep.nil)))) ?_)
    refine W_reg rfl ?_
    refine RL_some ?_; (refine X_move rfl ?_)
    refine RL_some ?_; (first | refine X_int rfl rfl rfl (by omega) ?_ | refine X_bin rfl rfl rfl ?_)
    refine RL_some ?_; (refine X_assign rfl ?_)
    exact ⟨left - 1, by omega, i + 1, by omega, (Keep.cons 0 rfl (Keep.cons 1 rfl (Keep.cons 5 rfl Keep.nil))), H⟩
  refine W_exit ?_
  refine hK4 _ _ (W_keep (Keep.cons 0 rfl (Keep.cons 1 rfl (Keep.cons 5 rfl (Keep.cons 14 rfl Keep.nil)))) ?_)
  refine W_seq_k fun K10 hK10 => ?_
  refine W_reg rfl ?_
  refine RL_some ?_; (refine X_assign rfl ?_)
  refine hK10 _ _ (W_keep (Keep.cons 4 rfl Keep.nil) ?_)
  refine W_ret ?_
  (try simp only [thenQ, blockQ, noGotoQ])
  refine body_tmp (.inr rfl) rfl rfl ?_
  exact ⟨rfl, H⟩
end Go.Proofs.Ytinngnckojbpnaa
