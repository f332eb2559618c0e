import Derived.Test.YtinngnckojbpnaaPm16
import Derived.Test.YtinngnckojbpnaaNepBool
/-! pagemap: the document's map: Place, Refs, ahead, gone, Right. -/
namespace Go.Proofs.Ytinngnckojbpnaa
open Go.Nep
set_option maxRecDepth 100000
set_option linter.unusedVariables false
set_option linter.unusedSimpArgs false
set_option maxHeartbeats 1600000

structure Cell where
  ns : Int
  lba : Int
  s : Spot
  deriving DecidableEq
def Cell.enc (c : Cell) : List Value := i64 c.ns :: i64 c.lba :: c.s.enc
theorem cell_len (c : Cell) : c.enc.length = 16 := rfl
theorem pl_len (c : Pl) : c.enc.length = 2 := rfl
theorem cells_one (l : List Cell) : (l.flatMap Cell.enc).all Nep.one = true := by
  rw [List.all_eq_true]
  intro v hv
  obtain ⟨s, _, hs⟩ := List.mem_flatMap.1 hv
  simp [Cell.enc, Spot.enc] at hs
  rcases hs with rfl | rfl | rfl | rfl | rfl | rfl | rfl | rfl | rfl | rfl | rfl | rfl | rfl | rfl | rfl | rfl <;> rfl
theorem pls_one (l : List Pl) : (l.flatMap Pl.enc).all Nep.one = true := by
  rw [List.all_eq_true]
  intro v hv
  obtain ⟨s, _, hs⟩ := List.mem_flatMap.1 hv
  simp [Pl.enc] at hs
  rcases hs with rfl | rfl <;> rfl

/-- the sizes -/
structure Z4 where
  a : Int
  b : Int
  c : Int
  d : Int
def Z4.get (z : Z4) (k : Nat) : Int := if k = 0 then z.a else if k = 1 then z.b else if k = 2 then z.c else z.d
def Z4.set (z : Z4) (k : Nat) (v : Int) : Z4 := if k = 0 then { z with a := v } else if k = 1 then { z with b := v } else if k = 2 then { z with c := v } else { z with d := v }
def dmc (z : Z4) (v : Value) : Array Value := #[i64 z.a, i64 z.b, i64 z.c, i64 z.d, v]
theorem dmc_get (z : Z4) (v : Value) {k : Nat} (hk : k < 4) : (dmc z v)[k]? = some (i64 (z.get k)) := by
  obtain rfl | rfl | rfl | rfl : k = 0 ∨ k = 1 ∨ k = 2 ∨ k = 3 := by omega
  all_goals rfl
/-- the document's cells, in a slice -/
abbrev CT (v : Value) (cs : List Cell) : Asn := Tab v 63 16 Cell.enc cs
abbrev PT (v : Value) (ps : List Pl) : Asn := Tab v 23 2 Pl.enc ps

def placeD (cs : List Cell) (ns lba : Int) : Int := match cs.findIdx? (fun c => decide (c.ns = ns ∧ c.lba = lba)) with
  | some i => i
  | none => -1
def refsD (cs : List Cell) (q : Pl) : Nat := cs.countP fun c => decide (c.s.place = q)

theorem placeD_at {cs : List Cell} {ns lba : Int} {i : Nat} (h : ∀ (j : Nat) c, j < i → cs[j]? = some c → ¬ (c.ns = ns ∧ c.lba = lba)) {c : Cell} (hc : cs[i]? = some c) (h1 : c.ns = ns ∧ c.lba = lba) : placeD cs ns lba = i := by
  obtain ⟨hi, hci⟩ := List.getElem?_eq_some_iff.1 hc
  have : cs.findIdx? (fun c => decide (c.ns = ns ∧ c.lba = lba)) = some i := by
    rw [List.findIdx?_eq_some_iff_getElem]
    refine ⟨hi, by rw [hci]; exact decide_eq_true h1, fun j hj => ?_⟩
    have hjl : j < cs.length := by omega
    simpa using h j cs[j] hj (List.getElem?_eq_getElem hjl)
  unfold placeD
  rw [this]
theorem placeD_no {cs : List Cell} {ns lba : Int} (h : ∀ (j : Nat) c, cs[j]? = some c → ¬ (c.ns = ns ∧ c.lba = lba)) : placeD cs ns lba = -1 := by
  have : cs.findIdx? (fun c => decide (c.ns = ns ∧ c.lba = lba)) = none := by
    rw [List.findIdx?_eq_none_iff]
    intro c hc
    obtain ⟨j, hj⟩ := List.mem_iff_getElem?.1 hc
    exact decide_eq_false (h j c hj)
  unfold placeD
  rw [this]

theorem rPlace_spec (z : Z4) (v : Value) (cs : List Cell) (ns lba : Int) {w0 w : World} {L : List Asn} (hlen : cs.length < 4611686018427387904) (H : St w0 w (CT v cs :: L)) :
    Calls Try.prog 39 #[.agg (dmc z v), i64 ns, i64 lba] w (After fun r w' => r = i64 (placeD cs ns lba) ∧ St w0 w' (CT v cs :: L)) := by
  obtain ⟨ad, cap, rfl, _⟩ := H.tabVal
  refine calls_of_W (N := 34) (args := [.agg (dmc z (.slice ad cs.length cap)), i64 ns, i64 lba]) Try.func39 rfl Try.ntmps39 (by simp) ?_
  refine W_seq_k fun K1 hK1 => ?_
  refine W_reg rfl ?_
  refine RL_some ?_; (refine S_box H rfl ?_; intro b3 w H)
  refine RL_some ?_; (refine X_assign rfl ?_)
  refine hK1 _ _ (W_keep (Keep.cons 1 rfl (Keep.cons 2 rfl (Keep.cons 3 rfl Keep.nil))) ?_)
  refine W_seq_k fun K2 hK2 => ?_
  refine W_seq_k fun K3 hK3 => ?_
  refine W_reg rfl ?_
  refine RL_some ?_; (refine X_assign rfl ?_)
  refine hK3 _ _ (W_keep (Keep.cons 1 rfl (Keep.cons 2 rfl (Keep.cons 3 rfl (Keep.cons 7 rfl Keep.nil)))) ?_)
  refine W_block ?_
  refine W_loop (fun left pf w => ∃ i, i + left = cs.length ∧ (∀ (j : Nat) c, j < i → cs[j]? = some c → ¬ (c.ns = ns ∧ c.lba = lba)) ∧ Keep pf [(1, i64 ns), (2, i64 lba), (3, pt b3 0), (7, i64 i)] ∧ St w0 w (Cs b3 (dmc z (.slice ad cs.length cap)) 51 :: CT (.slice ad cs.length cap) cs :: L)) (cs.length) ?_ ?_
  · skip
    exact ⟨0, by omega, fun j c h => absurd h (by omega), (Keep.cons 1 rfl (Keep.cons 2 rfl (Keep.cons 3 rfl (Keep.cons 7 rfl Keep.nil)))), H⟩
  clear H
  rintro left pf w ⟨i, hi, hno, hpf, H⟩
  refine W_keep hpf ?_
  clear hpf
  refine W_seq_k fun K4 hK4 => ?_
  refine W_seq_k fun K5 hK5 => ?_
  refine W_reg rfl ?_
  refine RL_some ?_; (refine X_move rfl ?_)
  refine RL_some ?_; (refine X_fieldAddr T.fd51_1 rfl ?_)
  refine RL_some ?_; (refine S_load1 H 0 T.ty49 rfl rfl (v := .slice ad cs.length cap) rfl ?_)
  refine RL_some ?_; (refine X_len T.sl49 rfl ?_)
  refine RL_some ?_; (first | refine X_cmp_t rfl rfl rfl (by first | assumption | omega) ?_ | refine X_cmp_f rfl rfl rfl (by first | assumption | omega) ?_ | refine X_bin rfl rfl rfl ?_)
  refine hK5 _ _ (W_keep (Keep.cons 1 rfl (Keep.cons 2 rfl (Keep.cons 3 rfl (Keep.cons 7 rfl (Keep.cons 12 rfl Keep.nil))))) ?_)
  refine W_if rfl (fun c => ?_) (fun c => ?_)
  · skip
    refine W_skip ?_
    refine hK4 _ _ (W_keep (Keep.cons 1 rfl (Keep.cons 2 rfl (Keep.cons 3 rfl (Keep.cons 7 rfl (Keep.cons 12 rfl Keep.nil))))) ?_)
    refine W_seq_k fun K6 hK6 => ?_
    refine W_block ?_
    refine W_seq_k fun K7 hK7 => ?_
    have c := of_decide_eq_true c
    obtain ⟨x, hx⟩ : ∃ x, cs[i]? = some x := ⟨_, List.getElem?_eq_getElem (by omega)⟩
    obtain ⟨g, cap', hv, _⟩ := H.tabPos' 1 rfl (by omega)
    simp only [Value.slice.injEq] at hv
    obtain ⟨rfl, _, rfl⟩ := hv
    refine W_boolR 32 (x.ns = ns ∧ x.lba = lba) [1, 2, 3, 7] H ?_ ?_
    · by_cases e1 : x.ns = ns
      all_goals
        refine W_reg rfl ?_
        refine RL_some ?_; (refine X_fieldAddr T.fd51_1 rfl ?_)
        refine RL_some ?_; (refine S_load1 H 0 T.ty49 rfl rfl (v := sl g 0 cs.length cap) rfl ?_)
        refine RL_some ?_; (refine X_move rfl ?_)
        refine RL_some ?_; (refine X_idx T.sl49 rfl rfl (by omega) (by omega) ?_)
        refine RL_some ?_; (refine X_fieldAddr T.fd63_0 rfl ?_)
        refine RL_some ?_; (refine S_loadT1 (v := i64 x.ns) H 1 T.ty3 rfl cell_len rfl (j := i) (o := 0) (by omega) hx (by decide) rfl ?_)
        refine RL_some ?_; (refine X_move rfl ?_)
        refine RL_some ?_; (first | refine X_cmp_t rfl rfl rfl (by first | assumption | omega) ?_ | refine X_cmp_f rfl rfl rfl (by first | assumption | omega) ?_ | refine X_bin rfl rfl rfl ?_)
        refine RL_some ?_; (refine X_move rfl ?_)
        (first | refine RL_off rfl rfl ?_ | refine RL_off' rfl rfl ?_ | (refine RL_on rfl rfl ?_; (refine X_fieldAddr T.fd51_1 rfl ?_)))
        (first | refine RL_off rfl rfl ?_ | refine RL_off' rfl rfl ?_ | (refine RL_on rfl rfl ?_; (refine S_load1 H 0 T.ty49 rfl rfl (v := sl g 0 cs.length cap) rfl ?_)))
        (first | refine RL_off rfl rfl ?_ | refine RL_off' rfl rfl ?_ | (refine RL_on rfl rfl ?_; (refine X_move rfl ?_)))
        (first | refine RL_off rfl rfl ?_ | refine RL_off' rfl rfl ?_ | (refine RL_on rfl rfl ?_; (refine X_idx T.sl49 rfl rfl (by omega) (by omega) ?_)))
        (first | refine RL_off rfl rfl ?_ | refine RL_off' rfl rfl ?_ | (refine RL_on rfl rfl ?_; (refine X_fieldAddr T.fd63_1 rfl ?_)))
        (first | refine RL_off rfl rfl ?_ | refine RL_off' rfl rfl ?_ | (refine RL_on rfl rfl ?_; (refine S_loadT1 (v := i64 x.lba) H 1 T.ty3 rfl cell_len rfl (j := i) (o := 1) (by omega) hx (by decide) rfl ?_)))
        (first | refine RL_off rfl rfl ?_ | refine RL_off' rfl rfl ?_ | (refine RL_on rfl rfl ?_; (refine X_move rfl ?_)))
        (first | refine RL_off rfl rfl ?_ | refine RL_off' rfl rfl ?_ | (refine RL_on rfl rfl ?_; (first | refine X_cmp_t rfl rfl rfl (by first | assumption | omega) ?_ | refine X_cmp_f rfl rfl rfl (by first | assumption | omega) ?_ | refine X_bin rfl rfl rfl ?_)))
        refine RL_some ?_; (refine X_pick rfl rfl ?_)
        exact ⟨_, by simp [e1], rfl, ⟨rfl, rfl, rfl, rfl, trivial⟩, H⟩
    intro q w hq H
    skip
    refine hK7 _ _ (W_keep (Keep.cons 1 rfl (Keep.cons 2 rfl (Keep.cons 3 rfl (Keep.cons 7 rfl (Keep.cons 32 rfl Keep.nil))))) ?_)
    refine W_if rfl (fun c2 => ?_) (fun c2 => ?_)
    · skip
      refine W_seq_k fun K8 hK8 => ?_
      refine W_reg rfl ?_
      refine RL_some ?_; (refine X_move rfl ?_)
      refine RL_some ?_; (refine X_assign rfl ?_)
      refine hK8 _ _ (W_keep (Keep.cons 6 rfl Keep.nil) ?_)
      refine W_ret ?_
      (try simp only [thenQ, blockQ, noGotoQ])
      refine body_tmp (.inr rfl) rfl rfl ?_
      exact ⟨by rw [placeD_at hno hx (hq.1 c2)], H.drop⟩
    refine W_skip ?_
    refine hK6 _ _ (W_keep (Keep.cons 1 rfl (Keep.cons 2 rfl (Keep.cons 3 rfl (Keep.cons 7 rfl (Keep.cons 32 rfl Keep.nil))))) ?_)
    refine W_reg rfl ?_
    refine RL_some ?_; (refine X_move rfl ?_)
    refine RL_some ?_; (first | refine X_int rfl rfl rfl (by omega) ?_ | refine X_bin rfl rfl rfl ?_)
    refine RL_some ?_; (refine X_assign rfl ?_)
    refine ⟨left - 1, by omega, i + 1, by omega, fun j c hj hc => ?_, (Keep.cons 1 rfl (Keep.cons 2 rfl (Keep.cons 3 rfl (Keep.cons 7 rfl Keep.nil)))), H⟩
    rcases Nat.lt_or_ge j i with h | h
    · exact hno j c h hc
    · obtain rfl : j = i := by omega
      rw [hx] at hc; cases hc
      exact fun h => by rw [hq.2 h] at c2; cases c2
  refine W_exit ?_
  refine hK2 _ _ (W_keep (Keep.cons 1 rfl (Keep.cons 2 rfl (Keep.cons 3 rfl (Keep.cons 7 rfl (Keep.cons 12 rfl Keep.nil))))) ?_)
  refine W_seq_k fun K9 hK9 => ?_
  have c := of_decide_eq_false c
  refine W_reg rfl ?_
  refine RL_some ?_; (refine X_assign rfl ?_)
  refine hK9 _ _ (W_keep (Keep.cons 6 rfl Keep.nil) ?_)
  refine W_ret ?_
  (try simp only [thenQ, blockQ, noGotoQ])
  refine body_tmp (.inr rfl) rfl rfl ?_
  exact ⟨by rw [placeD_no fun j c hc => hno j c (by have := (List.getElem?_eq_some_iff.1 hc).1; omega) hc], H.drop⟩

theorem refsD_take (cs : List Cell) (q : Pl) (i : Nat) {c : Cell} (h : cs[i]? = some c) : refsD (cs.take (i + 1)) q = refsD (cs.take i) q + if c.s.place = q then 1 else 0 := by
  unfold refsD
  rw [List.take_add_one, h, List.countP_append]
  simp only [Option.toList_some, List.countP_singleton]
  by_cases e : c.s.place = q <;> simp [e]

theorem rRefs_spec (z : Z4) (v : Value) (cs : List Cell) (q : Pl) {w0 w : World} {L : List Asn} (hlen : cs.length < 4611686018427387904) (H : St w0 w (CT v cs :: L)) :
    Calls Try.prog 19 #[.agg (dmc z v), pk q] w (After fun r w' => r = i64 (refsD cs q) ∧ St w0 w' (CT v cs :: L)) := by
  obtain ⟨ad, cap, rfl, _⟩ := H.tabVal
  refine calls_of_W (N := 26) (args := [.agg (dmc z (.slice ad cs.length cap)), pk q]) Try.func19 rfl Try.ntmps19 (by simp) ?_
  refine W_seq_k fun K1 hK1 => ?_
  refine W_reg rfl ?_
  refine RL_some ?_; (refine S_box H rfl ?_; intro b2 w H)
  refine RL_some ?_; (refine S_box H rfl ?_; intro b3 w H)
  refine RL_some ?_; (refine X_assign rfl ?_)
  refine hK1 _ _ (W_keep (Keep.cons 2 rfl (Keep.cons 3 rfl Keep.nil)) ?_)
  refine W_seq_k fun K2 hK2 => ?_
  refine W_reg rfl ?_
  refine RL_some ?_; (refine X_assign rfl ?_)
  refine hK2 _ _ (W_keep (Keep.cons 2 rfl (Keep.cons 3 rfl (Keep.cons 5 rfl Keep.nil))) ?_)
  refine W_seq_k fun K3 hK3 => ?_
  refine W_seq_k fun K4 hK4 => ?_
  refine W_reg rfl ?_
  refine RL_some ?_; (refine X_assign rfl ?_)
  refine hK4 _ _ (W_keep (Keep.cons 2 rfl (Keep.cons 3 rfl (Keep.cons 5 rfl (Keep.cons 6 rfl Keep.nil)))) ?_)
  refine W_block ?_
  refine W_loop (fun left pf w => ∃ i : Nat, i + left = cs.length ∧ Keep pf [(2, pt b2 0), (3, pt b3 0), (5, i64 (refsD (cs.take i) q)), (6, i64 i)] ∧ St w0 w (Cs b3 q.enc.toArray 23 :: Cs b2 (dmc z (.slice ad cs.length cap)) 51 :: CT (.slice ad cs.length cap) cs :: L)) (cs.length) ?_ ?_
  · skip
    exact ⟨0, by omega, (Keep.cons 2 rfl (Keep.cons 3 rfl (Keep.cons 5 rfl (Keep.cons 6 rfl Keep.nil)))), H⟩
  clear H
  rintro left pf w ⟨i, hi, hpf, H⟩
  refine W_keep hpf ?_
  clear hpf
  have hcnt : refsD (cs.take i) q ≤ i := by have := List.countP_le_length (p := fun c : Cell => decide (c.s.place = q)) (l := cs.take i); unfold refsD; simp at this; omega
  refine W_seq_k fun K5 hK5 => ?_
  refine W_seq_k fun K6 hK6 => ?_
  refine W_reg rfl ?_
  refine RL_some ?_; (refine X_move rfl ?_)
  refine RL_some ?_; (refine X_fieldAddr T.fd51_1 rfl ?_)
  refine RL_some ?_; (refine S_load1 H 1 T.ty49 rfl rfl (v := .slice ad cs.length cap) rfl ?_)
  refine RL_some ?_; (refine X_len T.sl49 rfl ?_)
  refine RL_some ?_; (first | refine X_cmp_t rfl rfl rfl (by first | assumption | omega) ?_ | refine X_cmp_f rfl rfl rfl (by first | assumption | omega) ?_ | refine X_bin rfl rfl rfl ?_)
  refine hK6 _ _ (W_keep (Keep.cons 2 rfl (Keep.cons 3 rfl (Keep.cons 5 rfl (Keep.cons 6 rfl (Keep.cons 11 rfl Keep.nil))))) ?_)
  refine W_if rfl (fun c => ?_) (fun c => ?_)
  · skip
    refine W_skip ?_
    refine hK5 _ _ (W_keep (Keep.cons 2 rfl (Keep.cons 3 rfl (Keep.cons 5 rfl (Keep.cons 6 rfl (Keep.cons 11 rfl Keep.nil))))) ?_)
    refine W_seq_k fun K7 hK7 => ?_
    refine W_block ?_
    refine W_seq_k fun K8 hK8 => ?_
    have c := of_decide_eq_true c
    obtain ⟨x, hx⟩ : ∃ x, cs[i]? = some x := ⟨_, List.getElem?_eq_getElem (by omega)⟩
    obtain ⟨g, cap', hv, _⟩ := H.tabPos' 2 rfl (by omega)
    simp only [Value.slice.injEq] at hv
    obtain ⟨rfl, _, rfl⟩ := hv
    refine W_draw (.p 0 (.p 1 (.p 2 (.p 3 (.p 4 (.p 5 (.p 6 (.p 7 (.p 8 .nil))))))))) T.mixed rfl ?_
    replace H := H.drew
    apply DD_pure rfl rfl; next => (intro _; refine X_fieldAddr T.fd51_1 rfl ⟨rfl, rfl⟩)
    apply DD_read rfl rfl; next => (refine S_load1 H 1 T.ty49 rfl rfl (v := sl g 0 cs.length cap) rfl ⟨rfl, rfl⟩)
    apply DD_pure rfl rfl; next => (intro _; refine X_move rfl ⟨rfl, rfl⟩)
    apply DD_pure rfl rfl; next => (intro _; refine X_idx T.sl49 rfl rfl (by omega) (by omega) ⟨rfl, rfl⟩)
    apply DD_pure rfl rfl; next => (intro _; refine X_fieldAddr T.fd63_2 rfl ⟨rfl, rfl⟩)
    apply DD_pure rfl rfl; next => (intro _; refine X_fieldAddr T.fd32_0 rfl ⟨rfl, rfl⟩)
    apply DD_read rfl rfl; next => (refine S_loadT H 2 T.ty23 rfl cell_len rfl (j := i) (o := 2) (by omega) hx (by decide) (l := x.s.place.enc) rfl ⟨rfl, rfl⟩)
    apply DD_read rfl rfl; next => (refine S_load H 0 T.ty23 rfl rfl (l := q.enc) rfl (Nat.le_of_ble_eq_true rfl) ⟨rfl, rfl⟩)
    apply DD_pure rfl rfl; next => (intro _; refine X_eqS T.eg23 (pl_eq 9998 x.s.place q) rfl rfl ⟨rfl, rfl⟩)
    refine hK8 _ _ (W_keep (Keep.cons 2 rfl (Keep.cons 3 rfl (Keep.cons 5 rfl (Keep.cons 6 rfl (Keep.cons 22 rfl Keep.nil))))) ?_)
    refine W_if rfl (fun d => ?_) (fun d => ?_)
    · skip
      have d := of_decide_eq_true d
      refine W_reg rfl ?_
      refine RL_some ?_; (refine X_move rfl ?_)
      refine RL_some ?_; (first | refine X_int rfl rfl rfl (by omega) ?_ | refine X_bin rfl rfl rfl ?_)
      refine RL_some ?_; (refine X_assign rfl ?_)
      refine hK7 _ _ (W_keep (Keep.cons 2 rfl (Keep.cons 3 rfl (Keep.cons 5 rfl (Keep.cons 6 rfl Keep.nil)))) ?_)
      refine W_reg rfl ?_
      refine RL_some ?_; (refine X_move rfl ?_)
      refine RL_some ?_; (first | refine X_int rfl rfl rfl (by omega) ?_ | refine X_bin rfl rfl rfl ?_)
      refine RL_some ?_; (refine X_assign rfl ?_)
      refine ⟨left - 1, by omega, i + 1, by omega, ?_, H⟩
      rw [refsD_take cs q i hx, if_pos d]
      exact (Keep.cons 2 rfl (Keep.cons 3 rfl (Keep.cons 5 rfl (Keep.cons 6 rfl Keep.nil))))
    refine W_skip ?_
    refine hK7 _ _ (W_keep (Keep.cons 2 rfl (Keep.cons 3 rfl (Keep.cons 5 rfl (Keep.cons 6 rfl (Keep.cons 22 rfl Keep.nil))))) ?_)
    refine W_reg rfl ?_
    refine RL_some ?_; (refine X_move rfl ?_)
    refine RL_some ?_; (first | refine X_int rfl rfl rfl (by omega) ?_ | refine X_bin rfl rfl rfl ?_)
    refine RL_some ?_; (refine X_assign rfl ?_)
    have d := of_decide_eq_false d
    refine ⟨left - 1, by omega, i + 1, by omega, ?_, H⟩
    rw [refsD_take cs q i hx, if_neg d]
    exact (Keep.cons 2 rfl (Keep.cons 3 rfl (Keep.cons 5 rfl (Keep.cons 6 rfl Keep.nil))))
  refine W_exit ?_
  refine hK3 _ _ (W_keep (Keep.cons 2 rfl (Keep.cons 3 rfl (Keep.cons 5 rfl (Keep.cons 6 rfl (Keep.cons 11 rfl Keep.nil))))) ?_)
  refine W_seq_k fun K9 hK9 => ?_
  have c := of_decide_eq_false c
  obtain rfl : i = cs.length := by omega
  rw [List.take_length]
  refine W_reg rfl ?_
  refine RL_some ?_; (refine X_move rfl ?_)
  refine RL_some ?_; (refine X_assign rfl ?_)
  refine hK9 _ _ (W_keep (Keep.cons 4 rfl Keep.nil) ?_)
  refine W_ret ?_
  (try simp only [thenQ, blockQ, noGotoQ])
  refine body_tmp (.inr rfl) rfl rfl ?_
  exact ⟨rfl, H.drop.drop⟩

def aheadP (a b : Pl) : Bool := decide (a.b < b.b ∨ a.b = b.b ∧ a.p < b.p)
theorem ahead_spec (a b : Pl) {w0 w : World} {L : List Asn} (H : St w0 w L) :
    Calls Try.prog 48 #[pk a, pk b] w (After fun r w' => r = .bool (aheadP a b) ∧ St w0 w' L) := by
  refine calls_of_W (N := 24) (args := [pk a, pk b]) Try.func48 rfl Try.ntmps48 (by simp) ?_
  refine W_seq_k fun K1 hK1 => ?_
  refine W_reg rfl ?_
  refine RL_some ?_; (refine S_box H rfl ?_; intro b2 w H)
  refine RL_some ?_; (refine S_box H rfl ?_; intro b3 w H)
  refine RL_some ?_; (refine X_assign rfl ?_)
  refine hK1 _ _ (W_keep (Keep.cons 2 rfl (Keep.cons 3 rfl Keep.nil)) ?_)
  refine W_seq_k fun K2 hK2 => ?_
  refine W_boolR 4 (a.b < b.b ∨ a.b = b.b ∧ a.p < b.p) [] H ?_ ?_
  · rcases (by omega : a.b < b.b ∨ (¬ a.b < b.b ∧ a.b = b.b) ∨ (¬ a.b < b.b ∧ ¬ a.b = b.b)) with e1 | ⟨e1, e2⟩ | ⟨e1, e2⟩
    all_goals
      refine W_reg rfl ?_
      refine RL_some ?_; (refine X_fieldAddr T.fd23_0 rfl ?_)
      refine RL_some ?_; (refine S_load1 H 1 T.ty3 rfl rfl (v := i64 a.b) rfl ?_)
      refine RL_some ?_; (refine X_fieldAddr T.fd23_0 rfl ?_)
      refine RL_some ?_; (refine S_load1 H 0 T.ty3 rfl rfl (v := i64 b.b) rfl ?_)
      refine RL_some ?_; (first | refine X_cmp_t rfl rfl rfl (by first | assumption | omega) ?_ | refine X_cmp_f rfl rfl rfl (by first | assumption | omega) ?_ | refine X_bin rfl rfl rfl ?_)
      refine RL_some ?_; (refine X_move rfl ?_)
      (first | refine RL_off rfl rfl ?_ | refine RL_off' rfl rfl ?_ | (refine RL_on rfl rfl ?_; (refine X_fieldAddr T.fd23_0 rfl ?_)))
      (first | refine RL_off rfl rfl ?_ | refine RL_off' rfl rfl ?_ | (refine RL_on rfl rfl ?_; (refine S_load1 H 1 T.ty3 rfl rfl (v := i64 a.b) rfl ?_)))
      (first | refine RL_off rfl rfl ?_ | refine RL_off' rfl rfl ?_ | (refine RL_on rfl rfl ?_; (refine X_fieldAddr T.fd23_0 rfl ?_)))
      (first | refine RL_off rfl rfl ?_ | refine RL_off' rfl rfl ?_ | (refine RL_on rfl rfl ?_; (refine S_load1 H 0 T.ty3 rfl rfl (v := i64 b.b) rfl ?_)))
      (first | refine RL_off rfl rfl ?_ | refine RL_off' rfl rfl ?_ | (refine RL_on rfl rfl ?_; (first | refine X_cmp_t rfl rfl rfl (by first | assumption | omega) ?_ | refine X_cmp_f rfl rfl rfl (by first | assumption | omega) ?_ | refine X_bin rfl rfl rfl ?_)))
      (first | refine RL_off rfl rfl ?_ | refine RL_off' rfl rfl ?_ | (refine RL_on rfl rfl ?_; (refine X_move rfl ?_)))
      (first | refine RL_off rfl rfl ?_ | refine RL_off' rfl rfl ?_ | (refine RL_on rfl rfl ?_; (refine X_fieldAddr T.fd23_1 rfl ?_)))
      (first | refine RL_off rfl rfl ?_ | refine RL_off' rfl rfl ?_ | (refine RL_on rfl rfl ?_; (refine S_load1 H 1 T.ty3 rfl rfl (v := i64 a.p) rfl ?_)))
      (first | refine RL_off rfl rfl ?_ | refine RL_off' rfl rfl ?_ | (refine RL_on rfl rfl ?_; (refine X_fieldAddr T.fd23_1 rfl ?_)))
      (first | refine RL_off rfl rfl ?_ | refine RL_off' rfl rfl ?_ | (refine RL_on rfl rfl ?_; (refine S_load1 H 0 T.ty3 rfl rfl (v := i64 b.p) rfl ?_)))
      (first | refine RL_off rfl rfl ?_ | refine RL_off' rfl rfl ?_ | (refine RL_on rfl rfl ?_; (first | refine X_cmp_t rfl rfl rfl (by first | assumption | omega) ?_ | refine X_cmp_f rfl rfl rfl (by first | assumption | omega) ?_ | refine X_bin rfl rfl rfl ?_)))
      (first | refine RL_off rfl rfl ?_ | refine RL_off' rfl rfl ?_ | (refine RL_on rfl rfl ?_; (refine X_pick rfl rfl ?_)))
      refine RL_some ?_; (refine X_pick rfl rfl ?_)
      refine RL_some ?_; (refine X_assign rfl ?_)
      exact ⟨_, by first | (simp [e1]; done) | (simp [e1, e2]; done) | (simp; omega), rfl, trivial, H⟩
  intro q w hq H
  skip
  refine hK2 _ _ (W_keep (Keep.cons 4 rfl Keep.nil) ?_)
  refine W_ret ?_
  (try simp only [thenQ, blockQ, noGotoQ])
  refine body_tmp (.inr rfl) rfl rfl ?_
  refine ⟨?_, H.drop.drop⟩
  rw [show q = aheadP a b by rw [Bool.eq_iff_iff, hq]; simp [aheadP]]
end Go.Proofs.Ytinngnckojbpnaa
