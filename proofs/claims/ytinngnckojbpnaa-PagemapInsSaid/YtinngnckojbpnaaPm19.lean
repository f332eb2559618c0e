import Derived.Test.YtinngnckojbpnaaPm18
/-! pagemap: the document's map: Put, Drop, Move, Data. -/
namespace Go.Proofs.Ytinngnckojbpnaa
open Go.Nep
set_option maxRecDepth 100000
set_option linter.unusedVariables false
set_option linter.unusedSimpArgs false
set_option maxHeartbeats 1600000

abbrev nilS : Value := .slice none 0 0
abbrev z0 : Z4 := ⟨0, 0, 0, 0⟩
abbrev zl (z : Z4) (v : Value) : List Value := [i64 z.a, i64 z.b, i64 z.c, i64 z.d, v]
theorem dmc_set (z : Z4) (v : Value) (x : Int) {k : Nat} (hk : k < 4) : splice (dmc z v) k [i64 x] = dmc (z.set k x) v := by
  obtain rfl | rfl | rfl | rfl : k = 0 ∨ k = 1 ∨ k = 2 ∨ k = 3 := by omega
  all_goals rfl

def updC (s : Spot) (c : Cell) : Cell := if (c.ns = s.head.ns ∧ s.head.lba ≤ c.lba ∧ c.lba < s.head.lba + s.head.count) ∧ newer s c.s = true then { c with s := s } else c
def addD (cs : List Cell) (s : Spot) : Nat → List Cell
  | 0 => []
  | i + 1 => addD cs s i ++ if placeD cs s.head.ns (s.head.lba + i) < 0 then [⟨s.head.ns, s.head.lba + i, s⟩] else []
def putD (cs : List Cell) (s : Spot) : List Cell := cs.map (updC s) ++ addD cs s s.head.count.toNat
theorem addD_len (cs : List Cell) (s : Spot) (i : Nat) : (addD cs s i).length ≤ i := by
  induction i with
  | zero => simp [addD]
  | succ i ih => unfold addD; rw [List.length_append]; split <;> simp <;> omega
theorem map_take {α β : Type} (f : α → β) (l : List α) (i : Nat) {x : α} (h : l[i]? = some x) : (l.take (i + 1)).map f = (l.take i).map f ++ [f x] := by
  rw [List.take_add_one, h]; simp

theorem rPut_spec (z : Z4) (v : Value) (cs : List Cell) (s : Spot) (hz : z.ok) (hok : s.head.ok) (hr : rightD z s) (hlen : cs.length ≤ 500000) {w0 w : World} {L : List Asn} (H : St w0 w (CT v cs :: L)) :
    Calls Try.prog 36 #[.agg (dmc z v), .agg s.enc.toArray] w (After fun r w' => ∃ v' u, r = .tuple #[.agg (dmc z v'), u] ∧ St w0 w' (PT u (goneL (putD cs s) cs) :: CT v' (putD cs s) :: CT v cs :: L)) := by
  have hzr := hz.rng s.head.ns.toNat
  obtain ⟨hl0, hl1⟩ := hok
  obtain ⟨hn0, hn1, hkind, hc1, hc2, hl2⟩ := hr
  obtain ⟨ad, cap, rfl, _⟩ := H.tabVal
  refine calls_of_W (N := 107) (args := [.agg (dmc z (.slice ad cs.length cap)), .agg s.enc.toArray]) Try.func36 rfl Try.ntmps36 (by simp) ?_
  refine W_seq_k fun K1 hK1 => ?_
  refine W_reg rfl ?_
  refine RL_some ?_; (refine S_box H rfl ?_; intro b2 w H)
  refine RL_some ?_; (refine S_box H rfl ?_; intro b3 w H)
  refine RL_some ?_; (refine S_alloc H T.ze51 ?_; intro b4 w H)
  refine RL_some ?_; (refine X_assign rfl ?_)
  refine hK1 _ _ (W_keep (Keep.cons 2 rfl (Keep.cons 3 rfl (Keep.cons 4 rfl Keep.nil))) ?_)
  refine W_seq_k fun K2 hK2 => ?_
  refine W_reg rfl ?_
  refine RL_some ?_; (refine X_fieldAddr T.fd51_0 rfl ?_)
  refine RL_some ?_; (refine S_load H 2 T.ty48 rfl rfl (l := [i64 z.a, i64 z.b, i64 z.c, i64 z.d]) rfl (Nat.le_of_ble_eq_true rfl) ?_)
  refine RL_some ?_; (refine X_build (cells := dmc z nilS) T.sh51 T.ze51 rfl (fill_put rfl rfl (Nat.le_of_ble_eq_true rfl) rfl rfl) ?_)
  refine RL_some ?_; (refine S_alloc H T.ze51 ?_; intro b6 w H)
  refine RL_none ?_; ((refine S_store H 0 T.ty51 rfl rfl rfl rfl (Nat.le_of_ble_eq_true rfl) rfl (c' := dmc z nilS) rfl ?_; intro w H))
  refine hK2 _ _ (W_keep (Keep.cons 2 rfl (Keep.cons 3 rfl (Keep.cons 4 rfl (Keep.cons 6 rfl Keep.nil)))) ?_)
  refine W_seq_k fun K3 hK3 => ?_
  refine W_seq_k fun K4 hK4 => ?_
  refine W_reg rfl ?_
  refine RL_some ?_; (refine X_assign rfl ?_)
  refine hK4 _ _ (W_keep (Keep.cons 2 rfl (Keep.cons 3 rfl (Keep.cons 4 rfl (Keep.cons 6 rfl (Keep.cons 7 rfl Keep.nil))))) ?_)
  refine W_block ?_
  refine W_loop (fun left pf w => ∃ i vo, i + left = cs.length ∧ Keep pf [(2, pt b2 0), (3, pt b3 0), (4, pt b4 0), (6, pt b6 0), (7, i64 i)] ∧ St w0 w (CT vo ((cs.take i).map (updC s)) :: Cs b6 (dmc z vo) 51 :: Cs b4 (dmc z0 nilS) 51 :: Cs b3 s.enc.toArray 32 :: Cs b2 (dmc z (.slice ad cs.length cap)) 51 :: CT (.slice ad cs.length cap) cs :: L)) (cs.length) ?_ ?_
  · skip
    exact ⟨0, nilS, by omega, (Keep.cons 2 rfl (Keep.cons 3 rfl (Keep.cons 4 rfl (Keep.cons 6 rfl (Keep.cons 7 rfl Keep.nil))))), H.tabNil⟩
  clear H
  rintro left pf w ⟨i, vo, hi, hpf, H⟩
  refine W_keep hpf ?_
  clear hpf
  refine W_seq_k fun K5 hK5 => ?_
  refine W_seq_k fun K6 hK6 => ?_
  refine W_reg rfl ?_
  refine RL_some ?_; (refine X_move rfl ?_)
  refine RL_some ?_; (refine X_fieldAddr T.fd51_1 rfl ?_)
  refine RL_some ?_; (refine S_load1 H 4 T.ty49 rfl rfl (v := .slice ad cs.length cap) rfl ?_)
  refine RL_some ?_; (refine X_len T.sl49 rfl ?_)
  refine RL_some ?_; (first | refine X_cmp_t rfl rfl rfl (by first | assumption | omega) ?_ | refine X_cmp_f rfl rfl rfl (by first | assumption | omega) ?_ | refine X_bin rfl rfl rfl ?_)
  refine hK6 _ _ (W_keep (Keep.cons 2 rfl (Keep.cons 3 rfl (Keep.cons 4 rfl (Keep.cons 6 rfl (Keep.cons 7 rfl (Keep.cons 18 rfl Keep.nil)))))) ?_)
  refine W_if rfl (fun c => ?_) (fun c => ?_)
  · skip
    refine W_skip ?_
    refine hK5 _ _ (W_keep (Keep.cons 2 rfl (Keep.cons 3 rfl (Keep.cons 4 rfl (Keep.cons 6 rfl (Keep.cons 7 rfl (Keep.cons 18 rfl Keep.nil)))))) ?_)
    refine W_seq_k fun K7 hK7 => ?_
    refine W_block ?_
    refine W_seq_k fun K8 hK8 => ?_
    have c := of_decide_eq_true c
    obtain ⟨x, hx⟩ : ∃ x, cs[i]? = some x := ⟨_, List.getElem?_eq_getElem (by omega)⟩
    obtain ⟨g, cap', hv, _⟩ := H.tabPos' 5 rfl (by omega)
    simp only [Value.slice.injEq] at hv
    obtain ⟨rfl, _, rfl⟩ := hv
    refine W_reg rfl ?_
    refine RL_some ?_; (refine X_fieldAddr T.fd51_1 rfl ?_)
    refine RL_some ?_; (refine S_load1 H 4 T.ty49 rfl rfl (v := sl g 0 cs.length cap) rfl ?_)
    refine RL_some ?_; (refine X_move rfl ?_)
    refine RL_some ?_; (refine X_idx T.sl49 rfl rfl (by omega) (by omega) ?_)
    refine RL_some ?_; (refine S_loadT H 5 T.ty63 rfl cell_len rfl (j := i) (o := 0) (by omega) hx (by decide) (l := x.enc) rfl ?_)
    refine RL_some ?_; (refine S_alloc H T.ze63 ?_; intro b8 w H)
    refine RL_none ?_; ((refine S_store H 0 T.ty63 rfl rfl rfl rfl (Nat.le_of_ble_eq_true rfl) rfl (c' := x.enc.toArray) rfl ?_; intro w H))
    refine hK8 _ _ (W_keep (Keep.cons 2 rfl (Keep.cons 3 rfl (Keep.cons 4 rfl (Keep.cons 6 rfl (Keep.cons 7 rfl (Keep.cons 8 rfl Keep.nil)))))) ?_)
    refine W_seq_k fun K9 hK9 => ?_
    refine W_boolR 9 (x.ns = s.head.ns ∧ s.head.lba ≤ x.lba ∧ x.lba < s.head.lba + s.head.count) [2, 3, 4, 6, 7, 8] H ?_ ?_
    · rcases (by omega : ¬ x.ns = s.head.ns ∨ (x.ns = s.head.ns ∧ ¬ s.head.lba ≤ x.lba) ∨ (x.ns = s.head.ns ∧ s.head.lba ≤ x.lba)) with e | ⟨e, e2⟩ | ⟨e, e2⟩
      all_goals
        refine W_reg rfl ?_
        refine RL_some ?_; (refine X_fieldAddr T.fd63_0 rfl ?_)
        refine RL_some ?_; (refine S_load1 H 0 T.ty3 rfl rfl (v := i64 x.ns) rfl ?_)
        refine RL_some ?_; (refine X_fieldAddr T.fd32_1 rfl ?_)
        refine RL_some ?_; (refine X_fieldAddr T.fd27_1 rfl ?_)
        refine RL_some ?_; (refine S_load1 H 4 T.ty3 rfl rfl (v := i64 s.head.ns) rfl ?_)
        refine RL_some ?_; (first | refine X_cmp_t rfl rfl rfl (by first | assumption | omega) ?_ | refine X_cmp_f rfl rfl rfl (by first | assumption | omega) ?_ | refine X_bin rfl rfl rfl ?_)
        refine RL_some ?_; (refine X_move rfl ?_)
        (first | refine RL_off rfl rfl ?_ | refine RL_off' rfl rfl ?_ | (refine RL_on rfl rfl ?_; (refine X_fieldAddr T.fd63_1 rfl ?_)))
        (first | refine RL_off rfl rfl ?_ | refine RL_off' rfl rfl ?_ | (refine RL_on rfl rfl ?_; (refine S_load1 H 0 T.ty3 rfl rfl (v := i64 x.lba) rfl ?_)))
        (first | refine RL_off rfl rfl ?_ | refine RL_off' rfl rfl ?_ | (refine RL_on rfl rfl ?_; (refine X_fieldAddr T.fd32_1 rfl ?_)))
        (first | refine RL_off rfl rfl ?_ | refine RL_off' rfl rfl ?_ | (refine RL_on rfl rfl ?_; (refine X_fieldAddr T.fd27_3 rfl ?_)))
        (first | refine RL_off rfl rfl ?_ | refine RL_off' rfl rfl ?_ | (refine RL_on rfl rfl ?_; (refine S_load1 H 4 T.ty24 rfl rfl (v := .int .u32 s.head.lba) rfl ?_)))
        (first | refine RL_off rfl rfl ?_ | refine RL_off' rfl rfl ?_ | (refine RL_on rfl rfl ?_; (refine X_conv T.in24 T.in3 rfl ?_; rw [wrap64_in ⟨by omega, by omega⟩])))
        (first | refine RL_off rfl rfl ?_ | refine RL_off' rfl rfl ?_ | (refine RL_on rfl rfl ?_; (first | refine X_cmp_t rfl rfl rfl (by first | assumption | omega) ?_ | refine X_cmp_f rfl rfl rfl (by first | assumption | omega) ?_ | refine X_bin rfl rfl rfl ?_)))
        refine RL_some ?_; (refine X_pick rfl rfl ?_)
        refine RL_some ?_; (refine X_move rfl ?_)
        (first | refine RL_off rfl rfl ?_ | refine RL_off' rfl rfl ?_ | (refine RL_on rfl rfl ?_; (refine X_fieldAddr T.fd63_1 rfl ?_)))
        (first | refine RL_off rfl rfl ?_ | refine RL_off' rfl rfl ?_ | (refine RL_on rfl rfl ?_; (refine S_load1 H 0 T.ty3 rfl rfl (v := i64 x.lba) rfl ?_)))
        (first | refine RL_off rfl rfl ?_ | refine RL_off' rfl rfl ?_ | (refine RL_on rfl rfl ?_; (refine X_fieldAddr T.fd32_1 rfl ?_)))
        (first | refine RL_off rfl rfl ?_ | refine RL_off' rfl rfl ?_ | (refine RL_on rfl rfl ?_; (refine X_fieldAddr T.fd27_3 rfl ?_)))
        (first | refine RL_off rfl rfl ?_ | refine RL_off' rfl rfl ?_ | (refine RL_on rfl rfl ?_; (refine S_load1 H 4 T.ty24 rfl rfl (v := .int .u32 s.head.lba) rfl ?_)))
        (first | refine RL_off rfl rfl ?_ | refine RL_off' rfl rfl ?_ | (refine RL_on rfl rfl ?_; (refine X_conv T.in24 T.in3 rfl ?_; rw [wrap64_in ⟨by omega, by omega⟩])))
        (first | refine RL_off rfl rfl ?_ | refine RL_off' rfl rfl ?_ | (refine RL_on rfl rfl ?_; (refine X_fieldAddr T.fd32_1 rfl ?_)))
        (first | refine RL_off rfl rfl ?_ | refine RL_off' rfl rfl ?_ | (refine RL_on rfl rfl ?_; (refine X_fieldAddr T.fd27_2 rfl ?_)))
        (first | refine RL_off rfl rfl ?_ | refine RL_off' rfl rfl ?_ | (refine RL_on rfl rfl ?_; (refine S_load1 H 4 T.ty3 rfl rfl (v := i64 s.head.count) rfl ?_)))
        (first | refine RL_off rfl rfl ?_ | refine RL_off' rfl rfl ?_ | (refine RL_on rfl rfl ?_; (first | refine X_int rfl rfl rfl (by omega) ?_ | refine X_bin rfl rfl rfl ?_)))
        (first | refine RL_off rfl rfl ?_ | refine RL_off' rfl rfl ?_ | (refine RL_on rfl rfl ?_; (first | refine X_cmp_t rfl rfl rfl (by first | assumption | omega) ?_ | refine X_cmp_f rfl rfl rfl (by first | assumption | omega) ?_ | refine X_bin rfl rfl rfl ?_)))
        refine RL_some ?_; (refine X_pick rfl rfl ?_)
        refine RL_some ?_; (refine X_assign rfl ?_)
        exact ⟨_, by first | (simp [e]; done) | (simp [e, e2]; done) | (simp; omega), rfl, ⟨rfl, rfl, rfl, rfl, rfl, rfl, trivial⟩, H⟩
    intro q w hq H
    skip
    refine hK9 _ _ (W_keep (Keep.cons 2 rfl (Keep.cons 3 rfl (Keep.cons 4 rfl (Keep.cons 6 rfl (Keep.cons 7 rfl (Keep.cons 8 rfl (Keep.cons 9 rfl Keep.nil))))))) ?_)
    refine W_seq_k fun K10 hK10 => ?_
    refine W_seq_k fun K11 hK11 => ?_
    refine W_boolR 60 (q = true ∧ newer s x.s = true) [2, 3, 4, 6, 7, 8] H ?_ ?_
    · cases q
      all_goals
        refine W_reg rfl ?_
        refine RL_some ?_; (refine X_move rfl ?_)
        refine RL_some ?_; (refine X_move rfl ?_)
        (first | refine RL_off rfl rfl ?_ | refine RL_off' rfl rfl ?_ | (refine RL_on rfl rfl ?_; (refine S_load H 4 T.ty32 rfl rfl (l := s.enc) rfl (Nat.le_of_ble_eq_true rfl) ?_)))
        (first | refine RL_off rfl rfl ?_ | refine RL_off' rfl rfl ?_ | (refine RL_on rfl rfl ?_; (refine X_fieldAddr T.fd63_2 rfl ?_)))
        (first | refine RL_off rfl rfl ?_ | refine RL_off' rfl rfl ?_ | (refine RL_on rfl rfl ?_; (refine S_load H 0 T.ty32 rfl rfl (l := x.s.enc) rfl (Nat.le_of_ble_eq_true rfl) ?_)))
        (first | refine RL_off rfl rfl ?_ | refine RL_off' rfl rfl ?_ | (refine RL_on rfl rfl ?_; (refine X_call T.ent9 rfl ?_; refine rNewer_calls s x.s H rfl ?_; intro w H)))
        refine RL_some ?_; (refine X_pick rfl rfl ?_)
        exact ⟨_, by simp, rfl, ⟨rfl, rfl, rfl, rfl, rfl, rfl, trivial⟩, H⟩
    intro q2 w hq2 H
    skip
    refine hK11 _ _ (W_keep (Keep.cons 2 rfl (Keep.cons 3 rfl (Keep.cons 4 rfl (Keep.cons 6 rfl (Keep.cons 7 rfl (Keep.cons 8 rfl (Keep.cons 60 rfl Keep.nil))))))) ?_)
    refine W_if rfl (fun d => ?_) (fun d => ?_)
    · skip
      refine W_reg rfl ?_
      refine RL_some ?_; (refine S_load H 4 T.ty32 rfl rfl (l := s.enc) rfl (Nat.le_of_ble_eq_true rfl) ?_)
      refine RL_some ?_; (refine X_fieldAddr T.fd63_2 rfl ?_)
      refine RL_none ?_; ((refine S_store H 0 T.ty32 rfl rfl rfl rfl (Nat.le_of_ble_eq_true rfl) rfl (c' := (⟨x.ns, x.lba, s⟩ : Cell).enc.toArray) rfl ?_; intro w H))
      refine hK10 _ _ (W_keep (Keep.cons 2 rfl (Keep.cons 3 rfl (Keep.cons 4 rfl (Keep.cons 6 rfl (Keep.cons 7 rfl (Keep.cons 8 rfl Keep.nil)))))) ?_)
      obtain ⟨y, hy, H⟩ : ∃ y, y = updC s x ∧ St w0 w (Cs b8 y.enc.toArray 63 :: CT vo ((cs.take i).map (updC s)) :: Cs b6 (dmc z vo) 51 :: Cs b4 (dmc z0 nilS) 51 :: Cs b3 s.enc.toArray 32 :: Cs b2 (dmc z (sl g 0 cs.length cap)) 51 :: CT (sl g 0 cs.length cap) cs :: L) := by
        first
        | exact ⟨⟨x.ns, x.lba, s⟩, by unfold updC; rw [if_pos ⟨hq.1 (hq2.1 d).1, (hq2.1 d).2⟩], H⟩
        | exact ⟨x, by unfold updC; rw [if_neg fun h => by rw [hq2.2 ⟨hq.2 h.1, h.2⟩] at d; cases d], H⟩
      refine W_reg rfl ?_
      refine RL_some ?_; (refine X_fieldAddr T.fd51_1 rfl ?_)
      refine RL_some ?_; (refine S_load1 H 2 T.ty49 rfl rfl (v := vo) rfl ?_)
      refine RL_some ?_; (refine S_load H 0 T.ty63 rfl rfl (l := y.enc) rfl (Nat.le_of_ble_eq_true rfl) ?_)
      refine RL_some ?_; (refine S_lit1T (enc := Cell.enc) (a := y) H T.sl49 T.ze63 rfl rfl rfl rfl (by decide) (by decide) ?_; intro bl w H)
      refine RL_some ?_; (refine S_appendTT H 2 0 T.sl49 T.ze63 rfl (by decide) rfl rfl rfl rfl (cells_one _) (by simp; omega) (by simp; omega) ?_; intro vn w H)
      refine RL_some ?_; (refine X_fieldAddr T.fd51_1 rfl ?_)
      refine RL_none ?_; ((refine S_storeV H 3 T.ty49 rfl rfl rfl H.tabSl (Nat.le_of_ble_eq_true rfl) (c' := dmc z vn) rfl ?_; intro w H))
      refine hK7 _ _ (W_keep (Keep.cons 2 rfl (Keep.cons 3 rfl (Keep.cons 4 rfl (Keep.cons 6 rfl (Keep.cons 7 rfl Keep.nil))))) ?_)
      refine W_reg rfl ?_
      refine RL_some ?_; (refine X_move rfl ?_)
      refine RL_some ?_; (first | refine X_int rfl rfl rfl (by omega) ?_ | refine X_bin rfl rfl rfl ?_)
      refine RL_some ?_; (refine X_assign rfl ?_)
      refine ⟨left - 1, by omega, i + 1, vn, by omega, (Keep.cons 2 rfl (Keep.cons 3 rfl (Keep.cons 4 rfl (Keep.cons 6 rfl (Keep.cons 7 rfl Keep.nil))))), ?_⟩
      rw [map_take _ _ _ hx, ← hy]
      exact H.swap.drop.swap.drop
    refine W_skip ?_
    refine hK10 _ _ (W_keep (Keep.cons 2 rfl (Keep.cons 3 rfl (Keep.cons 4 rfl (Keep.cons 6 rfl (Keep.cons 7 rfl (Keep.cons 8 rfl (Keep.cons 60 rfl Keep.nil))))))) ?_)
    obtain ⟨y, hy, H⟩ : ∃ y, y = updC s x ∧ St w0 w (Cs b8 y.enc.toArray 63 :: CT vo ((cs.take i).map (updC s)) :: Cs b6 (dmc z vo) 51 :: Cs b4 (dmc z0 nilS) 51 :: Cs b3 s.enc.toArray 32 :: Cs b2 (dmc z (sl g 0 cs.length cap)) 51 :: CT (sl g 0 cs.length cap) cs :: L) := by
      first
      | exact ⟨⟨x.ns, x.lba, s⟩, by unfold updC; rw [if_pos ⟨hq.1 (hq2.1 d).1, (hq2.1 d).2⟩], H⟩
      | exact ⟨x, by unfold updC; rw [if_neg fun h => by rw [hq2.2 ⟨hq.2 h.1, h.2⟩] at d; cases d], H⟩
    refine W_reg rfl ?_
    refine RL_some ?_; (refine X_fieldAddr T.fd51_1 rfl ?_)
    refine RL_some ?_; (refine S_load1 H 2 T.ty49 rfl rfl (v := vo) rfl ?_)
    refine RL_some ?_; (refine S_load H 0 T.ty63 rfl rfl (l := y.enc) rfl (Nat.le_of_ble_eq_true rfl) ?_)
    refine RL_some ?_; (refine S_lit1T (enc := Cell.enc) (a := y) H T.sl49 T.ze63 rfl rfl rfl rfl (by decide) (by decide) ?_; intro bl w H)
    refine RL_some ?_; (refine S_appendTT H 2 0 T.sl49 T.ze63 rfl (by decide) rfl rfl rfl rfl (cells_one _) (by simp; omega) (by simp; omega) ?_; intro vn w H)
    refine RL_some ?_; (refine X_fieldAddr T.fd51_1 rfl ?_)
    refine RL_none ?_; ((refine S_storeV H 3 T.ty49 rfl rfl rfl H.tabSl (Nat.le_of_ble_eq_true rfl) (c' := dmc z vn) rfl ?_; intro w H))
    refine hK7 _ _ (W_keep (Keep.cons 2 rfl (Keep.cons 3 rfl (Keep.cons 4 rfl (Keep.cons 6 rfl (Keep.cons 7 rfl Keep.nil))))) ?_)
    refine W_reg rfl ?_
    refine RL_some ?_; (refine X_move rfl ?_)
    refine RL_some ?_; (first | refine X_int rfl rfl rfl (by omega) ?_ | refine X_bin rfl rfl rfl ?_)
    refine RL_some ?_; (refine X_assign rfl ?_)
    refine ⟨left - 1, by omega, i + 1, vn, by omega, (Keep.cons 2 rfl (Keep.cons 3 rfl (Keep.cons 4 rfl (Keep.cons 6 rfl (Keep.cons 7 rfl Keep.nil))))), ?_⟩
    rw [map_take _ _ _ hx, ← hy]
    exact H.swap.drop.swap.drop
  refine W_exit ?_
  refine hK3 _ _ (W_keep (Keep.cons 2 rfl (Keep.cons 3 rfl (Keep.cons 4 rfl (Keep.cons 6 rfl (Keep.cons 7 rfl (Keep.cons 18 rfl Keep.nil)))))) ?_)
  refine W_seq_k fun K12 hK12 => ?_
  refine W_seq_k fun K13 hK13 => ?_
  have c := of_decide_eq_false c
  obtain rfl : i = cs.length := by omega
  rw [List.take_length] at H
  have hcc : ((s.head.count.toNat : Nat) : Int) = s.head.count := by omega
  refine W_reg rfl ?_
  refine RL_some ?_; (refine X_fieldAddr T.fd32_1 rfl ?_)
  refine RL_some ?_; (refine X_fieldAddr T.fd27_3 rfl ?_)
  refine RL_some ?_; (refine S_load1 H 3 T.ty24 rfl rfl (v := .int .u32 s.head.lba) rfl ?_)
  refine RL_some ?_; (refine X_conv T.in24 T.in3 rfl ?_; rw [wrap64_in ⟨by omega, by omega⟩])
  refine RL_some ?_; (refine X_assign rfl ?_)
  refine hK13 _ _ (W_keep (Keep.cons 2 rfl (Keep.cons 3 rfl (Keep.cons 4 rfl (Keep.cons 6 rfl (Keep.cons 10 rfl Keep.nil))))) ?_)
  refine W_block ?_
  refine W_loop (fun left pf w => ∃ (k : Nat) (vo : Value), k + left = s.head.count.toNat ∧ Keep pf [(2, pt b2 0), (3, pt b3 0), (4, pt b4 0), (6, pt b6 0), (10, i64 (s.head.lba + k))] ∧ St w0 w (CT vo (cs.map (updC s) ++ addD cs s k) :: Cs b6 (dmc z vo) 51 :: Cs b4 (dmc z0 nilS) 51 :: Cs b3 s.enc.toArray 32 :: Cs b2 (dmc z (.slice ad cs.length cap)) 51 :: CT (.slice ad cs.length cap) cs :: L)) (s.head.count.toNat) ?_ ?_
  · skip
    refine ⟨0, vo, by omega, ?_, by rw [addD, List.append_nil]; exact H⟩
    rw [show s.head.lba + ((0 : Nat) : Int) = s.head.lba by omega]
    exact (Keep.cons 2 rfl (Keep.cons 3 rfl (Keep.cons 4 rfl (Keep.cons 6 rfl (Keep.cons 10 rfl Keep.nil)))))
  clear H
  rintro left pf w ⟨k, vo2, hk, hpf, H⟩
  refine W_keep hpf ?_
  clear hpf
  have hal := addD_len cs s k
  refine W_seq_k fun K14 hK14 => ?_
  refine W_seq_k fun K15 hK15 => ?_
  refine W_reg rfl ?_
  refine RL_some ?_; (refine X_move rfl ?_)
  refine RL_some ?_; (refine X_fieldAddr T.fd32_1 rfl ?_)
  refine RL_some ?_; (refine X_fieldAddr T.fd27_3 rfl ?_)
  refine RL_some ?_; (refine S_load1 H 3 T.ty24 rfl rfl (v := .int .u32 s.head.lba) rfl ?_)
  refine RL_some ?_; (refine X_conv T.in24 T.in3 rfl ?_; rw [wrap64_in ⟨by omega, by omega⟩])
  refine RL_some ?_; (refine X_fieldAddr T.fd32_1 rfl ?_)
  refine RL_some ?_; (refine X_fieldAddr T.fd27_2 rfl ?_)
  refine RL_some ?_; (refine S_load1 H 3 T.ty3 rfl rfl (v := i64 s.head.count) rfl ?_)
  refine RL_some ?_; (first | refine X_int rfl rfl rfl (by omega) ?_ | refine X_bin rfl rfl rfl ?_)
  refine RL_some ?_; (first | refine X_cmp_t rfl rfl rfl (by first | assumption | omega) ?_ | refine X_cmp_f rfl rfl rfl (by first | assumption | omega) ?_ | refine X_bin rfl rfl rfl ?_)
  refine hK15 _ _ (W_keep (Keep.cons 2 rfl (Keep.cons 3 rfl (Keep.cons 4 rfl (Keep.cons 6 rfl (Keep.cons 10 rfl (Keep.cons 82 rfl Keep.nil)))))) ?_)
  refine W_if rfl (fun c2 => ?_) (fun c2 => ?_)
  · skip
    refine W_skip ?_
    refine hK14 _ _ (W_keep (Keep.cons 2 rfl (Keep.cons 3 rfl (Keep.cons 4 rfl (Keep.cons 6 rfl (Keep.cons 10 rfl (Keep.cons 82 rfl Keep.nil)))))) ?_)
    refine W_seq_k fun K16 hK16 => ?_
    refine W_block ?_
    refine W_seq_k fun K17 hK17 => ?_
    have c2 := of_decide_eq_true c2
    refine W_reg rfl ?_
    refine RL_some ?_; (refine S_load H 4 T.ty51 rfl rfl (l := zl z (.slice ad cs.length cap)) rfl (Nat.le_of_ble_eq_true rfl) ?_)
    refine RL_some ?_; (refine X_fieldAddr T.fd32_1 rfl ?_)
    refine RL_some ?_; (refine X_fieldAddr T.fd27_1 rfl ?_)
    refine RL_some ?_; (refine S_load1 H 3 T.ty3 rfl rfl (v := i64 s.head.ns) rfl ?_)
    refine RL_some ?_; (refine X_move rfl ?_)
    refine RL_some ?_; (refine X_call T.ent39 rfl (calls_to (rPlace_spec z _ cs s.head.ns (s.head.lba + k) (by omega) (H.foc 5 rfl)) ?_); rintro v w ⟨rfl, H⟩; replace H := H.back 5 (by simp))
    refine RL_some ?_; (first | refine X_cmp_t rfl rfl rfl (by first | assumption | omega) ?_ | refine X_cmp_f rfl rfl rfl (by first | assumption | omega) ?_ | refine X_bin rfl rfl rfl ?_)
    refine hK17 _ _ (W_keep (Keep.cons 2 rfl (Keep.cons 3 rfl (Keep.cons 4 rfl (Keep.cons 6 rfl (Keep.cons 10 rfl (Keep.cons 91 rfl Keep.nil)))))) ?_)
    refine W_if rfl (fun d => ?_) (fun d => ?_)
    · skip
      refine W_reg rfl ?_
      refine RL_some ?_; (refine X_fieldAddr T.fd51_1 rfl ?_)
      refine RL_some ?_; (refine S_load1 H 1 T.ty49 rfl rfl (v := vo2) rfl ?_)
      refine RL_some ?_; (refine X_fieldAddr T.fd32_1 rfl ?_)
      refine RL_some ?_; (refine X_fieldAddr T.fd27_1 rfl ?_)
      refine RL_some ?_; (refine S_load1 H 3 T.ty3 rfl rfl (v := i64 s.head.ns) rfl ?_)
      refine RL_some ?_; (refine X_move rfl ?_)
      refine RL_some ?_; (refine S_load H 3 T.ty32 rfl rfl (l := s.enc) rfl (Nat.le_of_ble_eq_true rfl) ?_)
      refine RL_some ?_; (refine X_build (cells := (⟨s.head.ns, s.head.lba + k, s⟩ : Cell).enc.toArray) T.sh63 T.ze63 rfl (fill_put rfl rfl (Nat.le_of_ble_eq_true rfl) rfl (fill_put rfl rfl (Nat.le_of_ble_eq_true rfl) rfl (fill_put rfl rfl (Nat.le_of_ble_eq_true rfl) rfl rfl))) ?_)
      refine RL_some ?_; (refine S_lit1T (enc := Cell.enc) (a := ⟨s.head.ns, s.head.lba + k, s⟩) H T.sl49 T.ze63 rfl rfl rfl rfl (by decide) (by decide) ?_; intro bl w H)
      refine RL_some ?_; (refine S_appendTT H 1 0 T.sl49 T.ze63 rfl (by decide) rfl rfl rfl rfl (cells_one _) (by simp; omega) (by simp; omega) ?_; intro vn w H)
      refine RL_some ?_; (refine X_fieldAddr T.fd51_1 rfl ?_)
      refine RL_none ?_; ((refine S_storeV H 2 T.ty49 rfl rfl rfl H.tabSl (Nat.le_of_ble_eq_true rfl) (c' := dmc z vn) rfl ?_; intro w H))
      refine hK16 _ _ (W_keep (Keep.cons 2 rfl (Keep.cons 3 rfl (Keep.cons 4 rfl (Keep.cons 6 rfl (Keep.cons 10 rfl Keep.nil))))) ?_)
      refine W_reg rfl ?_
      refine RL_some ?_; (refine X_move rfl ?_)
      refine RL_some ?_; (first | refine X_int rfl rfl rfl (by omega) ?_ | refine X_bin rfl rfl rfl ?_)
      refine RL_some ?_; (refine X_assign rfl ?_)
      refine ⟨left - 1, by omega, k + 1, vn, by omega, ?_, ?_⟩
      · rw [show s.head.lba + ((k + 1 : Nat) : Int) = s.head.lba + k + 1 by omega]; exact (Keep.cons 2 rfl (Keep.cons 3 rfl (Keep.cons 4 rfl (Keep.cons 6 rfl (Keep.cons 10 rfl Keep.nil)))))
      · unfold addD
        rw [if_pos (of_decide_eq_true d), ← List.append_assoc]
        exact H.swap.drop
    refine W_skip ?_
    refine hK16 _ _ (W_keep (Keep.cons 2 rfl (Keep.cons 3 rfl (Keep.cons 4 rfl (Keep.cons 6 rfl (Keep.cons 10 rfl (Keep.cons 91 rfl Keep.nil)))))) ?_)
    refine W_reg rfl ?_
    refine RL_some ?_; (refine X_move rfl ?_)
    refine RL_some ?_; (first | refine X_int rfl rfl rfl (by omega) ?_ | refine X_bin rfl rfl rfl ?_)
    refine RL_some ?_; (refine X_assign rfl ?_)
    refine ⟨left - 1, by omega, k + 1, vo2, by omega, ?_, ?_⟩
    · rw [show s.head.lba + ((k + 1 : Nat) : Int) = s.head.lba + k + 1 by omega]; exact (Keep.cons 2 rfl (Keep.cons 3 rfl (Keep.cons 4 rfl (Keep.cons 6 rfl (Keep.cons 10 rfl Keep.nil)))))
    · unfold addD
      rw [if_neg (of_decide_eq_false d), List.append_nil]
      exact H
  refine W_exit ?_
  refine hK12 _ _ (W_keep (Keep.cons 2 rfl (Keep.cons 3 rfl (Keep.cons 4 rfl (Keep.cons 6 rfl (Keep.cons 10 rfl (Keep.cons 82 rfl Keep.nil)))))) ?_)
  refine W_seq_k fun K18 hK18 => ?_
  have c2 := of_decide_eq_false c2
  obtain rfl : k = s.head.count.toNat := by omega
  replace H : St w0 w (CT vo2 (putD cs s) :: _) := H
  have hvo := H.tabSl.2
  have hpl : (putD cs s).length ≤ 1000000 := by unfold putD; simp; omega
  refine W_draw (.p 0 (.p 1 (.p 2 (.e 3 [0] (.e 4 [] (.p 5 .nil) .none) .none)))) T.mixed rfl ?_
  replace H := H.drew
  apply DD_read rfl rfl; next => ((first | refine S_load H 0 T.ty51 rfl rfl (l := zl z vo2) rfl (Nat.le_of_ble_eq_true rfl) ⟨rfl, rfl⟩ | refine S_load H 1 T.ty51 rfl rfl (l := zl z vo2) rfl (Nat.le_of_ble_eq_true rfl) ⟨rfl, rfl⟩ | refine S_load H 2 T.ty51 rfl rfl (l := zl z vo2) rfl (Nat.le_of_ble_eq_true rfl) ⟨rfl, rfl⟩ | refine S_load H 3 T.ty51 rfl rfl (l := zl z vo2) rfl (Nat.le_of_ble_eq_true rfl) ⟨rfl, rfl⟩ | refine S_load H 4 T.ty51 rfl rfl (l := zl z vo2) rfl (Nat.le_of_ble_eq_true rfl) ⟨rfl, rfl⟩ | refine S_load H 5 T.ty51 rfl rfl (l := zl z vo2) rfl (Nat.le_of_ble_eq_true rfl) ⟨rfl, rfl⟩ | refine S_load H 6 T.ty51 rfl rfl (l := zl z vo2) rfl (Nat.le_of_ble_eq_true rfl) ⟨rfl, rfl⟩ | refine S_load H 7 T.ty51 rfl rfl (l := zl z vo2) rfl (Nat.le_of_ble_eq_true rfl) ⟨rfl, rfl⟩ | refine S_load H 8 T.ty51 rfl rfl (l := zl z vo2) rfl (Nat.le_of_ble_eq_true rfl) ⟨rfl, rfl⟩ | refine S_load H 9 T.ty51 rfl rfl (l := zl z vo2) rfl (Nat.le_of_ble_eq_true rfl) ⟨rfl, rfl⟩))
  apply DD_read rfl rfl; next => ((first | refine S_load H 0 T.ty51 rfl rfl (l := zl z (.slice ad cs.length cap)) rfl (Nat.le_of_ble_eq_true rfl) ⟨rfl, rfl⟩ | refine S_load H 1 T.ty51 rfl rfl (l := zl z (.slice ad cs.length cap)) rfl (Nat.le_of_ble_eq_true rfl) ⟨rfl, rfl⟩ | refine S_load H 2 T.ty51 rfl rfl (l := zl z (.slice ad cs.length cap)) rfl (Nat.le_of_ble_eq_true rfl) ⟨rfl, rfl⟩ | refine S_load H 3 T.ty51 rfl rfl (l := zl z (.slice ad cs.length cap)) rfl (Nat.le_of_ble_eq_true rfl) ⟨rfl, rfl⟩ | refine S_load H 4 T.ty51 rfl rfl (l := zl z (.slice ad cs.length cap)) rfl (Nat.le_of_ble_eq_true rfl) ⟨rfl, rfl⟩ | refine S_load H 5 T.ty51 rfl rfl (l := zl z (.slice ad cs.length cap)) rfl (Nat.le_of_ble_eq_true rfl) ⟨rfl, rfl⟩ | refine S_load H 6 T.ty51 rfl rfl (l := zl z (.slice ad cs.length cap)) rfl (Nat.le_of_ble_eq_true rfl) ⟨rfl, rfl⟩ | refine S_load H 7 T.ty51 rfl rfl (l := zl z (.slice ad cs.length cap)) rfl (Nat.le_of_ble_eq_true rfl) ⟨rfl, rfl⟩ | refine S_load H 8 T.ty51 rfl rfl (l := zl z (.slice ad cs.length cap)) rfl (Nat.le_of_ble_eq_true rfl) ⟨rfl, rfl⟩ | refine S_load H 9 T.ty51 rfl rfl (l := zl z (.slice ad cs.length cap)) rfl (Nat.le_of_ble_eq_true rfl) ⟨rfl, rfl⟩))
  apply DD_read rfl rfl; next => ((first | refine S_load H 0 T.ty51 rfl rfl (l := zl z vo2) rfl (Nat.le_of_ble_eq_true rfl) ⟨rfl, rfl⟩ | refine S_load H 1 T.ty51 rfl rfl (l := zl z vo2) rfl (Nat.le_of_ble_eq_true rfl) ⟨rfl, rfl⟩ | refine S_load H 2 T.ty51 rfl rfl (l := zl z vo2) rfl (Nat.le_of_ble_eq_true rfl) ⟨rfl, rfl⟩ | refine S_load H 3 T.ty51 rfl rfl (l := zl z vo2) rfl (Nat.le_of_ble_eq_true rfl) ⟨rfl, rfl⟩ | refine S_load H 4 T.ty51 rfl rfl (l := zl z vo2) rfl (Nat.le_of_ble_eq_true rfl) ⟨rfl, rfl⟩ | refine S_load H 5 T.ty51 rfl rfl (l := zl z vo2) rfl (Nat.le_of_ble_eq_true rfl) ⟨rfl, rfl⟩ | refine S_load H 6 T.ty51 rfl rfl (l := zl z vo2) rfl (Nat.le_of_ble_eq_true rfl) ⟨rfl, rfl⟩ | refine S_load H 7 T.ty51 rfl rfl (l := zl z vo2) rfl (Nat.le_of_ble_eq_true rfl) ⟨rfl, rfl⟩ | refine S_load H 8 T.ty51 rfl rfl (l := zl z vo2) rfl (Nat.le_of_ble_eq_true rfl) ⟨rfl, rfl⟩ | refine S_load H 9 T.ty51 rfl rfl (l := zl z vo2) rfl (Nat.le_of_ble_eq_true rfl) ⟨rfl, rfl⟩))
  refine DD_eff rfl rfl ?_; (refine X_call T.ent44 rfl (calls_to (gone_spec z z _ vo2 cs (putD cs s) (by omega) hpl (H.foc 5 rfl)) ?_); intro u w H)
  refine ⟨?_, ?_⟩; next => (repeat (first | exact rc_nil | refine rc_skip rfl ?_ | refine rc_true ?_ | (refine rc_read ?_ ?_; next => (first | ((first | refine S_load H 0 T.ty51 rfl rfl (l := zl z vo2) rfl (Nat.le_of_ble_eq_true rfl) ⟨rfl, rfl⟩ | refine S_load H 1 T.ty51 rfl rfl (l := zl z vo2) rfl (Nat.le_of_ble_eq_true rfl) ⟨rfl, rfl⟩ | refine S_load H 2 T.ty51 rfl rfl (l := zl z vo2) rfl (Nat.le_of_ble_eq_true rfl) ⟨rfl, rfl⟩ | refine S_load H 3 T.ty51 rfl rfl (l := zl z vo2) rfl (Nat.le_of_ble_eq_true rfl) ⟨rfl, rfl⟩ | refine S_load H 4 T.ty51 rfl rfl (l := zl z vo2) rfl (Nat.le_of_ble_eq_true rfl) ⟨rfl, rfl⟩ | refine S_load H 5 T.ty51 rfl rfl (l := zl z vo2) rfl (Nat.le_of_ble_eq_true rfl) ⟨rfl, rfl⟩ | refine S_load H 6 T.ty51 rfl rfl (l := zl z vo2) rfl (Nat.le_of_ble_eq_true rfl) ⟨rfl, rfl⟩ | refine S_load H 7 T.ty51 rfl rfl (l := zl z vo2) rfl (Nat.le_of_ble_eq_true rfl) ⟨rfl, rfl⟩ | refine S_load H 8 T.ty51 rfl rfl (l := zl z vo2) rfl (Nat.le_of_ble_eq_true rfl) ⟨rfl, rfl⟩ | refine S_load H 9 T.ty51 rfl rfl (l := zl z vo2) rfl (Nat.le_of_ble_eq_true rfl) ⟨rfl, rfl⟩))))))
  refine DD_eff rfl rfl ?_; (refine S_store (c' := dmc z vo2) H 4 T.ty51 rfl rfl rfl rfl (Nat.le_of_ble_eq_true rfl) (by show (Nep.one vo2 && true) = true; simp [hvo]) rfl ?_; intro w H)
  refine ⟨by repeat (first | exact rc_nil | refine rc_skip rfl ?_ | refine rc_true ?_), ?_⟩
  apply DD_pure rfl rfl; next => (intro _; refine X_assign rfl ⟨rfl, rfl⟩)
  refine hK18 _ _ (W_keep (Keep.cons 4 rfl (Keep.cons 5 rfl Keep.nil)) ?_)
  refine W_ret ?_
  (try simp only [thenQ, blockQ, noGotoQ])
  exact body_list (.inr rfl) rfl (.cell rfl (loadV_agg H 4 T.ty51 rfl (l := zl z vo2) rfl (Nat.le_of_ble_eq_true rfl)) (.tmp rfl .nil)) (by simp) ⟨_, _, rfl, ((H.dropAt 6).dropAt 5 |>.dropAt 4 |>.dropAt 3 |>.foc 2 rfl).swap⟩

def dropD (cs : List Cell) (ns : Int) : List Cell := cs.filter fun c => decide (¬ c.ns = ns)
theorem filter_take {α : Type} (p : α → Bool) (l : List α) (i : Nat) {x : α} (h : l[i]? = some x) : (l.take (i + 1)).filter p = (l.take i).filter p ++ if p x then [x] else [] := by
  rw [List.take_add_one, h, List.filter_append]
  cases hp : p x <;> simp [hp]

theorem rDrop_spec (z : Z4) (v : Value) (cs : List Cell) (ns : Int) (hns : 0 ≤ ns ∧ ns ≤ 3) (hlen : cs.length ≤ 500000) {w0 w : World} {L : List Asn} (H : St w0 w (CT v cs :: L)) :
    Calls Try.prog 33 #[.agg (dmc z v), i64 ns] w (After fun r w' => ∃ v' u, r = .tuple #[.agg (dmc (z.set ns.toNat 0) v'), u] ∧ St w0 w' (PT u (goneL (dropD cs ns) cs) :: CT v' (dropD cs ns) :: CT v cs :: L)) := by
  obtain ⟨ad, cap, rfl, _⟩ := H.tabVal
  obtain ⟨y, hy⟩ : ∃ y, y = z.set ns.toNat 0 := ⟨_, rfl⟩
  rw [← hy]
  refine calls_of_W (N := 43) (args := [.agg (dmc z (.slice ad cs.length cap)), i64 ns]) Try.func33 rfl Try.ntmps33 (by simp) ?_
  refine W_seq_k fun K1 hK1 => ?_
  refine W_reg rfl ?_
  refine RL_some ?_; (refine S_box H rfl ?_; intro b2 w H)
  refine RL_some ?_; (refine S_alloc H T.ze51 ?_; intro b4 w H)
  refine RL_some ?_; (refine X_assign rfl ?_)
  refine hK1 _ _ (W_keep (Keep.cons 1 rfl (Keep.cons 2 rfl (Keep.cons 4 rfl Keep.nil))) ?_)
  refine W_seq_k fun K2 hK2 => ?_
  refine W_reg rfl ?_
  refine RL_some ?_; (refine X_fieldAddr T.fd51_0 rfl ?_)
  refine RL_some ?_; (refine S_load H 1 T.ty48 rfl rfl (l := [i64 z.a, i64 z.b, i64 z.c, i64 z.d]) rfl (Nat.le_of_ble_eq_true rfl) ?_)
  refine RL_some ?_; (refine X_build (cells := dmc z nilS) T.sh51 T.ze51 rfl (fill_put rfl rfl (Nat.le_of_ble_eq_true rfl) rfl rfl) ?_)
  refine RL_some ?_; (refine S_alloc H T.ze51 ?_; intro b6 w H)
  refine RL_none ?_; ((refine S_store H 0 T.ty51 rfl rfl rfl rfl (Nat.le_of_ble_eq_true rfl) rfl (c' := dmc z nilS) rfl ?_; intro w H))
  refine hK2 _ _ (W_keep (Keep.cons 1 rfl (Keep.cons 2 rfl (Keep.cons 4 rfl (Keep.cons 6 rfl Keep.nil)))) ?_)
  refine W_seq_k fun K3 hK3 => ?_
  refine W_reg rfl ?_
  refine RL_some ?_; (refine X_move rfl ?_)
  refine RL_some ?_; (refine X_fieldAddr T.fd51_0 rfl ?_)
  refine RL_some ?_; (refine X_idxA T.ar48 rfl rfl (by omega) (by omega) ?_)
  refine RL_none ?_; (refine S_store (c' := dmc y nilS) H 0 T.ty3 rfl rfl rfl rfl (by rw [Nat.mul_one, Nat.zero_add]; show _ ≤ 5; omega) rfl (by rw [Nat.mul_one, Nat.zero_add, hy]; exact dmc_set z nilS 0 (by omega)) ?_; intro w H)
  refine hK3 _ _ (W_keep (Keep.cons 1 rfl (Keep.cons 2 rfl (Keep.cons 4 rfl (Keep.cons 6 rfl Keep.nil)))) ?_)
  refine W_seq_k fun K4 hK4 => ?_
  refine W_seq_k fun K5 hK5 => ?_
  refine W_reg rfl ?_
  refine RL_some ?_; (refine X_assign rfl ?_)
  refine hK5 _ _ (W_keep (Keep.cons 1 rfl (Keep.cons 2 rfl (Keep.cons 4 rfl (Keep.cons 6 rfl (Keep.cons 7 rfl Keep.nil))))) ?_)
  refine W_block ?_
  refine W_loop (fun left pf w => ∃ i vo, i + left = cs.length ∧ Keep pf [(1, i64 ns), (2, pt b2 0), (4, pt b4 0), (6, pt b6 0), (7, i64 i)] ∧ St w0 w (CT vo (dropD (cs.take i) ns) :: Cs b6 (dmc y vo) 51 :: Cs b4 (dmc z0 nilS) 51 :: Cs b2 (dmc z (.slice ad cs.length cap)) 51 :: CT (.slice ad cs.length cap) cs :: L)) (cs.length) ?_ ?_
  · skip
    exact ⟨0, nilS, by omega, (Keep.cons 1 rfl (Keep.cons 2 rfl (Keep.cons 4 rfl (Keep.cons 6 rfl (Keep.cons 7 rfl Keep.nil))))), H.tabNil⟩
  clear H
  rintro left pf w ⟨i, vo, hi, hpf, H⟩
  refine W_keep hpf ?_
  clear hpf
  have hdl : (dropD (cs.take i) ns).length ≤ i := by have := List.length_filter_le (fun c : Cell => decide (¬ c.ns = ns)) (cs.take i); unfold dropD; simp at this ⊢; omega
  refine W_seq_k fun K6 hK6 => ?_
  refine W_seq_k fun K7 hK7 => ?_
  refine W_reg rfl ?_
  refine RL_some ?_; (refine X_move rfl ?_)
  refine RL_some ?_; (refine X_fieldAddr T.fd51_1 rfl ?_)
  refine RL_some ?_; (refine S_load1 H 3 T.ty49 rfl rfl (v := .slice ad cs.length cap) rfl ?_)
  refine RL_some ?_; (refine X_len T.sl49 rfl ?_)
  refine RL_some ?_; (first | refine X_cmp_t rfl rfl rfl (by first | assumption | omega) ?_ | refine X_cmp_f rfl rfl rfl (by first | assumption | omega) ?_ | refine X_bin rfl rfl rfl ?_)
  refine hK7 _ _ (W_keep (Keep.cons 1 rfl (Keep.cons 2 rfl (Keep.cons 4 rfl (Keep.cons 6 rfl (Keep.cons 7 rfl (Keep.cons 18 rfl Keep.nil)))))) ?_)
  refine W_if rfl (fun c => ?_) (fun c => ?_)
  · skip
    refine W_skip ?_
    refine hK6 _ _ (W_keep (Keep.cons 1 rfl (Keep.cons 2 rfl (Keep.cons 4 rfl (Keep.cons 6 rfl (Keep.cons 7 rfl (Keep.cons 18 rfl Keep.nil)))))) ?_)
    refine W_seq_k fun K8 hK8 => ?_
    refine W_block ?_
    refine W_seq_k fun K9 hK9 => ?_
    have c := of_decide_eq_true c
    obtain ⟨x, hx⟩ : ∃ x, cs[i]? = some x := ⟨_, List.getElem?_eq_getElem (by omega)⟩
    obtain ⟨g, cap', hv, _⟩ := H.tabPos' 4 rfl (by omega)
    simp only [Value.slice.injEq] at hv
    obtain ⟨rfl, _, rfl⟩ := hv
    have htk := filter_take (fun c : Cell => decide (¬ c.ns = ns)) cs i hx
    refine W_reg rfl ?_
    refine RL_some ?_; (refine X_fieldAddr T.fd51_1 rfl ?_)
    refine RL_some ?_; (refine S_load1 H 3 T.ty49 rfl rfl (v := sl g 0 cs.length cap) rfl ?_)
    refine RL_some ?_; (refine X_move rfl ?_)
    refine RL_some ?_; (refine X_idx T.sl49 rfl rfl (by omega) (by omega) ?_)
    refine RL_some ?_; (refine X_fieldAddr T.fd63_0 rfl ?_)
    refine RL_some ?_; (refine S_loadT1 (v := i64 x.ns) H 4 T.ty3 rfl cell_len rfl (j := i) (o := 0) (by omega) hx (by decide) rfl ?_)
    refine RL_some ?_; (refine X_move rfl ?_)
    refine RL_some ?_; (first | refine X_ne_t rfl rfl rfl (by first | assumption | omega) ?_ | refine X_ne_f rfl rfl rfl (by first | assumption | omega) ?_ | refine X_bin rfl rfl rfl ?_)
    refine hK9 _ _ (W_keep (Keep.cons 1 rfl (Keep.cons 2 rfl (Keep.cons 4 rfl (Keep.cons 6 rfl (Keep.cons 7 rfl (Keep.cons 28 rfl Keep.nil)))))) ?_)
    refine W_if rfl (fun d => ?_) (fun d => ?_)
    · skip
      have d : ¬ x.ns = ns := by simpa using d
      rw [if_pos (by simpa using d)] at htk
      refine W_draw (.p 0 (.p 1 (.p 2 (.p 3 (.p 4 (.p 5 (.p 6 (.e 7 [0, 1] (.e 8 [] (.p 9 (.e 10 [] .nil .none)) .none) .none)))))))) T.mixed rfl ?_
      replace H := H.drew
      apply DD_pure rfl rfl; next => (intro _; refine X_fieldAddr T.fd51_1 rfl ⟨rfl, rfl⟩)
      apply DD_read rfl rfl; next => ((first | refine S_load1 H 0 T.ty49 rfl rfl (v := vo) rfl ⟨rfl, rfl⟩ | refine S_load1 H 1 T.ty49 rfl rfl (v := vo) rfl ⟨rfl, rfl⟩ | refine S_load1 H 2 T.ty49 rfl rfl (v := vo) rfl ⟨rfl, rfl⟩ | refine S_load1 H 3 T.ty49 rfl rfl (v := vo) rfl ⟨rfl, rfl⟩ | refine S_load1 H 4 T.ty49 rfl rfl (v := vo) rfl ⟨rfl, rfl⟩ | refine S_load1 H 5 T.ty49 rfl rfl (v := vo) rfl ⟨rfl, rfl⟩ | refine S_load1 H 6 T.ty49 rfl rfl (v := vo) rfl ⟨rfl, rfl⟩ | refine S_load1 H 7 T.ty49 rfl rfl (v := vo) rfl ⟨rfl, rfl⟩ | refine S_load1 H 8 T.ty49 rfl rfl (v := vo) rfl ⟨rfl, rfl⟩ | refine S_load1 H 9 T.ty49 rfl rfl (v := vo) rfl ⟨rfl, rfl⟩))
      apply DD_pure rfl rfl; next => (intro _; refine X_fieldAddr T.fd51_1 rfl ⟨rfl, rfl⟩)
      apply DD_read rfl rfl; next => ((first | refine S_load1 H 0 T.ty49 rfl rfl (v := sl g 0 cs.length cap) rfl ⟨rfl, rfl⟩ | refine S_load1 H 1 T.ty49 rfl rfl (v := sl g 0 cs.length cap) rfl ⟨rfl, rfl⟩ | refine S_load1 H 2 T.ty49 rfl rfl (v := sl g 0 cs.length cap) rfl ⟨rfl, rfl⟩ | refine S_load1 H 3 T.ty49 rfl rfl (v := sl g 0 cs.length cap) rfl ⟨rfl, rfl⟩ | refine S_load1 H 4 T.ty49 rfl rfl (v := sl g 0 cs.length cap) rfl ⟨rfl, rfl⟩ | refine S_load1 H 5 T.ty49 rfl rfl (v := sl g 0 cs.length cap) rfl ⟨rfl, rfl⟩ | refine S_load1 H 6 T.ty49 rfl rfl (v := sl g 0 cs.length cap) rfl ⟨rfl, rfl⟩ | refine S_load1 H 7 T.ty49 rfl rfl (v := sl g 0 cs.length cap) rfl ⟨rfl, rfl⟩ | refine S_load1 H 8 T.ty49 rfl rfl (v := sl g 0 cs.length cap) rfl ⟨rfl, rfl⟩ | refine S_load1 H 9 T.ty49 rfl rfl (v := sl g 0 cs.length cap) rfl ⟨rfl, rfl⟩))
      apply DD_pure rfl rfl; next => (intro _; refine X_move rfl ⟨rfl, rfl⟩)
      apply DD_pure rfl rfl; next => (intro _; refine X_idx T.sl49 rfl rfl (by omega) (by omega) ⟨rfl, rfl⟩)
      apply DD_read rfl rfl; next => (refine S_loadT H 4 T.ty63 rfl cell_len rfl (j := i) (o := 0) (by omega) hx (by decide) (l := x.enc) rfl ⟨rfl, rfl⟩)
      refine DD_eff rfl rfl ?_; (refine S_lit1T (enc := Cell.enc) (a := x) H T.sl49 T.ze63 rfl rfl rfl rfl (by decide) (by decide) ?_; intro bl w H)
      refine ⟨?_, ?_⟩; next => (repeat (first | exact rc_nil | refine rc_skip rfl ?_ | refine rc_true ?_ | (refine rc_read ?_ ?_; next => (first | refine S_load1 H 2 T.ty49 rfl rfl (v := vo) rfl ⟨rfl, rfl⟩ | refine S_load1 H 1 T.ty49 rfl rfl (v := vo) rfl ⟨rfl, rfl⟩))))
      refine DD_eff rfl rfl ?_; (refine S_appendTT H 1 0 T.sl49 T.ze63 rfl (by decide) rfl rfl rfl rfl (cells_one _) (by simp; omega) (by simp; omega) ?_; intro vn w H)
      refine ⟨by repeat (first | exact rc_nil | refine rc_skip rfl ?_ | refine rc_true ?_), ?_⟩
      apply DD_pure rfl rfl; next => (intro _; refine X_fieldAddr T.fd51_1 rfl ⟨rfl, rfl⟩)
      refine DD_eff rfl rfl ?_; ((refine S_storeV H 2 T.ty49 rfl rfl rfl H.tabSl (Nat.le_of_ble_eq_true rfl) (c' := dmc y vn) rfl ?_; intro w H))
      refine ⟨by repeat (first | exact rc_nil | refine rc_skip rfl ?_ | refine rc_true ?_), ?_⟩
      refine hK8 _ _ (W_keep (Keep.cons 1 rfl (Keep.cons 2 rfl (Keep.cons 4 rfl (Keep.cons 6 rfl (Keep.cons 7 rfl Keep.nil))))) ?_)
      refine W_reg rfl ?_
      refine RL_some ?_; (refine X_move rfl ?_)
      refine RL_some ?_; (first | refine X_int rfl rfl rfl (by omega) ?_ | refine X_bin rfl rfl rfl ?_)
      refine RL_some ?_; (refine X_assign rfl ?_)
      refine ⟨left - 1, by omega, i + 1, vn, by omega, (Keep.cons 1 rfl (Keep.cons 2 rfl (Keep.cons 4 rfl (Keep.cons 6 rfl (Keep.cons 7 rfl Keep.nil))))), ?_⟩
      unfold dropD
      rw [htk]
      exact H.swap.drop
    refine W_skip ?_
    refine hK8 _ _ (W_keep (Keep.cons 1 rfl (Keep.cons 2 rfl (Keep.cons 4 rfl (Keep.cons 6 rfl (Keep.cons 7 rfl (Keep.cons 28 rfl Keep.nil)))))) ?_)
    refine W_reg rfl ?_
    refine RL_some ?_; (refine X_move rfl ?_)
    refine RL_some ?_; (first | refine X_int rfl rfl rfl (by omega) ?_ | refine X_bin rfl rfl rfl ?_)
    refine RL_some ?_; (refine X_assign rfl ?_)
    have d : x.ns = ns := by simpa using d
    refine ⟨left - 1, by omega, i + 1, vo, by omega, (Keep.cons 1 rfl (Keep.cons 2 rfl (Keep.cons 4 rfl (Keep.cons 6 rfl (Keep.cons 7 rfl Keep.nil))))), ?_⟩
    unfold dropD
    rw [htk, if_neg (by simpa using d), List.append_nil]
    exact H
  refine W_exit ?_
  refine hK4 _ _ (W_keep (Keep.cons 1 rfl (Keep.cons 2 rfl (Keep.cons 4 rfl (Keep.cons 6 rfl (Keep.cons 7 rfl (Keep.cons 18 rfl Keep.nil)))))) ?_)
  refine W_seq_k fun K10 hK10 => ?_
  have c := of_decide_eq_false c
  obtain rfl : i = cs.length := by omega
  rw [List.take_length] at H
  have hvo := H.tabSl.2
  refine W_draw (.p 0 (.p 1 (.p 2 (.e 3 [0] (.e 4 [] (.p 5 .nil) .none) .none)))) T.mixed rfl ?_
  replace H := H.drew
  apply DD_read rfl rfl; next => ((first | refine S_load H 0 T.ty51 rfl rfl (l := zl y vo) rfl (Nat.le_of_ble_eq_true rfl) ⟨rfl, rfl⟩ | refine S_load H 1 T.ty51 rfl rfl (l := zl y vo) rfl (Nat.le_of_ble_eq_true rfl) ⟨rfl, rfl⟩ | refine S_load H 2 T.ty51 rfl rfl (l := zl y vo) rfl (Nat.le_of_ble_eq_true rfl) ⟨rfl, rfl⟩ | refine S_load H 3 T.ty51 rfl rfl (l := zl y vo) rfl (Nat.le_of_ble_eq_true rfl) ⟨rfl, rfl⟩ | refine S_load H 4 T.ty51 rfl rfl (l := zl y vo) rfl (Nat.le_of_ble_eq_true rfl) ⟨rfl, rfl⟩ | refine S_load H 5 T.ty51 rfl rfl (l := zl y vo) rfl (Nat.le_of_ble_eq_true rfl) ⟨rfl, rfl⟩ | refine S_load H 6 T.ty51 rfl rfl (l := zl y vo) rfl (Nat.le_of_ble_eq_true rfl) ⟨rfl, rfl⟩ | refine S_load H 7 T.ty51 rfl rfl (l := zl y vo) rfl (Nat.le_of_ble_eq_true rfl) ⟨rfl, rfl⟩ | refine S_load H 8 T.ty51 rfl rfl (l := zl y vo) rfl (Nat.le_of_ble_eq_true rfl) ⟨rfl, rfl⟩ | refine S_load H 9 T.ty51 rfl rfl (l := zl y vo) rfl (Nat.le_of_ble_eq_true rfl) ⟨rfl, rfl⟩))
  apply DD_read rfl rfl; next => ((first | refine S_load H 0 T.ty51 rfl rfl (l := zl z (.slice ad cs.length cap)) rfl (Nat.le_of_ble_eq_true rfl) ⟨rfl, rfl⟩ | refine S_load H 1 T.ty51 rfl rfl (l := zl z (.slice ad cs.length cap)) rfl (Nat.le_of_ble_eq_true rfl) ⟨rfl, rfl⟩ | refine S_load H 2 T.ty51 rfl rfl (l := zl z (.slice ad cs.length cap)) rfl (Nat.le_of_ble_eq_true rfl) ⟨rfl, rfl⟩ | refine S_load H 3 T.ty51 rfl rfl (l := zl z (.slice ad cs.length cap)) rfl (Nat.le_of_ble_eq_true rfl) ⟨rfl, rfl⟩ | refine S_load H 4 T.ty51 rfl rfl (l := zl z (.slice ad cs.length cap)) rfl (Nat.le_of_ble_eq_true rfl) ⟨rfl, rfl⟩ | refine S_load H 5 T.ty51 rfl rfl (l := zl z (.slice ad cs.length cap)) rfl (Nat.le_of_ble_eq_true rfl) ⟨rfl, rfl⟩ | refine S_load H 6 T.ty51 rfl rfl (l := zl z (.slice ad cs.length cap)) rfl (Nat.le_of_ble_eq_true rfl) ⟨rfl, rfl⟩ | refine S_load H 7 T.ty51 rfl rfl (l := zl z (.slice ad cs.length cap)) rfl (Nat.le_of_ble_eq_true rfl) ⟨rfl, rfl⟩ | refine S_load H 8 T.ty51 rfl rfl (l := zl z (.slice ad cs.length cap)) rfl (Nat.le_of_ble_eq_true rfl) ⟨rfl, rfl⟩ | refine S_load H 9 T.ty51 rfl rfl (l := zl z (.slice ad cs.length cap)) rfl (Nat.le_of_ble_eq_true rfl) ⟨rfl, rfl⟩))
  apply DD_read rfl rfl; next => ((first | refine S_load H 0 T.ty51 rfl rfl (l := zl y vo) rfl (Nat.le_of_ble_eq_true rfl) ⟨rfl, rfl⟩ | refine S_load H 1 T.ty51 rfl rfl (l := zl y vo) rfl (Nat.le_of_ble_eq_true rfl) ⟨rfl, rfl⟩ | refine S_load H 2 T.ty51 rfl rfl (l := zl y vo) rfl (Nat.le_of_ble_eq_true rfl) ⟨rfl, rfl⟩ | refine S_load H 3 T.ty51 rfl rfl (l := zl y vo) rfl (Nat.le_of_ble_eq_true rfl) ⟨rfl, rfl⟩ | refine S_load H 4 T.ty51 rfl rfl (l := zl y vo) rfl (Nat.le_of_ble_eq_true rfl) ⟨rfl, rfl⟩ | refine S_load H 5 T.ty51 rfl rfl (l := zl y vo) rfl (Nat.le_of_ble_eq_true rfl) ⟨rfl, rfl⟩ | refine S_load H 6 T.ty51 rfl rfl (l := zl y vo) rfl (Nat.le_of_ble_eq_true rfl) ⟨rfl, rfl⟩ | refine S_load H 7 T.ty51 rfl rfl (l := zl y vo) rfl (Nat.le_of_ble_eq_true rfl) ⟨rfl, rfl⟩ | refine S_load H 8 T.ty51 rfl rfl (l := zl y vo) rfl (Nat.le_of_ble_eq_true rfl) ⟨rfl, rfl⟩ | refine S_load H 9 T.ty51 rfl rfl (l := zl y vo) rfl (Nat.le_of_ble_eq_true rfl) ⟨rfl, rfl⟩))
  refine DD_eff rfl rfl ?_; (refine X_call T.ent44 rfl (calls_to (gone_spec z y _ vo cs (dropD cs ns) (by omega) (by have := List.length_filter_le (fun c : Cell => decide (¬ c.ns = ns)) cs; unfold dropD; omega) (H.foc 4 rfl)) ?_); intro u w H)
  refine ⟨?_, ?_⟩; next => (repeat (first | exact rc_nil | refine rc_skip rfl ?_ | refine rc_true ?_ | (refine rc_read ?_ ?_; next => (first | ((first | refine S_load H 0 T.ty51 rfl rfl (l := zl y vo) rfl (Nat.le_of_ble_eq_true rfl) ⟨rfl, rfl⟩ | refine S_load H 1 T.ty51 rfl rfl (l := zl y vo) rfl (Nat.le_of_ble_eq_true rfl) ⟨rfl, rfl⟩ | refine S_load H 2 T.ty51 rfl rfl (l := zl y vo) rfl (Nat.le_of_ble_eq_true rfl) ⟨rfl, rfl⟩ | refine S_load H 3 T.ty51 rfl rfl (l := zl y vo) rfl (Nat.le_of_ble_eq_true rfl) ⟨rfl, rfl⟩ | refine S_load H 4 T.ty51 rfl rfl (l := zl y vo) rfl (Nat.le_of_ble_eq_true rfl) ⟨rfl, rfl⟩ | refine S_load H 5 T.ty51 rfl rfl (l := zl y vo) rfl (Nat.le_of_ble_eq_true rfl) ⟨rfl, rfl⟩ | refine S_load H 6 T.ty51 rfl rfl (l := zl y vo) rfl (Nat.le_of_ble_eq_true rfl) ⟨rfl, rfl⟩ | refine S_load H 7 T.ty51 rfl rfl (l := zl y vo) rfl (Nat.le_of_ble_eq_true rfl) ⟨rfl, rfl⟩ | refine S_load H 8 T.ty51 rfl rfl (l := zl y vo) rfl (Nat.le_of_ble_eq_true rfl) ⟨rfl, rfl⟩ | refine S_load H 9 T.ty51 rfl rfl (l := zl y vo) rfl (Nat.le_of_ble_eq_true rfl) ⟨rfl, rfl⟩))))))
  refine DD_eff rfl rfl ?_; (refine S_store (c' := dmc y vo) H 4 T.ty51 rfl rfl rfl rfl (Nat.le_of_ble_eq_true rfl) (by show (Nep.one vo && true) = true; simp [hvo]) rfl ?_; intro w H)
  refine ⟨by repeat (first | exact rc_nil | refine rc_skip rfl ?_ | refine rc_true ?_), ?_⟩
  apply DD_pure rfl rfl; next => (intro _; refine X_assign rfl ⟨rfl, rfl⟩)
  refine hK10 _ _ (W_keep (Keep.cons 4 rfl (Keep.cons 5 rfl Keep.nil)) ?_)
  refine W_ret ?_
  (try simp only [thenQ, blockQ, noGotoQ])
  exact body_list (.inr rfl) rfl (.cell rfl (loadV_agg H 4 T.ty51 rfl (l := zl y vo) rfl (Nat.le_of_ble_eq_true rfl)) (.tmp rfl .nil)) (by simp) ⟨_, _, rfl, ((H.dropAt 5).dropAt 4 |>.dropAt 3 |>.foc 2 rfl).swap⟩

def moveC (a b : Pl) (o : Hd) (c : Cell) : Cell := if c.s.place = a then { c with s := { c.s with place := b, order := o } } else c
def moveD (cs : List Cell) (a b : Pl) (o : Hd) : List Cell := cs.map (moveC a b o)

theorem rMove_spec (z : Z4) (v : Value) (cs : List Cell) (a b : Pl) (o : Hd) (hlen : cs.length ≤ 500000) {w0 w : World} {L : List Asn} (H : St w0 w (CT v cs :: L)) :
    Calls Try.prog 37 #[.agg (dmc z v), pk a, pk b, .agg o.enc.toArray] w (After fun r w' => ∃ v', r = .agg (dmc z v') ∧ St w0 w' (CT v' (moveD cs a b o) :: CT v cs :: L)) := by
  obtain ⟨ad, cap, rfl, _⟩ := H.tabVal
  refine calls_of_W (N := 45) (args := [.agg (dmc z (.slice ad cs.length cap)), pk a, pk b, .agg o.enc.toArray]) Try.func37 rfl Try.ntmps37 (by simp) ?_
  refine W_seq_k fun K1 hK1 => ?_
  refine W_reg rfl ?_
  refine RL_some ?_; (refine S_box H rfl ?_; intro b4 w H)
  refine RL_some ?_; (refine S_box H rfl ?_; intro b5 w H)
  refine RL_some ?_; (refine S_box H rfl ?_; intro b6 w H)
  refine RL_some ?_; (refine S_box H rfl ?_; intro b7 w H)
  refine RL_some ?_; (refine S_alloc H T.ze51 ?_; intro b8 w H)
  refine hK1 _ _ (W_keep (Keep.cons 4 rfl (Keep.cons 5 rfl (Keep.cons 6 rfl (Keep.cons 7 rfl (Keep.cons 8 rfl Keep.nil))))) ?_)
  refine W_seq_k fun K2 hK2 => ?_
  refine W_reg rfl ?_
  refine RL_some ?_; (refine X_fieldAddr T.fd51_0 rfl ?_)
  refine RL_some ?_; (refine S_load H 4 T.ty48 rfl rfl (l := [i64 z.a, i64 z.b, i64 z.c, i64 z.d]) rfl (Nat.le_of_ble_eq_true rfl) ?_)
  refine RL_some ?_; (refine X_build (cells := dmc z nilS) T.sh51 T.ze51 rfl (fill_put rfl rfl (Nat.le_of_ble_eq_true rfl) rfl rfl) ?_)
  refine RL_some ?_; (refine S_alloc H T.ze51 ?_; intro b9 w H)
  refine RL_none ?_; ((refine S_store H 0 T.ty51 rfl rfl rfl rfl (Nat.le_of_ble_eq_true rfl) rfl (c' := dmc z nilS) rfl ?_; intro w H))
  refine hK2 _ _ (W_keep (Keep.cons 4 rfl (Keep.cons 5 rfl (Keep.cons 6 rfl (Keep.cons 7 rfl (Keep.cons 8 rfl (Keep.cons 9 rfl Keep.nil)))))) ?_)
  refine W_seq_k fun K3 hK3 => ?_
  refine W_seq_k fun K4 hK4 => ?_
  refine W_reg rfl ?_
  refine RL_some ?_; (refine X_assign rfl ?_)
  refine hK4 _ _ (W_keep (Keep.cons 4 rfl (Keep.cons 5 rfl (Keep.cons 6 rfl (Keep.cons 7 rfl (Keep.cons 8 rfl (Keep.cons 9 rfl (Keep.cons 10 rfl Keep.nil))))))) ?_)
  refine W_block ?_
  refine W_loop (fun left pf w => ∃ i vo, i + left = cs.length ∧ Keep pf [(4, pt b4 0), (5, pt b5 0), (6, pt b6 0), (7, pt b7 0), (8, pt b8 0), (9, pt b9 0), (10, i64 i)] ∧ St w0 w (CT vo ((cs.take i).map (moveC a b o)) :: Cs b9 (dmc z vo) 51 :: Cs b8 (dmc z0 nilS) 51 :: Cs b7 o.enc.toArray 27 :: Cs b6 b.enc.toArray 23 :: Cs b5 a.enc.toArray 23 :: Cs b4 (dmc z (.slice ad cs.length cap)) 51 :: CT (.slice ad cs.length cap) cs :: L)) (cs.length) ?_ ?_
  · skip
    exact ⟨0, nilS, by omega, (Keep.cons 4 rfl (Keep.cons 5 rfl (Keep.cons 6 rfl (Keep.cons 7 rfl (Keep.cons 8 rfl (Keep.cons 9 rfl (Keep.cons 10 rfl Keep.nil))))))), H.tabNil⟩
  clear H
  rintro left pf w ⟨i, vo, hi, hpf, H⟩
  refine W_keep hpf ?_
  clear hpf
  refine W_seq_k fun K5 hK5 => ?_
  refine W_seq_k fun K6 hK6 => ?_
  refine W_reg rfl ?_
  refine RL_some ?_; (refine X_move rfl ?_)
  refine RL_some ?_; (refine X_fieldAddr T.fd51_1 rfl ?_)
  refine RL_some ?_; (refine S_load1 H 6 T.ty49 rfl rfl (v := .slice ad cs.length cap) rfl ?_)
  refine RL_some ?_; (refine X_len T.sl49 rfl ?_)
  refine RL_some ?_; (first | refine X_cmp_t rfl rfl rfl (by first | assumption | omega) ?_ | refine X_cmp_f rfl rfl rfl (by first | assumption | omega) ?_ | refine X_bin rfl rfl rfl ?_)
  refine hK6 _ _ (W_keep (Keep.cons 4 rfl (Keep.cons 5 rfl (Keep.cons 6 rfl (Keep.cons 7 rfl (Keep.cons 8 rfl (Keep.cons 9 rfl (Keep.cons 10 rfl (Keep.cons 19 rfl Keep.nil)))))))) ?_)
  refine W_if rfl (fun c => ?_) (fun c => ?_)
  · skip
    refine W_skip ?_
    refine hK5 _ _ (W_keep (Keep.cons 4 rfl (Keep.cons 5 rfl (Keep.cons 6 rfl (Keep.cons 7 rfl (Keep.cons 8 rfl (Keep.cons 9 rfl (Keep.cons 10 rfl (Keep.cons 19 rfl Keep.nil)))))))) ?_)
    refine W_seq_k fun K7 hK7 => ?_
    refine W_block ?_
    refine W_seq_k fun K8 hK8 => ?_
    have c := of_decide_eq_true c
    obtain ⟨x, hx⟩ : ∃ x, cs[i]? = some x := ⟨_, List.getElem?_eq_getElem (by omega)⟩
    obtain ⟨g, cap', hv, _⟩ := H.tabPos' 7 rfl (by omega)
    simp only [Value.slice.injEq] at hv
    obtain ⟨rfl, _, rfl⟩ := hv
    refine W_reg rfl ?_
    refine RL_some ?_; (refine X_fieldAddr T.fd51_1 rfl ?_)
    refine RL_some ?_; (refine S_load1 H 6 T.ty49 rfl rfl (v := sl g 0 cs.length cap) rfl ?_)
    refine RL_some ?_; (refine X_move rfl ?_)
    refine RL_some ?_; (refine X_idx T.sl49 rfl rfl (by omega) (by omega) ?_)
    refine RL_some ?_; (refine S_loadT H 7 T.ty63 rfl cell_len rfl (j := i) (o := 0) (by omega) hx (by decide) (l := x.enc) rfl ?_)
    refine RL_some ?_; (refine S_alloc H T.ze63 ?_; intro b11 w H)
    refine RL_none ?_; ((refine S_store H 0 T.ty63 rfl rfl rfl rfl (Nat.le_of_ble_eq_true rfl) rfl (c' := x.enc.toArray) rfl ?_; intro w H))
    refine hK8 _ _ (W_keep (Keep.cons 4 rfl (Keep.cons 5 rfl (Keep.cons 6 rfl (Keep.cons 7 rfl (Keep.cons 8 rfl (Keep.cons 9 rfl (Keep.cons 10 rfl (Keep.cons 11 rfl Keep.nil)))))))) ?_)
    refine W_seq_k fun K9 hK9 => ?_
    refine W_seq_k fun K10 hK10 => ?_
    refine W_reg rfl ?_
    refine RL_some ?_; (refine X_fieldAddr T.fd63_2 rfl ?_)
    refine RL_some ?_; (refine X_fieldAddr T.fd32_0 rfl ?_)
    refine RL_some ?_; (refine S_load H 0 T.ty23 rfl rfl (l := x.s.place.enc) rfl (Nat.le_of_ble_eq_true rfl) ?_)
    refine RL_some ?_; (refine S_load H 6 T.ty23 rfl rfl (l := a.enc) rfl (Nat.le_of_ble_eq_true rfl) ?_)
    refine RL_some ?_; (refine X_eqS T.eg23 (pl_eq 9998 x.s.place a) rfl rfl ?_)
    refine hK10 _ _ (W_keep (Keep.cons 4 rfl (Keep.cons 5 rfl (Keep.cons 6 rfl (Keep.cons 7 rfl (Keep.cons 8 rfl (Keep.cons 9 rfl (Keep.cons 10 rfl (Keep.cons 11 rfl (Keep.cons 31 rfl Keep.nil))))))))) ?_)
    refine W_if rfl (fun d => ?_) (fun d => ?_)
    · skip
      refine W_seq_k fun K11 hK11 => ?_
      refine W_reg rfl ?_
      refine RL_some ?_; (refine S_load H 5 T.ty23 rfl rfl (l := b.enc) rfl (Nat.le_of_ble_eq_true rfl) ?_)
      refine RL_some ?_; (refine X_fieldAddr T.fd63_2 rfl ?_)
      refine RL_some ?_; (refine X_fieldAddr T.fd32_0 rfl ?_)
      refine RL_none ?_; ((refine S_store H 0 T.ty23 rfl rfl rfl rfl (Nat.le_of_ble_eq_true rfl) rfl (c' := (⟨x.ns, x.lba, ⟨b, x.s.head, x.s.order⟩⟩ : Cell).enc.toArray) rfl ?_; intro w H))
      refine hK11 _ _ (W_keep (Keep.cons 4 rfl (Keep.cons 5 rfl (Keep.cons 6 rfl (Keep.cons 7 rfl (Keep.cons 8 rfl (Keep.cons 9 rfl (Keep.cons 10 rfl (Keep.cons 11 rfl Keep.nil)))))))) ?_)
      refine W_reg rfl ?_
      refine RL_some ?_; (refine S_load H 4 T.ty27 rfl rfl (l := o.enc) rfl (Nat.le_of_ble_eq_true rfl) ?_)
      refine RL_some ?_; (refine X_fieldAddr T.fd63_2 rfl ?_)
      refine RL_some ?_; (refine X_fieldAddr T.fd32_2 rfl ?_)
      refine RL_none ?_; ((refine S_store H 0 T.ty27 rfl rfl rfl rfl (Nat.le_of_ble_eq_true rfl) rfl (c' := (⟨x.ns, x.lba, ⟨b, x.s.head, o⟩⟩ : Cell).enc.toArray) rfl ?_; intro w H))
      refine hK9 _ _ (W_keep (Keep.cons 4 rfl (Keep.cons 5 rfl (Keep.cons 6 rfl (Keep.cons 7 rfl (Keep.cons 8 rfl (Keep.cons 9 rfl (Keep.cons 10 rfl (Keep.cons 11 rfl Keep.nil)))))))) ?_)
      obtain ⟨y, hy, H⟩ : ∃ y, y = moveC a b o x ∧ St w0 w (Cs b11 y.enc.toArray 63 :: CT vo ((cs.take i).map (moveC a b o)) :: Cs b9 (dmc z vo) 51 :: Cs b8 (dmc z0 nilS) 51 :: Cs b7 o.enc.toArray 27 :: Cs b6 b.enc.toArray 23 :: Cs b5 a.enc.toArray 23 :: Cs b4 (dmc z (sl g 0 cs.length cap)) 51 :: CT (sl g 0 cs.length cap) cs :: L) := by
        first
        | exact ⟨⟨x.ns, x.lba, ⟨b, x.s.head, o⟩⟩, by unfold moveC; rw [if_pos (of_decide_eq_true d)], H⟩
        | exact ⟨x, by unfold moveC; rw [if_neg (of_decide_eq_false d)], H⟩
      refine W_reg rfl ?_
      refine RL_some ?_; (refine X_fieldAddr T.fd51_1 rfl ?_)
      refine RL_some ?_; (refine S_load1 H 2 T.ty49 rfl rfl (v := vo) rfl ?_)
      refine RL_some ?_; (refine S_load H 0 T.ty63 rfl rfl (l := y.enc) rfl (Nat.le_of_ble_eq_true rfl) ?_)
      refine RL_some ?_; (refine S_lit1T (enc := Cell.enc) (a := y) H T.sl49 T.ze63 rfl rfl rfl rfl (by decide) (by decide) ?_; intro bl w H)
      refine RL_some ?_; (refine S_appendTT H 2 0 T.sl49 T.ze63 rfl (by decide) rfl rfl rfl rfl (cells_one _) (by simp; omega) (by simp; omega) ?_; intro vn w H)
      refine RL_some ?_; (refine X_fieldAddr T.fd51_1 rfl ?_)
      refine RL_none ?_; ((refine S_storeV H 3 T.ty49 rfl rfl rfl H.tabSl (Nat.le_of_ble_eq_true rfl) (c' := dmc z vn) rfl ?_; intro w H))
      refine hK7 _ _ (W_keep (Keep.cons 4 rfl (Keep.cons 5 rfl (Keep.cons 6 rfl (Keep.cons 7 rfl (Keep.cons 8 rfl (Keep.cons 9 rfl (Keep.cons 10 rfl Keep.nil))))))) ?_)
      refine W_reg rfl ?_
      refine RL_some ?_; (refine X_move rfl ?_)
      refine RL_some ?_; (first | refine X_int rfl rfl rfl (by omega) ?_ | refine X_bin rfl rfl rfl ?_)
      refine RL_some ?_; (refine X_assign rfl ?_)
      refine ⟨left - 1, by omega, i + 1, vn, by omega, (Keep.cons 4 rfl (Keep.cons 5 rfl (Keep.cons 6 rfl (Keep.cons 7 rfl (Keep.cons 8 rfl (Keep.cons 9 rfl (Keep.cons 10 rfl Keep.nil))))))), ?_⟩
      rw [map_take _ _ _ hx, ← hy]
      exact H.swap.drop.swap.drop
    refine W_skip ?_
    refine hK9 _ _ (W_keep (Keep.cons 4 rfl (Keep.cons 5 rfl (Keep.cons 6 rfl (Keep.cons 7 rfl (Keep.cons 8 rfl (Keep.cons 9 rfl (Keep.cons 10 rfl (Keep.cons 11 rfl (Keep.cons 31 rfl Keep.nil))))))))) ?_)
    obtain ⟨y, hy, H⟩ : ∃ y, y = moveC a b o x ∧ St w0 w (Cs b11 y.enc.toArray 63 :: CT vo ((cs.take i).map (moveC a b o)) :: Cs b9 (dmc z vo) 51 :: Cs b8 (dmc z0 nilS) 51 :: Cs b7 o.enc.toArray 27 :: Cs b6 b.enc.toArray 23 :: Cs b5 a.enc.toArray 23 :: Cs b4 (dmc z (sl g 0 cs.length cap)) 51 :: CT (sl g 0 cs.length cap) cs :: L) := by
      first
      | exact ⟨⟨x.ns, x.lba, ⟨b, x.s.head, o⟩⟩, by unfold moveC; rw [if_pos (of_decide_eq_true d)], H⟩
      | exact ⟨x, by unfold moveC; rw [if_neg (of_decide_eq_false d)], H⟩
    refine W_reg rfl ?_
    refine RL_some ?_; (refine X_fieldAddr T.fd51_1 rfl ?_)
    refine RL_some ?_; (refine S_load1 H 2 T.ty49 rfl rfl (v := vo) rfl ?_)
    refine RL_some ?_; (refine S_load H 0 T.ty63 rfl rfl (l := y.enc) rfl (Nat.le_of_ble_eq_true rfl) ?_)
    refine RL_some ?_; (refine S_lit1T (enc := Cell.enc) (a := y) H T.sl49 T.ze63 rfl rfl rfl rfl (by decide) (by decide) ?_; intro bl w H)
    refine RL_some ?_; (refine S_appendTT H 2 0 T.sl49 T.ze63 rfl (by decide) rfl rfl rfl rfl (cells_one _) (by simp; omega) (by simp; omega) ?_; intro vn w H)
    refine RL_some ?_; (refine X_fieldAddr T.fd51_1 rfl ?_)
    refine RL_none ?_; ((refine S_storeV H 3 T.ty49 rfl rfl rfl H.tabSl (Nat.le_of_ble_eq_true rfl) (c' := dmc z vn) rfl ?_; intro w H))
    refine hK7 _ _ (W_keep (Keep.cons 4 rfl (Keep.cons 5 rfl (Keep.cons 6 rfl (Keep.cons 7 rfl (Keep.cons 8 rfl (Keep.cons 9 rfl (Keep.cons 10 rfl Keep.nil))))))) ?_)
    refine W_reg rfl ?_
    refine RL_some ?_; (refine X_move rfl ?_)
    refine RL_some ?_; (first | refine X_int rfl rfl rfl (by omega) ?_ | refine X_bin rfl rfl rfl ?_)
    refine RL_some ?_; (refine X_assign rfl ?_)
    refine ⟨left - 1, by omega, i + 1, vn, by omega, (Keep.cons 4 rfl (Keep.cons 5 rfl (Keep.cons 6 rfl (Keep.cons 7 rfl (Keep.cons 8 rfl (Keep.cons 9 rfl (Keep.cons 10 rfl Keep.nil))))))), ?_⟩
    rw [map_take _ _ _ hx, ← hy]
    exact H.swap.drop.swap.drop
  refine W_exit ?_
  refine hK3 _ _ (W_keep (Keep.cons 4 rfl (Keep.cons 5 rfl (Keep.cons 6 rfl (Keep.cons 7 rfl (Keep.cons 8 rfl (Keep.cons 9 rfl (Keep.cons 10 rfl (Keep.cons 19 rfl Keep.nil)))))))) ?_)
  refine W_seq_k fun K12 hK12 => ?_
  have c := of_decide_eq_false c
  obtain rfl : i = cs.length := by omega
  rw [List.take_length] at H
  have hvo := H.tabSl.2
  refine W_reg rfl ?_
  refine RL_some ?_; (refine S_load H 1 T.ty51 rfl rfl (l := zl z vo) rfl (Nat.le_of_ble_eq_true rfl) ?_)
  refine RL_none ?_; (refine S_store (c' := dmc z vo) H 2 T.ty51 rfl rfl rfl rfl (Nat.le_of_ble_eq_true rfl) (by show (Nep.one vo && true) = true; simp [hvo]) rfl ?_; intro w H)
  refine hK12 _ _ (W_keep (Keep.cons 8 rfl Keep.nil) ?_)
  refine W_ret ?_
  (try simp only [thenQ, blockQ, noGotoQ])
  exact body_cell (.inr rfl) rfl rfl (loadV_agg H 2 T.ty51 rfl (l := zl z vo) rfl (Nat.le_of_ble_eq_true rfl)) ⟨_, rfl, ((H.dropAt 6).dropAt 5 |>.dropAt 4 |>.dropAt 3 |>.dropAt 2 |>.dropAt 1)⟩

def dataD (cs : List Cell) (ns : Int) : Nat := cs.countP fun c => decide (c.ns = ns ∧ c.s.head.kind = 1)
theorem rData_spec (z : Z4) (v : Value) (cs : List Cell) (ns : Int) (hlen : cs.length ≤ 500000) {w0 w : World} {L : List Asn} (H : St w0 w (CT v cs :: L)) :
    Calls Try.prog 38 #[.agg (dmc z v), i64 ns] w (After fun r w' => r = i64 (dataD cs ns) ∧ St w0 w' (CT v cs :: L)) := by
  obtain ⟨ad, cap, rfl, _⟩ := H.tabVal
  refine calls_of_W (N := 36) (args := [.agg (dmc z (.slice ad cs.length cap)), i64 ns]) Try.func38 rfl Try.ntmps38 (by simp) ?_
  refine W_seq_k fun K1 hK1 => ?_
  refine W_reg rfl ?_
  refine RL_some ?_; (refine S_box H rfl ?_; intro b2 w H)
  refine RL_some ?_; (refine X_assign rfl ?_)
  refine hK1 _ _ (W_keep (Keep.cons 1 rfl (Keep.cons 2 rfl Keep.nil)) ?_)
  refine W_seq_k fun K2 hK2 => ?_
  refine W_reg rfl ?_
  refine RL_some ?_; (refine X_assign rfl ?_)
  refine hK2 _ _ (W_keep (Keep.cons 1 rfl (Keep.cons 2 rfl (Keep.cons 5 rfl Keep.nil))) ?_)
  refine W_seq_k fun K3 hK3 => ?_
  refine W_seq_k fun K4 hK4 => ?_
  refine W_reg rfl ?_
  refine RL_some ?_; (refine X_assign rfl ?_)
  refine hK4 _ _ (W_keep (Keep.cons 1 rfl (Keep.cons 2 rfl (Keep.cons 5 rfl (Keep.cons 6 rfl Keep.nil)))) ?_)
  refine W_block ?_
  refine W_loop (fun left pf w => ∃ i : Nat, i + left = cs.length ∧ Keep pf [(1, i64 ns), (2, pt b2 0), (5, i64 (dataD (cs.take i) ns)), (6, i64 i)] ∧ St w0 w (Cs b2 (dmc z (.slice ad cs.length cap)) 51 :: CT (.slice ad cs.length cap) cs :: L)) (cs.length) ?_ ?_
  · skip
    exact ⟨0, by omega, (Keep.cons 1 rfl (Keep.cons 2 rfl (Keep.cons 5 rfl (Keep.cons 6 rfl Keep.nil)))), H⟩
  clear H
  rintro left pf w ⟨i, hi, hpf, H⟩
  refine W_keep hpf ?_
  clear hpf
  have hcnt : dataD (cs.take i) ns ≤ i := by have := List.countP_le_length (p := fun c : Cell => decide (c.ns = ns ∧ c.s.head.kind = 1)) (l := cs.take i); unfold dataD; simp at this ⊢; omega
  refine W_seq_k fun K5 hK5 => ?_
  refine W_seq_k fun K6 hK6 => ?_
  refine W_reg rfl ?_
  refine RL_some ?_; (refine X_move rfl ?_)
  refine RL_some ?_; (refine X_fieldAddr T.fd51_1 rfl ?_)
  refine RL_some ?_; (refine S_load1 H 0 T.ty49 rfl rfl (v := .slice ad cs.length cap) rfl ?_)
  refine RL_some ?_; (refine X_len T.sl49 rfl ?_)
  refine RL_some ?_; (first | refine X_cmp_t rfl rfl rfl (by first | assumption | omega) ?_ | refine X_cmp_f rfl rfl rfl (by first | assumption | omega) ?_ | refine X_bin rfl rfl rfl ?_)
  refine hK6 _ _ (W_keep (Keep.cons 1 rfl (Keep.cons 2 rfl (Keep.cons 5 rfl (Keep.cons 6 rfl (Keep.cons 11 rfl Keep.nil))))) ?_)
  refine W_if rfl (fun c => ?_) (fun c => ?_)
  · skip
    refine W_skip ?_
    refine hK5 _ _ (W_keep (Keep.cons 1 rfl (Keep.cons 2 rfl (Keep.cons 5 rfl (Keep.cons 6 rfl (Keep.cons 11 rfl Keep.nil))))) ?_)
    refine W_seq_k fun K7 hK7 => ?_
    refine W_block ?_
    refine W_seq_k fun K8 hK8 => ?_
    have c := of_decide_eq_true c
    obtain ⟨x, hx⟩ : ∃ x, cs[i]? = some x := ⟨_, List.getElem?_eq_getElem (by omega)⟩
    obtain ⟨g, cap', hv, _⟩ := H.tabPos' 1 rfl (by omega)
    simp only [Value.slice.injEq] at hv
    obtain ⟨rfl, _, rfl⟩ := hv
    have htk : dataD (cs.take (i + 1)) ns = dataD (cs.take i) ns + if x.ns = ns ∧ x.s.head.kind = 1 then 1 else 0 := by
      unfold dataD
      rw [List.take_add_one, hx, List.countP_append]
      simp only [Option.toList_some, List.countP_singleton, decide_eq_true_eq]
    refine W_boolR 32 (x.ns = ns ∧ x.s.head.kind = 1) [1, 2, 5, 6] H ?_ ?_
    · by_cases e1 : x.ns = ns
      all_goals
        refine W_reg rfl ?_
        refine RL_some ?_; (refine X_fieldAddr T.fd51_1 rfl ?_)
        refine RL_some ?_; (refine S_load1 H 0 T.ty49 rfl rfl (v := sl g 0 cs.length cap) rfl ?_)
        refine RL_some ?_; (refine X_move rfl ?_)
        refine RL_some ?_; (refine X_idx T.sl49 rfl rfl (by omega) (by omega) ?_)
        refine RL_some ?_; (refine X_fieldAddr T.fd63_0 rfl ?_)
        refine RL_some ?_; (refine S_loadT1 (v := i64 x.ns) H 1 T.ty3 rfl cell_len rfl (j := i) (o := 0) (by omega) hx (by decide) rfl ?_)
        refine RL_some ?_; (refine X_move rfl ?_)
        refine RL_some ?_; (first | refine X_cmp_t rfl rfl rfl (by first | assumption | omega) ?_ | refine X_cmp_f rfl rfl rfl (by first | assumption | omega) ?_ | refine X_bin rfl rfl rfl ?_)
        refine RL_some ?_; (refine X_move rfl ?_)
        (first | refine RL_off rfl rfl ?_ | refine RL_off' rfl rfl ?_ | (refine RL_on rfl rfl ?_; (refine X_fieldAddr T.fd51_1 rfl ?_)))
        (first | refine RL_off rfl rfl ?_ | refine RL_off' rfl rfl ?_ | (refine RL_on rfl rfl ?_; (refine S_load1 H 0 T.ty49 rfl rfl (v := sl g 0 cs.length cap) rfl ?_)))
        (first | refine RL_off rfl rfl ?_ | refine RL_off' rfl rfl ?_ | (refine RL_on rfl rfl ?_; (refine X_move rfl ?_)))
        (first | refine RL_off rfl rfl ?_ | refine RL_off' rfl rfl ?_ | (refine RL_on rfl rfl ?_; (refine X_idx T.sl49 rfl rfl (by omega) (by omega) ?_)))
        (first | refine RL_off rfl rfl ?_ | refine RL_off' rfl rfl ?_ | (refine RL_on rfl rfl ?_; (refine X_fieldAddr T.fd63_2 rfl ?_)))
        (first | refine RL_off rfl rfl ?_ | refine RL_off' rfl rfl ?_ | (refine RL_on rfl rfl ?_; (refine X_fieldAddr T.fd32_1 rfl ?_)))
        (first | refine RL_off rfl rfl ?_ | refine RL_off' rfl rfl ?_ | (refine RL_on rfl rfl ?_; (refine X_fieldAddr T.fd27_0 rfl ?_)))
        (first | refine RL_off rfl rfl ?_ | refine RL_off' rfl rfl ?_ | (refine RL_on rfl rfl ?_; (refine S_loadT1 (v := i64 x.s.head.kind) H 1 T.ty3 rfl cell_len rfl (j := i) (o := 4) (by omega) hx (by decide) rfl ?_)))
        (first | refine RL_off rfl rfl ?_ | refine RL_off' rfl rfl ?_ | (refine RL_on rfl rfl ?_; (first | refine X_cmp_t rfl rfl rfl (by first | assumption | omega) ?_ | refine X_cmp_f rfl rfl rfl (by first | assumption | omega) ?_ | refine X_bin rfl rfl rfl ?_)))
        refine RL_some ?_; (refine X_pick rfl rfl ?_)
        exact ⟨_, by simp [e1], rfl, ⟨rfl, rfl, rfl, rfl, trivial⟩, H⟩
    intro q w hq H
    skip
    refine hK8 _ _ (W_keep (Keep.cons 1 rfl (Keep.cons 2 rfl (Keep.cons 5 rfl (Keep.cons 6 rfl (Keep.cons 32 rfl Keep.nil))))) ?_)
    refine W_if rfl (fun d => ?_) (fun d => ?_)
    · skip
      refine W_reg rfl ?_
      refine RL_some ?_; (refine X_move rfl ?_)
      refine RL_some ?_; (first | refine X_int rfl rfl rfl (by omega) ?_ | refine X_bin rfl rfl rfl ?_)
      refine RL_some ?_; (refine X_assign rfl ?_)
      refine hK7 _ _ (W_keep (Keep.cons 1 rfl (Keep.cons 2 rfl (Keep.cons 5 rfl (Keep.cons 6 rfl Keep.nil)))) ?_)
      refine W_reg rfl ?_
      refine RL_some ?_; (refine X_move rfl ?_)
      refine RL_some ?_; (first | refine X_int rfl rfl rfl (by omega) ?_ | refine X_bin rfl rfl rfl ?_)
      refine RL_some ?_; (refine X_assign rfl ?_)
      refine ⟨left - 1, by omega, i + 1, by omega, ?_, H⟩
      rw [htk, if_pos (hq.1 d)]
      exact (Keep.cons 1 rfl (Keep.cons 2 rfl (Keep.cons 5 rfl (Keep.cons 6 rfl Keep.nil))))
    refine W_skip ?_
    refine hK7 _ _ (W_keep (Keep.cons 1 rfl (Keep.cons 2 rfl (Keep.cons 5 rfl (Keep.cons 6 rfl (Keep.cons 32 rfl Keep.nil))))) ?_)
    refine W_reg rfl ?_
    refine RL_some ?_; (refine X_move rfl ?_)
    refine RL_some ?_; (first | refine X_int rfl rfl rfl (by omega) ?_ | refine X_bin rfl rfl rfl ?_)
    refine RL_some ?_; (refine X_assign rfl ?_)
    refine ⟨left - 1, by omega, i + 1, by omega, ?_, H⟩
    rw [htk, if_neg (fun h => by rw [hq.2 h] at d; cases d)]
    exact (Keep.cons 1 rfl (Keep.cons 2 rfl (Keep.cons 5 rfl (Keep.cons 6 rfl Keep.nil))))
  refine W_exit ?_
  refine hK3 _ _ (W_keep (Keep.cons 1 rfl (Keep.cons 2 rfl (Keep.cons 5 rfl (Keep.cons 6 rfl (Keep.cons 11 rfl Keep.nil))))) ?_)
  refine W_seq_k fun K9 hK9 => ?_
  have c := of_decide_eq_false c
  obtain rfl : i = cs.length := by omega
  rw [List.take_length]
  refine W_reg rfl ?_
  refine RL_some ?_; (refine X_move rfl ?_)
  refine RL_some ?_; (refine X_assign rfl ?_)
  refine hK9 _ _ (W_keep (Keep.cons 4 rfl Keep.nil) ?_)
  refine W_ret ?_
  (try simp only [thenQ, blockQ, noGotoQ])
  refine body_tmp (.inr rfl) rfl rfl ?_
  exact ⟨rfl, H.drop⟩
end Go.Proofs.Ytinngnckojbpnaa
