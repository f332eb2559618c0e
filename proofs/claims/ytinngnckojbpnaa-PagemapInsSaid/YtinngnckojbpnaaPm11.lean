import Derived.Test.YtinngnckojbpnaaPm10
import Derived.Test.YtinngnckojbpnaaNepSort
import Derived.Shelf.SlSortCmp.SmallK
/-! pagemap: places in order: less, told. -/
namespace Go.Proofs.Ytinngnckojbpnaa
open Go.Nep Go.Sort Go.Shelf Go.Proofs
set_option maxRecDepth 100000
set_option linter.unusedVariables false
set_option linter.unusedSimpArgs false
set_option maxHeartbeats 800000

instance : Inhabited Pl := ⟨⟨0, 0⟩⟩

/-- what 'less' answers -/
def cmpW (x y : Pl) : Int := if x.b = y.b then IntKind.i64.wrap (x.p - y.p) else IntKind.i64.wrap (x.b - y.b)

theorem less_exact (x y : Pl) (w0 : World) : Calls Try.prog 42 #[.agg x.enc.toArray, .agg y.enc.toArray] w0 (After fun v w' => v = i64 (cmpW x y) ∧ ∃ os, w' = grow w0 os) := by
  have h0 : ((w0.alloc (.cells (Value.agg x.enc.toArray).cells 23)).alloc (.cells (Value.agg y.enc.toArray).cells 23)).heap[w0.heap.size]? = some (.cells x.enc.toArray 23 (0, 0)) := by
    rw [alloc_heap, if_neg (by show ¬ _ = (w0.heap.push _).size; simp), alloc_heap, if_pos rfl]
    rfl
  have h1 : ((w0.alloc (.cells (Value.agg x.enc.toArray).cells 23)).alloc (.cells (Value.agg y.enc.toArray).cells 23)).heap[(w0.alloc (.cells (Value.agg x.enc.toArray).cells 23)).heap.size]? = some (.cells y.enc.toArray 23 (0, 0)) := by
    rw [alloc_heap, if_pos rfl]
    rfl
  have hg : ∃ os, (w0.alloc (.cells (Value.agg x.enc.toArray).cells 23)).alloc (.cells (Value.agg y.enc.toArray).cells 23) = grow w0 os := ⟨_, by rw [alloc_eq_grow, alloc_eq_grow, grow_grow]⟩
  by_cases hb : x.b = y.b
  all_goals
    refine calls_of_W (N := 20) (args := [.agg x.enc.toArray, .agg y.enc.toArray]) Try.func42 rfl Try.ntmps42 (by simp) ?_
    refine W_seq_k fun K1 hK1 => ?_
    refine W_reg rfl ?_
    refine RL_some ?_; (refine X_box rfl ?_)
    refine RL_some ?_; (refine X_box rfl ?_)
    refine RL_some ?_; (refine X_assign rfl ?_)
    refine hK1 _ _ (W_keep (Keep.cons 2 rfl (Keep.cons 3 rfl Keep.nil)) ?_)
    generalize (w0.alloc (.cells (Value.agg x.enc.toArray).cells 23)).alloc (.cells (Value.agg y.enc.toArray).cells 23) = w2 at *
    generalize (w0.alloc (.cells (Value.agg x.enc.toArray).cells 23)).heap.size = b2 at *
    refine W_seq_k fun K2 hK2 => ?_
    refine W_seq_k fun K3 hK3 => ?_
    refine W_reg rfl ?_
    refine RL_some ?_; (refine X_fieldAddr T.fd23_0 rfl ?_)
    refine RL_some ?_; (refine X_load1 T.ty3 rfl (v := i64 x.b) (by rw [cell_of h0]; rfl) ?_)
    refine RL_some ?_; (refine X_fieldAddr T.fd23_0 rfl ?_)
    refine RL_some ?_; (refine X_load1 T.ty3 rfl (v := i64 y.b) (by rw [cell_of h1]; rfl) ?_)
    refine RL_some ?_; (first | refine X_ne_t rfl rfl rfl (by first | assumption | omega) ?_ | refine X_ne_f rfl rfl rfl (by first | assumption | omega) ?_ | refine X_bin rfl rfl rfl ?_)
    refine hK3 _ _ (W_keep (Keep.cons 2 rfl (Keep.cons 3 rfl (Keep.cons 9 rfl Keep.nil))) ?_)
  · refine W_false rfl (W_skip (hK2 _ _ ?_))
    refine W_seq_k fun K4 hK4 => ?_
    refine W_reg rfl ?_
    refine RL_some ?_; (refine X_fieldAddr T.fd23_1 rfl ?_)
    refine RL_some ?_; (refine X_load1 T.ty3 rfl (v := i64 x.p) (by rw [cell_of h0]; rfl) ?_)
    refine RL_some ?_; (refine X_fieldAddr T.fd23_1 rfl ?_)
    refine RL_some ?_; (refine X_load1 T.ty3 rfl (v := i64 y.p) (by rw [cell_of h1]; rfl) ?_)
    refine RL_some ?_; (refine X_bin rfl rfl rfl ?_)
    refine RL_some ?_; (refine X_assign rfl ?_)
    refine hK4 _ _ (W_keep (Keep.cons 4 rfl Keep.nil) ?_)
    refine W_ret ?_
    (try simp only [thenQ, blockQ, noGotoQ])
    refine body_tmp (.inr rfl) rfl rfl ?_
    exact ⟨by simp [cmpW, hb], hg⟩
  · refine W_true rfl ?_
    refine W_seq_k fun K4 hK4 => ?_
    refine W_reg rfl ?_
    refine RL_some ?_; (refine X_fieldAddr T.fd23_0 rfl ?_)
    refine RL_some ?_; (refine X_load1 T.ty3 rfl (v := i64 x.b) (by rw [cell_of h0]; rfl) ?_)
    refine RL_some ?_; (refine X_fieldAddr T.fd23_0 rfl ?_)
    refine RL_some ?_; (refine X_load1 T.ty3 rfl (v := i64 y.b) (by rw [cell_of h1]; rfl) ?_)
    refine RL_some ?_; (refine X_bin rfl rfl rfl ?_)
    refine RL_some ?_; (refine X_assign rfl ?_)
    refine hK4 _ _ (W_keep (Keep.cons 4 rfl Keep.nil) ?_)
    refine W_ret ?_
    (try simp only [thenQ, blockQ, noGotoQ])
    refine body_tmp (.inr rfl) rfl rfl ?_
    exact ⟨by simp [cmpW, hb], hg⟩
/-- a call's row, sorted: the slice and its cells -/
theorem row_parts {v : Value} {n : Nat} {cs : List Value} {w0 w : World} {L : List Asn} (hn : 0 < n) (H : St w0 w (Row v 23 2 n cs :: L)) :
    ∃ g cap cur, v = sl g 0 n cap ∧ n ≤ cap ∧ cap ≤ maxLen ∧ cur.size = cap * 2 ∧ cur.toList.take (n * 2) = cs ∧ St w0 w (Cs g cur 23 :: L) := by
  obtain ⟨hb, h, ⟨h1, h2, ⟨hl, hp⟩, s⟩, r⟩ := H
  rcases hp with ⟨_, h3, _⟩ | ⟨g, cap, cur, h3, h4, h5, h6, h7, h8⟩
  · omega
  · exact ⟨g, cap, cur, h3, h4, h5, h6, h7, hb, h, ⟨h1, h2, h8, s⟩, r⟩

/-- at twelve places or fewer, whatever they are -/
def sortS (outs : List Pl) : List Pl := (Go.Sort.insertionSort (ltOf cmpW) outs.toArray 0 outs.toArray.size).toList
theorem sortS_len (outs : List Pl) : (sortS outs).length = outs.length := by
  unfold sortS
  rw [Array.length_toList, insertionSort_size]
  simp

theorem plEnc_one (x : Pl) : ∀ v ∈ x.enc, v.oneCell' = true := by
  intro v hv
  simp [Pl.enc] at hv
  rcases hv with rfl | rfl <;> rfl

theorem len_any (n : Nat) (W : World) (h : n ≤ 12) : Calls Try.prog (Try.sortPl_ren.f 15) #[.int .u64 n] W fun e w' => (∃ l : Int, e = .returned (.int .i64 l)) ∧ w' = W :=
  (Any.bits_Len (SlLaysF0.n15.bits (P := Try.prog) (ρ := Try.sortPl_ren) { Try.sortPl with }) n W (by omega) (by omega)).mono fun _ _ ⟨he, hw⟩ => ⟨⟨_, he⟩, hw⟩

theorem isAggPl (w : World) : (isAgg 23).run Try.prog w = .ok true w := tyB_agg T.ty23 w
theorem sizePl (w : World) : (Go.sizeOf 23).run Try.prog w = .ok 2 w := tyB_size T.ty23 w

theorem told_small (outs : List Pl) (h12 : outs.length ≤ 12) {v : Value} {w0 w : World} {L : List Asn} (H : St w0 w (Row v 23 2 outs.length (outs.flatMap Pl.enc) :: L)) :
    Calls Try.prog 30 #[v] w (After fun u w' => St w0 w' (Row u 23 2 outs.length ((sortS outs).flatMap Pl.enc) :: L)) := by
  rcases Nat.eq_zero_or_pos outs.length with h0 | h0
  · obtain rfl : outs = [] := List.length_eq_zero_iff.1 h0
    have e0 : sortS [] = [] := List.length_eq_zero_iff.1 (sortS_len [])
    rw [e0]
    exact told_none H
  obtain ⟨g, cap, cur, rfl, hcap, hmax, hcs, htk, H⟩ := row_parts h0 H
  have eg : ∀ args w, (callFunc 42 args).run Try.prog w = .ok (.enter 42 args) w := enters_of Try.func42 (by kernel_rfl) rfl
  have hcmp : CmpLays Try.prog 42 #[] Pl.enc 2 cmpW g 0 outs.toArray.size w := fun m os dk _ x y => (less_exact x y _).mono fun e w' he => by
    cases e with
    | returned v => obtain ⟨rfl, os', hw⟩ := he; exact ⟨rfl, 0, os', hw⟩
    | _ => exact he.elim
  have hcon := AnyQ.slices_SortFunc_small Try.sortPl 2 isAggPl sizePl Pl.enc (fun _ => rfl) plEnc_one cmpW 42 #[] g 0 cap outs.toArray w eg hcmp
    (holdsK_of (enc := Pl.enc) (k := 2) (fun _ => rfl) outs.toArray H (by simpa using htk)) H.lt (by simpa using h12) len_any
  have hcon2 : Calls Try.prog 43 #[sl g 0 outs.length cap, .func (.func 42) #[] #[]] w fun e w' => e = .returned (.tuple #[]) ∧ ∃ n os, w' = sortWorldK Pl.enc 2 w g 0 n (Go.Sort.insertionSort (ltOf cmpW) outs.toArray 0 outs.toArray.size) os := by
    have e1 : outs.toArray.size = outs.length := by simp
    rw [← e1]
    exact hcon
  clear hcon hcmp eg
  refine calls_of_W (N := 6) (args := [sl g 0 outs.length cap]) Try.func30 rfl Try.ntmps30 (by simp) ?_
  refine W_seq_k fun K1 hK1 => ?_
  refine W_reg rfl ?_
  refine RL_some ?_; (refine X_assign rfl ?_)
  refine hK1 _ _ (W_keep (Keep.cons 0 rfl Keep.nil) ?_)
  refine W_seq_k fun K2 hK2 => ?_
  refine W_reg rfl ?_
  refine RL_some ?_; (refine X_move rfl ?_)
  refine RL_some ?_; (refine X_call T.ent43 rfl (hcon2.mono ?_); rintro e w' ⟨rfl, n, os, rfl⟩)
  refine hK2 _ _ (W_keep (Keep.cons 0 rfl Keep.nil) ?_)
  refine W_seq_k fun K3 hK3 => ?_
  refine W_reg rfl ?_
  refine RL_some ?_; (refine X_move rfl ?_)
  refine RL_some ?_; (refine X_assign rfl ?_)
  refine hK3 _ _ (W_keep (Keep.cons 2 rfl Keep.nil) ?_)
  refine W_ret ?_
  (try simp only [thenQ, blockQ, noGotoQ])
  refine body_tmp (.inr rfl) rfl rfl ?_
  refine (St_sorted H n _ os).imp fun h hp => ?_
  refine ⟨by rw [flat_len Pl.enc (k := 2) (fun _ => rfl), sortS_len], .inr ⟨g, cap, _, rfl, hcap, hmax, ?_, ?_, hp⟩⟩
  · simp [putCells, hcs]
  · have e1 : outs.length * 2 = (flatK Pl.enc 2 (Go.Sort.insertionSort (ltOf cmpW) outs.toArray 0 outs.toArray.size)).size := by
      rw [size_flatK, insertionSort_size]; simp
    rw [e1, put_take (by rw [← e1, hcs]; omega), flatK_eq (enc := Pl.enc) (k := 2) (fun _ => rfl)]
    simp [sortS]
end Go.Proofs.Ytinngnckojbpnaa
