import Derived.Test.YtinngnckojbpnaaPm13
import Derived.Test.YtinngnckojbpnaaNepTab
/-! pagemap: a map as one piece; spots held against each other; slices of arguments, appended. -/
namespace Go.Proofs.Ytinngnckojbpnaa
open Go.Nep Go.Sort Go.Shelf Go.Proofs
set_option maxRecDepth 100000
set_option linter.unusedVariables false
set_option linter.unusedSimpArgs false
set_option maxHeartbeats 800000

theorem hd_eq (d : Nat) (a b : Hd) : EqT Try.prog (d + 2) 27 (.agg a.enc.toArray) (.agg b.enc.toArray) (decide (a = b)) := by
  refine (EqT_struct Try.underlying27 T.sn27 (EqF_cons (by decide) T.ty3 rfl rfl (EqT_int T.in3) (EqF_cons (by decide) T.ty3 rfl rfl (EqT_int T.in3) (EqF_cons (by decide) T.ty3 rfl rfl (EqT_int T.in3)
    (EqF_cons (by decide) T.ty24 rfl rfl (EqT_int T.in24) (EqF_cons (by decide) T.ty25 rfl rfl (EqT_int T.in25) (EqF_cons (by decide) T.ty25 rfl rfl (EqT_int T.in25) .nil))))))).of ?_
  cases a; cases b
  rw [Bool.eq_iff_iff]
  simp
theorem spot_eq (d : Nat) (a b : Spot) : EqT Try.prog (d + 3) 29 (.agg a.enc.toArray) (.agg b.enc.toArray) (decide (a = b)) := by
  refine (EqT_struct Try.underlying29 T.sn29 (EqF_cons (by decide) T.ty23 (px := pk a.place) (py := pk b.place) rfl rfl (pl_eq d a.place b.place) (EqF_cons (by decide) T.ty27 (px := .agg a.head.enc.toArray) (py := .agg b.head.enc.toArray) rfl rfl (hd_eq d a.head b.head)
    (EqF_cons (by decide) T.ty27 (px := .agg a.order.enc.toArray) (py := .agg b.order.enc.toArray) rfl rfl (hd_eq d a.order b.order) .nil)))).of ?_
  cases a; cases b
  rw [Bool.eq_iff_iff]
  simp

/-- a map, all its pieces -/
def PM (m : PMx) : Asn := Star m.at_
theorem New_pm {w0 w : World} {L : List Asn} (H : St w0 w L) :
    Calls Try.prog 12 #[] w (After fun v w' => ∃ p r, v = pt p 0 ∧ St w0 w' (PM (newM p r) :: L)) := by
  refine calls_to (New_spec H) ?_
  rintro v w ⟨p, r, rfl, H⟩
  exact ⟨p, r, rfl, H.shut⟩
theorem Get_pm (m : PMx) (ns lba : Int) {w0 w : World} {L : List Asn} (H : St w0 w (PM m :: L)) :
    Calls Try.prog 15 #[pt m.p 0, i64 ns, i64 lba] w (After fun v w' => v = spotV (getV m ns lba) ∧ St w0 w' (PM m :: L)) := by
  refine calls_to (Get_spec m ns lba H.open_) ?_
  rintro v w ⟨rfl, H⟩
  exact ⟨rfl, H.shut⟩
theorem Put_pm {m : PMx} {N : Nat} {own xs : List Spot} (hI : MapI m N xs) (hu : Unlike own) (h12 : own.length ≤ 12) (hx : ∀ t ∈ xs, t ∈ own) {s : Spot} (hs : s ∈ own) (hok : s.head.ok) (hns : s.head.ns = 1) {w0 w : World} {L : List Asn} (H : St w0 w (PM m :: L)) :
    Calls Try.prog 14 #[pt m.p 0, .agg s.enc.toArray] w (After fun v w' => ∃ m', m'.p = m.p ∧ MapI m' N (xs ++ [s]) ∧ St w0 w' (PM m' :: L)) := by
  refine calls_to (Put_own hI hu h12 hx hs hok hns H.open_) ?_
  rintro v w ⟨m', h1, h2, H⟩
  exact ⟨m', h1, h2, H.shut⟩
theorem Add_new (p r : Nat) (N : Nat) (h0 : 1 ≤ N) (h1 : N ≤ 40) {w0 w : World} {L : List Asn} (H : St w0 w (PM (newM p r) :: L)) :
    Calls Try.prog 13 #[pt p 0, i64 1, i64 N] w (After fun v w' => ∃ m, m.p = p ∧ v = i64 0 ∧ MapI m N [] ∧ St w0 w' (PM m :: L)) := by
  have he : addE (newM p r) 1 N = 0 := by
    unfold addE
    rw [if_neg (by omega)]
    exact if_neg (by show ¬ 0 < ([] : List (Option Spot)).length; simp)
  refine calls_to (Add_spec (newM p r) 1 N H.open_) ?_
  rintro v w ⟨rfl, _, h⟩
  obtain ⟨b, H⟩ := h he
  exact ⟨_, rfl, by rw [he], MapI.new p r b N h1, H.shut⟩

end Go.Proofs.Ytinngnckojbpnaa
