import Derived.Test.YtinngnckojbpnaaPm0
import Derived.Test.YtinngnckojbpnaaNepRes
/-! pagemap: a map in memory; own, Size, New, Add, Get, Refs. -/
namespace Go.Proofs.Ytinngnckojbpnaa
open Go.Nep
set_option maxRecDepth 100000
set_option linter.unusedVariables false
set_option linter.unusedSimpArgs false

def pk (a : Pl) : Value := .agg a.enc.toArray

theorem pl_eq (d : Nat) (a b : Pl) : EqT Try.prog (d + 2) 23 (pk a) (pk b) (decide (a = b)) := by
  refine (EqT_struct Try.underlying23 T.sn23 (.cons (by decide) (run_part T.ty3 rfl) (run_part T.ty3 rfl) (EqT_int T.in3) (.cons (by decide) (run_part T.ty3 rfl) (run_part T.ty3 rfl) (EqT_int T.in3) .nil))).of ?_
  cases a; cases b
  rw [Bool.eq_iff_iff]
  simp

theorem pl_chk (e : Bool) (a : Pl) (w : World) : (Instr.checkKey e 10000 23 (pk a)).run Try.prog w = .ok () w := by
  obtain ⟨m, hm⟩ : ∃ m, 10000 = m + 2 := ⟨9998, rfl⟩
  rw [hm]
  have p0 := run_part (P := Try.prog) (cs := a.enc.toArray) (off := 0) T.ty3 (v := i64 a.b) rfl
  have p1 := run_part (P := Try.prog) (cs := a.enc.toArray) (off := 1) T.ty3 (v := i64 a.p) rfl
  have c0 : ∀ w v, (Instr.checkKey e (m + 1) 3 v).run Try.prog w = .ok () w := by
    intro w v
    unfold Instr.checkKey
    simp [run_und (inB_und T.in3)]
  simp [Instr.checkKey, pk, run_und Try.underlying23, p0, p1, c0]

theorem pl_law : KeyLaw Try.prog 23 pk where
  und := ⟨_, Try.underlying23⟩
  eq := fun a b => pl_eq 9998 a b
  chk := pl_chk
  bits := fun a => by
    simp [pk, Pl.enc, Instr.sameBits]

/-- a slice of so many sectors' cells, the whole of a block -/
def slv (b : Option Nat) (n : Nat) : Value := match b with
  | some b => sl b 0 n n
  | none => .slice none 0 0
/-- a namespace's cells -/
def CRow (b : Option Nat) (cs : List (Option Spot)) : Asn := match b with
  | some b => Cs b (cs.flatMap encC).toArray 76
  | none => Pu (cs = []) (Star [])

/-- a map's parts -/
structure PMx where
  p : Nat
  r : Nat
  bo : Nat → Option Nat
  l : Nat → List (Option Spot)
  E : Ents Pl
  clock : Nat

def PMx.vs (m : PMx) : Array Value := #[slv (m.bo 0) (m.l 0).length, slv (m.bo 1) (m.l 1).length, slv (m.bo 2) (m.l 2).length, slv (m.bo 3) (m.l 3).length, .map (some m.r)]
/-- the memory of a map: six pieces -/
def PMx.at_ (m : PMx) : List Asn := [Cs m.p m.vs 73, Gm pk m.r m.E m.clock, CRow (m.bo 0) (m.l 0), CRow (m.bo 1) (m.l 1), CRow (m.bo 2) (m.l 2), CRow (m.bo 3) (m.l 3)]

theorem vs_get (m : PMx) (k : Nat) (hk : k < 4) : m.vs[k]? = some (slv (m.bo k) (m.l k).length) := by
  obtain rfl | rfl | rfl | rfl : k = 0 ∨ k = 1 ∨ k = 2 ∨ k = 3 := by omega
  all_goals rfl
theorem at_get (m : PMx) (k : Nat) (hk : k < 4) (L : List Asn) : (m.at_ ++ L)[2 + k]? = some (CRow (m.bo k) (m.l k)) := by
  obtain rfl | rfl | rfl | rfl : k = 0 ∨ k = 1 ∨ k = 2 ∨ k = 3 := by omega
  all_goals rfl

/-- the cells that a call of 'own' tells -/
def ownV (m : PMx) (ns : Int) : Value := if 0 ≤ ns ∧ ns < 4 then slv (m.bo ns.toNat) (m.l ns.toNat).length else .slice none 0 0

theorem own_nil (ns : Int) {w : World} : Calls Try.prog 31 #[.pointer none, i64 ns] w (After fun v w' => v = .slice none 0 0 ∧ w' = w) := by
  refine calls_of_W (N := 21) (args := [.pointer none, i64 ns]) Try.func31 rfl Try.ntmps31 (by simp) ?_
  refine W_seq_k fun K1 hK1 => ?_
  refine W_reg rfl ?_
  refine RL_some ?_; (refine X_assign rfl ?_)
  refine hK1 _ _ (W_keep (Keep.cons 0 rfl (Keep.cons 1 rfl Keep.nil)) ?_)
  refine W_seq_k fun K2 hK2 => ?_
  refine W_seq_k fun K3 hK3 => ?_
  refine W_reg rfl ?_
  refine RL_some ?_; (refine X_move rfl ?_)
  refine RL_some ?_; (first | refine X_isnil T.pt37 rfl rfl ?_ | refine X_isnil' T.pt37 rfl rfl ?_)
  refine RL_some ?_; (refine X_move rfl ?_)
  (first | refine RL_off rfl rfl ?_ | refine RL_off' rfl rfl ?_ | (refine RL_on rfl rfl ?_; (refine X_move rfl ?_)))
  (first | refine RL_off rfl rfl ?_ | refine RL_off' rfl rfl ?_ | (refine RL_on rfl rfl ?_; (first | refine X_cmp_t rfl rfl rfl (by first | assumption | omega) ?_ | refine X_cmp_f rfl rfl rfl (by first | assumption | omega) ?_ | refine X_bin rfl rfl rfl ?_)))
  refine RL_some ?_; (refine X_pick rfl rfl ?_)
  refine RL_some ?_; (refine X_move rfl ?_)
  (first | refine RL_off rfl rfl ?_ | refine RL_off' rfl rfl ?_ | (refine RL_on rfl rfl ?_; (refine X_move rfl ?_)))
  (first | refine RL_off rfl rfl ?_ | refine RL_off' rfl rfl ?_ | (refine RL_on rfl rfl ?_; (first | refine X_cmp_t rfl rfl rfl (by first | assumption | omega) ?_ | refine X_cmp_f rfl rfl rfl (by first | assumption | omega) ?_ | refine X_bin rfl rfl rfl ?_)))
  refine RL_some ?_; (refine X_pick rfl rfl ?_)
  refine hK3 _ _ (W_keep (Keep.cons 0 rfl (Keep.cons 1 rfl (Keep.cons 14 rfl Keep.nil))) ?_)
  refine W_true rfl ?_
  refine W_seq_k fun K4 hK4 => ?_
  refine W_reg rfl ?_
  refine RL_some ?_; (refine X_assign rfl ?_)
  refine hK4 _ _ (W_keep (Keep.cons 4 rfl Keep.nil) ?_)
  refine W_ret ?_
  (try simp only [thenQ, blockQ, noGotoQ])
  refine body_tmp (.inr rfl) rfl rfl ?_
  exact ⟨rfl, rfl⟩

theorem own_spec (m : PMx) (ns : Int) {w0 w : World} {L : List Asn} (H : St w0 w (m.at_ ++ L)) :
    Calls Try.prog 31 #[pt m.p 0, i64 ns] w (After fun v w' => v = ownV m ns ∧ w' = w) := by
  by_cases h : 0 ≤ ns ∧ ns < 4
  all_goals
    refine calls_of_W (N := 21) (args := [pt m.p 0, i64 ns]) Try.func31 rfl Try.ntmps31 (by simp) ?_
    refine W_seq_k fun K1 hK1 => ?_
    refine W_reg rfl ?_
    refine RL_some ?_; (refine X_assign rfl ?_)
    refine hK1 _ _ (W_keep (Keep.cons 0 rfl (Keep.cons 1 rfl Keep.nil)) ?_)
    refine W_seq_k fun K2 hK2 => ?_
    refine W_seq_k fun K3 hK3 => ?_
  · obtain ⟨h0, h4⟩ := h
    refine W_reg rfl ?_
    refine RL_some ?_; (refine X_move rfl ?_)
    refine RL_some ?_; (first | refine X_isnil T.pt37 rfl rfl ?_ | refine X_isnil' T.pt37 rfl rfl ?_)
    refine RL_some ?_; (refine X_move rfl ?_)
    (first | refine RL_off rfl rfl ?_ | refine RL_off' rfl rfl ?_ | (refine RL_on rfl rfl ?_; (refine X_move rfl ?_)))
    (first | refine RL_off rfl rfl ?_ | refine RL_off' rfl rfl ?_ | (refine RL_on rfl rfl ?_; (first | refine X_cmp_t rfl rfl rfl (by first | assumption | omega) ?_ | refine X_cmp_f rfl rfl rfl (by first | assumption | omega) ?_ | refine X_bin rfl rfl rfl ?_)))
    refine RL_some ?_; (refine X_pick rfl rfl ?_)
    refine RL_some ?_; (refine X_move rfl ?_)
    (first | refine RL_off rfl rfl ?_ | refine RL_off' rfl rfl ?_ | (refine RL_on rfl rfl ?_; (refine X_move rfl ?_)))
    (first | refine RL_off rfl rfl ?_ | refine RL_off' rfl rfl ?_ | (refine RL_on rfl rfl ?_; (first | refine X_cmp_t rfl rfl rfl (by first | assumption | omega) ?_ | refine X_cmp_f rfl rfl rfl (by first | assumption | omega) ?_ | refine X_bin rfl rfl rfl ?_)))
    refine RL_some ?_; (refine X_pick rfl rfl ?_)
    refine hK3 _ _ (W_keep (Keep.cons 0 rfl (Keep.cons 1 rfl (Keep.cons 14 rfl Keep.nil))) ?_)
    refine W_false rfl (W_skip (hK2 _ _ ?_))
    refine W_seq_k fun K4 hK4 => ?_
    refine W_reg rfl ?_
    refine RL_some ?_; (refine X_move rfl ?_)
    refine RL_some ?_; (refine X_move rfl ?_)
    refine RL_some ?_; (first | refine X_nil rfl ?_ | refine X_nil_func rfl ?_)
    refine RL_some ?_; (refine X_fieldAddr T.fd73_0 rfl ?_)
    refine RL_some ?_; (refine X_idxA T.ar71 rfl rfl (by omega) (by omega) ?_)
    refine RL_some ?_; (refine X_load1 T.ty70 rfl (by rw [cell_of (H.rdC 0 rfl)]; simpa using vs_get m ns.toNat (by omega)) ?_)
    refine RL_some ?_; (refine X_assign rfl ?_)
    refine hK4 _ _ (W_keep (Keep.cons 4 rfl Keep.nil) ?_)
    refine W_ret ?_
    (try simp only [thenQ, blockQ, noGotoQ])
    refine body_tmp (.inr rfl) rfl rfl ?_
    exact ⟨by simp [ownV, h0, h4], rfl⟩
  · have h' : ns < 0 ∨ 4 ≤ ns := by omega
    rcases h' with h' | h'
    all_goals
      refine W_reg rfl ?_
      refine RL_some ?_; (refine X_move rfl ?_)
      refine RL_some ?_; (first | refine X_isnil T.pt37 rfl rfl ?_ | refine X_isnil' T.pt37 rfl rfl ?_)
      refine RL_some ?_; (refine X_move rfl ?_)
      (first | refine RL_off rfl rfl ?_ | refine RL_off' rfl rfl ?_ | (refine RL_on rfl rfl ?_; (refine X_move rfl ?_)))
      (first | refine RL_off rfl rfl ?_ | refine RL_off' rfl rfl ?_ | (refine RL_on rfl rfl ?_; (first | refine X_cmp_t rfl rfl rfl (by first | assumption | omega) ?_ | refine X_cmp_f rfl rfl rfl (by first | assumption | omega) ?_ | refine X_bin rfl rfl rfl ?_)))
      refine RL_some ?_; (refine X_pick rfl rfl ?_)
      refine RL_some ?_; (refine X_move rfl ?_)
      (first | refine RL_off rfl rfl ?_ | refine RL_off' rfl rfl ?_ | (refine RL_on rfl rfl ?_; (refine X_move rfl ?_)))
      (first | refine RL_off rfl rfl ?_ | refine RL_off' rfl rfl ?_ | (refine RL_on rfl rfl ?_; (first | refine X_cmp_t rfl rfl rfl (by first | assumption | omega) ?_ | refine X_cmp_f rfl rfl rfl (by first | assumption | omega) ?_ | refine X_bin rfl rfl rfl ?_)))
      refine RL_some ?_; (refine X_pick rfl rfl ?_)
      refine hK3 _ _ (W_keep (Keep.cons 0 rfl (Keep.cons 1 rfl (Keep.cons 14 rfl Keep.nil))) ?_)
      refine W_true rfl ?_
      refine W_seq_k fun K4 hK4 => ?_
      refine W_reg rfl ?_
      refine RL_some ?_; (refine X_assign rfl ?_)
      refine hK4 _ _ (W_keep (Keep.cons 4 rfl Keep.nil) ?_)
      refine W_ret ?_
      (try simp only [thenQ, blockQ, noGotoQ])
      refine body_tmp (.inr rfl) rfl rfl ?_
      exact ⟨by simp [ownV, h], rfl⟩
end Go.Proofs.Ytinngnckojbpnaa
