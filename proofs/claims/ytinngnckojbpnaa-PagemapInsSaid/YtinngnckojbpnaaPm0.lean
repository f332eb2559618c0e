import Derived.Test.YtinngnckojbpnaaFacts
import Derived.Test.YtinngnckojbpnaaNepFlat
/-! pagemap: what it speaks of; heads held against each other. -/
namespace Go.Proofs.Ytinngnckojbpnaa
open Go.Nep
set_option maxRecDepth 100000
set_option linter.unusedVariables false
set_option linter.unusedSimpArgs false

structure Pl where
  b : Int
  p : Int
  deriving DecidableEq
structure Hd where
  kind : Int
  ns : Int
  count : Int
  lba : Int
  epoch : Int
  counter : Int
  deriving DecidableEq
structure Spot where
  place : Pl
  head : Hd
  order : Hd
  deriving DecidableEq

def Pl.enc (a : Pl) : List Value := [i64 a.b, i64 a.p]
def Hd.enc (h : Hd) : List Value := [i64 h.kind, i64 h.ns, i64 h.count, .int .u32 h.lba, .int .u64 h.epoch, .int .u64 h.counter]
def Spot.enc (s : Spot) : List Value :=
  [i64 s.place.b, i64 s.place.p, i64 s.head.kind, i64 s.head.ns, i64 s.head.count, .int .u32 s.head.lba, .int .u64 s.head.epoch, .int .u64 s.head.counter,
   i64 s.order.kind, i64 s.order.ns, i64 s.order.count, .int .u32 s.order.lba, .int .u64 s.order.epoch, .int .u64 s.order.counter]
def noHd : Hd := ⟨0, 0, 0, 0, 0, 0⟩
def noSpot : Spot := ⟨⟨0, 0⟩, noHd, noHd⟩
/-- a sector's cell -/
def encC : Option Spot → List Value
  | none => .bool false :: noSpot.enc
  | some s => .bool true :: s.enc
theorem encC_len (c : Option Spot) : (encC c).length = 15 := by cases c <;> rfl

def lessH (a b : Hd) : Bool := if a.epoch = b.epoch then decide (a.counter < b.counter) else decide (a.epoch < b.epoch)
def newer (a b : Spot) : Bool := if lessH b.head a.head then true else if lessH a.head b.head then false else lessH b.order a.order

theorem Less_spec (a b : Hd) {w0 w : World} {L : List Asn} (H : St w0 w L) :
    Calls Try.prog 26 #[.agg a.enc.toArray, .agg b.enc.toArray] w (After fun v w' => v = .bool (lessH a b) ∧ St w0 w' L) := by
  by_cases he : a.epoch = b.epoch
  all_goals
    refine calls_of_W (N := 20) (args := [.agg a.enc.toArray, .agg b.enc.toArray]) Try.func26 rfl Try.ntmps26 (by simp) ?_
    refine W_seq_k fun K1 hK1 => ?_
    refine W_reg rfl ?_
    refine RL_some ?_; (refine S_box H rfl ?_; intro b2 w H)
    refine RL_some ?_; (refine S_box H rfl ?_; intro b3 w H)
    refine RL_some ?_; (refine X_assign rfl ?_)
    refine hK1 _ _ (W_keep (Keep.cons 2 rfl (Keep.cons 3 rfl Keep.nil)) ?_)
    refine W_seq_k fun K2 hK2 => ?_
    refine W_seq_k fun K3 hK3 => ?_
    refine W_reg rfl ?_
    refine RL_some ?_; (refine X_fieldAddr T.fd27_4 rfl ?_)
    refine RL_some ?_; ((first | refine S_load1 H 0 T.ty25 rfl rfl rfl ?_ | refine S_load1 H 1 T.ty25 rfl rfl rfl ?_ | refine S_load1 H 2 T.ty25 rfl rfl rfl ?_ | refine S_load1 H 3 T.ty25 rfl rfl rfl ?_ | refine S_load1 H 4 T.ty25 rfl rfl rfl ?_ | refine S_load1 H 5 T.ty25 rfl rfl rfl ?_ | refine S_load1 H 6 T.ty25 rfl rfl rfl ?_ | refine S_load1 H 7 T.ty25 rfl rfl rfl ?_ | refine S_load1 H 8 T.ty25 rfl rfl rfl ?_ | refine S_load1 H 9 T.ty25 rfl rfl rfl ?_))
    refine RL_some ?_; (refine X_fieldAddr T.fd27_4 rfl ?_)
    refine RL_some ?_; ((first | refine S_load1 H 0 T.ty25 rfl rfl rfl ?_ | refine S_load1 H 1 T.ty25 rfl rfl rfl ?_ | refine S_load1 H 2 T.ty25 rfl rfl rfl ?_ | refine S_load1 H 3 T.ty25 rfl rfl rfl ?_ | refine S_load1 H 4 T.ty25 rfl rfl rfl ?_ | refine S_load1 H 5 T.ty25 rfl rfl rfl ?_ | refine S_load1 H 6 T.ty25 rfl rfl rfl ?_ | refine S_load1 H 7 T.ty25 rfl rfl rfl ?_ | refine S_load1 H 8 T.ty25 rfl rfl rfl ?_ | refine S_load1 H 9 T.ty25 rfl rfl rfl ?_))
    refine RL_some ?_; (first | refine X_ne_t rfl rfl rfl (by first | assumption | omega) ?_ | refine X_ne_f rfl rfl rfl (by first | assumption | omega) ?_ | refine X_bin rfl rfl rfl ?_)
    refine hK3 _ _ (W_keep (Keep.cons 2 rfl (Keep.cons 3 rfl (Keep.cons 9 rfl Keep.nil))) ?_)
  · refine W_false rfl (W_skip (hK2 _ _ ?_))
    refine W_seq_k fun K4 hK4 => ?_
    refine W_reg rfl ?_
    refine RL_some ?_; (refine X_fieldAddr T.fd27_5 rfl ?_)
    refine RL_some ?_; ((first | refine S_load1 H 0 T.ty25 rfl rfl rfl ?_ | refine S_load1 H 1 T.ty25 rfl rfl rfl ?_ | refine S_load1 H 2 T.ty25 rfl rfl rfl ?_ | refine S_load1 H 3 T.ty25 rfl rfl rfl ?_ | refine S_load1 H 4 T.ty25 rfl rfl rfl ?_ | refine S_load1 H 5 T.ty25 rfl rfl rfl ?_ | refine S_load1 H 6 T.ty25 rfl rfl rfl ?_ | refine S_load1 H 7 T.ty25 rfl rfl rfl ?_ | refine S_load1 H 8 T.ty25 rfl rfl rfl ?_ | refine S_load1 H 9 T.ty25 rfl rfl rfl ?_))
    refine RL_some ?_; (refine X_fieldAddr T.fd27_5 rfl ?_)
    refine RL_some ?_; ((first | refine S_load1 H 0 T.ty25 rfl rfl rfl ?_ | refine S_load1 H 1 T.ty25 rfl rfl rfl ?_ | refine S_load1 H 2 T.ty25 rfl rfl rfl ?_ | refine S_load1 H 3 T.ty25 rfl rfl rfl ?_ | refine S_load1 H 4 T.ty25 rfl rfl rfl ?_ | refine S_load1 H 5 T.ty25 rfl rfl rfl ?_ | refine S_load1 H 6 T.ty25 rfl rfl rfl ?_ | refine S_load1 H 7 T.ty25 rfl rfl rfl ?_ | refine S_load1 H 8 T.ty25 rfl rfl rfl ?_ | refine S_load1 H 9 T.ty25 rfl rfl rfl ?_))
    refine RL_some ?_; (first | refine X_cmp_t rfl rfl rfl (by first | assumption | omega) ?_ | refine X_cmp_f rfl rfl rfl (by first | assumption | omega) ?_ | refine X_bin rfl rfl rfl ?_)
    refine RL_some ?_; (refine X_assign rfl ?_)
    refine hK4 _ _ (W_keep (Keep.cons 4 rfl Keep.nil) ?_)
    refine W_ret ?_
    (try simp only [thenQ, blockQ, noGotoQ])
    refine body_tmp (.inr rfl) rfl rfl ?_
    exact ⟨by simp [lessH, he], H.drop.drop⟩
  · refine W_true rfl ?_
    refine W_seq_k fun K4 hK4 => ?_
    refine W_reg rfl ?_
    refine RL_some ?_; (refine X_fieldAddr T.fd27_4 rfl ?_)
    refine RL_some ?_; ((first | refine S_load1 H 0 T.ty25 rfl rfl rfl ?_ | refine S_load1 H 1 T.ty25 rfl rfl rfl ?_ | refine S_load1 H 2 T.ty25 rfl rfl rfl ?_ | refine S_load1 H 3 T.ty25 rfl rfl rfl ?_ | refine S_load1 H 4 T.ty25 rfl rfl rfl ?_ | refine S_load1 H 5 T.ty25 rfl rfl rfl ?_ | refine S_load1 H 6 T.ty25 rfl rfl rfl ?_ | refine S_load1 H 7 T.ty25 rfl rfl rfl ?_ | refine S_load1 H 8 T.ty25 rfl rfl rfl ?_ | refine S_load1 H 9 T.ty25 rfl rfl rfl ?_))
    refine RL_some ?_; (refine X_fieldAddr T.fd27_4 rfl ?_)
    refine RL_some ?_; ((first | refine S_load1 H 0 T.ty25 rfl rfl rfl ?_ | refine S_load1 H 1 T.ty25 rfl rfl rfl ?_ | refine S_load1 H 2 T.ty25 rfl rfl rfl ?_ | refine S_load1 H 3 T.ty25 rfl rfl rfl ?_ | refine S_load1 H 4 T.ty25 rfl rfl rfl ?_ | refine S_load1 H 5 T.ty25 rfl rfl rfl ?_ | refine S_load1 H 6 T.ty25 rfl rfl rfl ?_ | refine S_load1 H 7 T.ty25 rfl rfl rfl ?_ | refine S_load1 H 8 T.ty25 rfl rfl rfl ?_ | refine S_load1 H 9 T.ty25 rfl rfl rfl ?_))
    refine RL_some ?_; (first | refine X_cmp_t rfl rfl rfl (by first | assumption | omega) ?_ | refine X_cmp_f rfl rfl rfl (by first | assumption | omega) ?_ | refine X_bin rfl rfl rfl ?_)
    refine RL_some ?_; (refine X_assign rfl ?_)
    refine hK4 _ _ (W_keep (Keep.cons 4 rfl Keep.nil) ?_)
    refine W_ret ?_
    (try simp only [thenQ, blockQ, noGotoQ])
    refine body_tmp (.inr rfl) rfl rfl ?_
    exact ⟨by simp [lessH, he], H.drop.drop⟩

theorem Less_calls (a b : Hd) {w0 w : World} {L : List Asn} (H : St w0 w L) {vs : List Value} (hv : vs = [.agg a.enc.toArray, .agg b.enc.toArray]) {K : Value → World → Prop} (k : ∀ w', St w0 w' L → K (.bool (lessH a b)) w') :
    Calls Try.prog 26 vs.toArray w (After K) := by
  subst hv
  refine calls_to (Less_spec a b H) ?_
  rintro v w' ⟨rfl, H⟩
  exact k w' H

theorem Newer_spec (a b : Spot) {w0 w : World} {L : List Asn} (H : St w0 w L) :
    Calls Try.prog 8 #[.agg a.enc.toArray, .agg b.enc.toArray] w (After fun v w' => v = .bool (newer a b) ∧ St w0 w' L) := by
  refine calls_of_W (N := 22) (args := [.agg a.enc.toArray, .agg b.enc.toArray]) Try.func8 rfl Try.ntmps8 (by simp) ?_
  refine W_seq_k fun K1 hK1 => ?_
  refine W_reg rfl ?_
  refine RL_some ?_; (refine S_box H rfl ?_; intro b2 w H)
  refine RL_some ?_; (refine S_box H rfl ?_; intro b3 w H)
  refine RL_some ?_; (refine X_assign rfl ?_)
  refine hK1 _ _ (W_keep (Keep.cons 2 rfl (Keep.cons 3 rfl Keep.nil)) ?_)
  refine W_seq_k fun K2 hK2 => ?_
  refine W_block ?_
  refine W_seq_k fun K3 hK3 => ?_
  refine W_reg rfl ?_
  refine RL_some ?_; (refine X_fieldAddr T.fd29_1 rfl ?_)
  refine RL_some ?_; (refine S_load H 0 T.ty27 rfl rfl (l := b.head.enc) rfl (Nat.le_of_ble_eq_true rfl) ?_)
  refine RL_some ?_; (refine X_fieldAddr T.fd29_1 rfl ?_)
  refine RL_some ?_; (refine S_load H 1 T.ty27 rfl rfl (l := a.head.enc) rfl (Nat.le_of_ble_eq_true rfl) ?_)
  refine RL_some ?_; (refine X_call T.ent26 rfl ?_; refine Less_calls b.head a.head H rfl ?_; intro w H)
  refine RL_some ?_; (refine X_assign rfl ?_)
  refine hK3 _ _ (W_keep (Keep.cons 2 rfl (Keep.cons 3 rfl (Keep.cons 5 rfl Keep.nil))) ?_)
  refine W_if rfl (fun c1 => ?_) (fun c1 => ?_)
  · refine W_seq_k fun K4 hK4 => ?_
    refine W_reg rfl ?_
    refine RL_some ?_; (refine X_assign rfl ?_)
    refine hK4 _ _ (W_keep (Keep.cons 4 rfl Keep.nil) ?_)
    refine W_ret ?_
    (try simp only [thenQ, blockQ, noGotoQ])
    refine body_tmp (.inr rfl) rfl rfl ?_
    exact ⟨by simp [newer, c1], H.drop.drop⟩
  refine W_seq_k fun K4 hK4 => ?_
  refine W_reg rfl ?_
  refine RL_some ?_; (refine X_fieldAddr T.fd29_1 rfl ?_)
  refine RL_some ?_; (refine S_load H 1 T.ty27 rfl rfl (l := a.head.enc) rfl (Nat.le_of_ble_eq_true rfl) ?_)
  refine RL_some ?_; (refine X_fieldAddr T.fd29_1 rfl ?_)
  refine RL_some ?_; (refine S_load H 0 T.ty27 rfl rfl (l := b.head.enc) rfl (Nat.le_of_ble_eq_true rfl) ?_)
  refine RL_some ?_; (refine X_call T.ent26 rfl ?_; refine Less_calls a.head b.head H rfl ?_; intro w H)
  refine RL_some ?_; (refine X_assign rfl ?_)
  refine hK4 _ _ (W_keep (Keep.cons 2 rfl (Keep.cons 3 rfl (Keep.cons 11 rfl Keep.nil))) ?_)
  refine W_if rfl (fun c2 => ?_) (fun c2 => ?_)
  · refine W_seq_k fun K5 hK5 => ?_
    refine W_reg rfl ?_
    refine RL_some ?_; (refine X_assign rfl ?_)
    refine hK5 _ _ (W_keep (Keep.cons 4 rfl Keep.nil) ?_)
    refine W_ret ?_
    (try simp only [thenQ, blockQ, noGotoQ])
    refine body_tmp (.inr rfl) rfl rfl ?_
    exact ⟨by simp [newer, c1, c2], H.drop.drop⟩
  refine W_skip ?_
  refine hK2 _ _ ?_
  refine W_seq_k fun K6 hK6 => ?_
  refine W_reg rfl ?_
  refine RL_some ?_; (refine X_fieldAddr T.fd29_2 rfl ?_)
  refine RL_some ?_; (refine S_load H 0 T.ty27 rfl rfl (l := b.order.enc) rfl (Nat.le_of_ble_eq_true rfl) ?_)
  refine RL_some ?_; (refine X_fieldAddr T.fd29_2 rfl ?_)
  refine RL_some ?_; (refine S_load H 1 T.ty27 rfl rfl (l := a.order.enc) rfl (Nat.le_of_ble_eq_true rfl) ?_)
  refine RL_some ?_; (refine X_call T.ent26 rfl ?_; refine Less_calls b.order a.order H rfl ?_; intro w H)
  refine RL_some ?_; (refine X_assign rfl ?_)
  refine hK6 _ _ (W_keep (Keep.cons 4 rfl Keep.nil) ?_)
  refine W_ret ?_
  (try simp only [thenQ, blockQ, noGotoQ])
  refine body_tmp (.inr rfl) rfl rfl ?_
  exact ⟨by simp [newer, c1, c2], H.drop.drop⟩
theorem Newer_calls (a b : Spot) {w0 w : World} {L : List Asn} (H : St w0 w L) {vs : List Value} (hv : vs = [.agg a.enc.toArray, .agg b.enc.toArray]) {K : Value → World → Prop} (k : ∀ w', St w0 w' L → K (.bool (newer a b)) w') :
    Calls Try.prog 8 vs.toArray w (After K) := by
  subst hv
  refine calls_to (Newer_spec a b H) ?_
  rintro v w' ⟨rfl, H⟩
  exact k w' H
end Go.Proofs.Ytinngnckojbpnaa
