/- PagemapOrders answers true whatever size, spots and order it is given; its arguments read as they did. -/
import Derived.Test.YtinngnckojbpnaaPm15
/-! pagemap: the row of PagemapOrders. -/
namespace Go.Proofs.Ytinngnckojbpnaa
open Go.Nep Go.ChangeShapes Go.WideShapes
set_option maxRecDepth 100000
set_option linter.unusedVariables false
set_option linter.unusedSimpArgs false
set_option maxHeartbeats 1600000

theorem PagemapOrders_lifted (os : Os) (started : os.Started) (H : Type) (enc : TypeId × Value → H) :
    ReturnsInHanded {} Try.checked os 4 .any (Rows.pagemapOrdersSpec.pre6 enc Try.prog Try.f4 Rows.pagemapOrdersRow.domain false) (Rows.pagemapOrdersSpec.post enc Try.prog Try.f4 false true false false) := by
  refine returnsInHanded_of_change (C := Try.checked) own_knob started (by kernel_rfl) Try.func4
    (ChangeSpec.witness6 (enc := enc) (C := Try.checked) false ⟨#[], #[.int .u8 0, .slice none 0 0, .slice none 0 0], []⟩ 8 (by kernel_rfl) (by kernel_rfl) (by kernel_rfl) (by kernel_rfl))
    (law_contract (tb := 4) laid_out (by kernel_rfl) rfl ?_ rfl Try.underlying4 ?_)
  · intro ds hd
    match ds, hd with
    | [d1, d2, d3], _ => rfl
  · intro W base args ds ps hsz hval hT hlt
    obtain ⟨v0, v1, v2, rfl⟩ := args_three hsz
    obtain ⟨z, rfl, hz⟩ := val_int Try.underlying5 (hval 0 _ v0 rfl rfl)
    obtain ⟨hz0, hz1⟩ := has_u8 hz
    obtain ⟨u0, us, d0, ds0, p0, q0, e0, rfl, rfl, _, hT⟩ := trodAll_cons hT
    obtain ⟨u1, us1, d1, ds1, p1, q1, e1, rfl, rfl, h1, hT⟩ := trodAll_cons hT
    obtain ⟨u2, us2, d2, ds2, p2, q2, e2, rfl, rfl, h2, hT⟩ := trodAll_cons hT
    simp at e0 e1 e2
    obtain ⟨rfl, rfl⟩ := e0
    obtain ⟨rfl, rfl⟩ := e1
    obtain ⟨rfl, rfl⟩ := e2
    obtain ⟨ls, hls, hlok⟩ := arg_slice (enc := Spot.enc) (ok := Spot.ok) (k := 14) Try.underlying35 spot_size (by decide) spot_len (fun fuel cs x hx => spot_of_trod hx) (hval 1 _ v1 rfl rfl) h1 (fun p hp => hlt p (by simp [hp]))
    obtain ⟨os', hos, hook⟩ := arg_slice (enc := encI) (ok := fun n => IntKind.i64.has n) (k := 1) Try.underlying36 cells1 (by decide) encI_len (fun fuel cs x hx => trod_has Try.underlying3 ⟨_, _, hx⟩) (hval 2 _ v2 rfl rfl) h2 (fun p hp => hlt p (by simp [hp]))
    refine calls_to (Orders_spec z hz0 hz1 ls os' hlok hook hls hos (St.start W)) ?_
    rintro v w' ⟨rfl, L', hS⟩
    exact ⟨rfl, St.dropApp (A := L') (L := []) (by simpa using hS)⟩

theorem PagemapOrders_holds : Rows.PagemapOrdersSaid :=
  OpenClaim.holds_of_wide 4 Try.f4 rfl rfl rfl rfl rfl rfl rfl ⟨rfl, rfl, rfl, rfl, rfl⟩ rfl rfl rfl rfl rfl (by kernel_rfl) Try.func4 (by kernel_rfl)
    (of_decide_eq_true (by kernel_rfl)) (by unfold Func.isWrapper; first | (rw [if_pos (by decide +kernel)]; kernel_rfl) | (rw [if_neg (by decide +kernel)]; exact ⟨rfl, rfl⟩))
    (fun os started H enc _ => PagemapOrders_lifted os started H enc)
end Go.Proofs.Ytinngnckojbpnaa
