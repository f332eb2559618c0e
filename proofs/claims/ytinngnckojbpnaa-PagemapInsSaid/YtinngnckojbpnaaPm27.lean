/- PagemapRuns answers true whatever steps it is given; its argument reads as it did. -/
import Derived.Test.YtinngnckojbpnaaPm26
/-! pagemap: the row of PagemapRuns. -/
namespace Go.Proofs.Ytinngnckojbpnaa
open Go.Nep Go.ChangeShapes Go.WideShapes
set_option maxRecDepth 100000
set_option linter.unusedVariables false
set_option linter.unusedSimpArgs false
set_option maxHeartbeats 1600000

theorem step_of_trod {H : Type} {en : TypeId × Value → H} {W : World} {b : Nat} {sp : Nat → Bool} {hd : Bool} {fuel : Nat} {cs : List Value} {x : DataW H × List MemPlace} (h : DataW.trod en Try.prog W b sp hd fuel 54 cs = some x) :
    ∃ s : StepT, cs = s.enc ∧ s.ok := by
  obtain ⟨hl, hf⟩ := trod_fields Try.underlying54 h
  rw [step_size] at hl
  match cs, hl with
  | [v0, v1, v2, v3, v4, v5, v6, v7, v8, v9, v10, v11, v12, v13, v14, v15, v16, v17, v18], _ =>
    obtain ⟨a0, h0, k0⟩ := trod_has Try.underlying3 (hf 0 _ rfl)
    obtain ⟨a1, h1, k1⟩ := trod_has Try.underlying3 (hf 1 _ rfl)
    obtain ⟨a2, h2, k2⟩ := trod_has Try.underlying3 (hf 2 _ rfl)
    obtain ⟨y3, m3, h3⟩ := hf 3 _ rfl
    obtain ⟨y4, m4, h4⟩ := hf 4 _ rfl
    obtain ⟨s, e3, hs⟩ := spot_of_trod h3
    obtain ⟨b0, b1, e4, _, _⟩ := pl_of_trod h4
    simp [cells1, spot_size, cells2] at h0 h1 h2 e3 e4
    subst h0; subst h1; subst h2
    obtain ⟨rfl, rfl⟩ := e4
    refine ⟨⟨a0, a1, a2, s, ⟨b0, b1⟩⟩, ?_, hs, (has_i64 k0).1, (has_i64 k0).2, (has_i64 k1).1, (has_i64 k1).2, (has_i64 k2).1, (has_i64 k2).2⟩
    show _ = [i64 a0, i64 a1, i64 a2] ++ s.enc ++ [i64 b0, i64 b1]
    rw [← e3]
    rfl

theorem PagemapRuns_lifted (os : Os) (started : os.Started) (H : Type) (enc : TypeId × Value → H) :
    ReturnsInHanded {} Try.checked os 5 .any (Rows.pagemapRunsSpec.pre6 enc Try.prog Try.f5 Rows.pagemapRunsRow.domain false) (Rows.pagemapRunsSpec.post enc Try.prog Try.f5 false true false false) := by
  refine returnsInHanded_of_change (C := Try.checked) own_knob started (by kernel_rfl) Try.func5
    (ChangeSpec.witness6 (enc := enc) (C := Try.checked) false ⟨#[], #[.slice none 0 0], []⟩ 8 (by kernel_rfl) (by kernel_rfl) (by kernel_rfl) (by kernel_rfl))
    (law_contract (tb := 4) laid_out (by kernel_rfl) rfl ?_ rfl Try.underlying4 ?_)
  · intro ds hd
    match ds, hd with
    | [d1], _ => rfl
  · intro W base args ds ps hsz hval hT hlt
    obtain ⟨v0, rfl⟩ := args_one hsz
    obtain ⟨u0, us, d0, ds0, p0, q0, e0, rfl, rfl, h0, hT⟩ := trodAll_cons hT
    simp at e0
    obtain ⟨rfl, rfl⟩ := e0
    obtain ⟨ss, hss, hok⟩ := arg_slice (enc := StepT.enc) (ok := StepT.ok) (k := 19) Try.underlying47 step_size (by decide) stepT_len (fun fuel cs x hx => step_of_trod hx) (hval 0 _ v0 rfl rfl) h0 (fun p hp => hlt p (by simp [hp]))
    refine calls_to (Runs_spec ss hok hss (St.start W)) ?_
    rintro v w' ⟨rfl, L', hS⟩
    exact ⟨rfl, St.dropApp (A := L') (L := []) (by simpa using hS)⟩

theorem PagemapRuns_holds : Rows.PagemapRunsSaid :=
  OpenClaim.holds_of_wide 5 Try.f5 rfl rfl rfl rfl rfl rfl rfl ⟨rfl, rfl, rfl, rfl, rfl⟩ rfl rfl rfl rfl rfl (by kernel_rfl) Try.func5 (by kernel_rfl)
    (of_decide_eq_true (by kernel_rfl)) (by unfold Func.isWrapper; first | (rw [if_pos (by decide +kernel)]; kernel_rfl) | (rw [if_neg (by decide +kernel)]; exact ⟨rfl, rfl⟩))
    (fun os started H enc _ => PagemapRuns_lifted os started H enc)
end Go.Proofs.Ytinngnckojbpnaa
