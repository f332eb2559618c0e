/- PagemapNewers answers true whatever two spots it is given; its arguments read as they did. -/
import Derived.Test.YtinngnckojbpnaaPm7
import Derived.Test.YtinngnckojbpnaaNepRow
import Derived.Test.YtinngnckojbpnaaRows
/-! pagemap: arguments; the rows. -/
namespace Go.Proofs.Ytinngnckojbpnaa
open Go.Nep
set_option maxRecDepth 100000
set_option linter.unusedVariables false
set_option linter.unusedSimpArgs false

theorem own_knob : ownKnob Try.prog.godebug = none := by kernel_rfl
theorem laid_out : laidOutB Try.prog = true := by kernel_rfl
theorem spot_cells : Try.prog.cellTypes Try.prog.depth 29 = some [3, 3, 3, 3, 3, 24, 25, 25, 3, 3, 3, 24, 25, 25] := by kernel_rfl
theorem spot_size : Try.prog.cellsOf 29 = 14 := by kernel_rfl

structure Spot.ok (s : Spot) : Prop where
  head : s.head.ok
  b0 : -9223372036854775808 ≤ s.place.b
  b1 : s.place.b ≤ 9223372036854775807
  p0 : -9223372036854775808 ≤ s.place.p
  p1 : s.place.p ≤ 9223372036854775807
  n0 : -9223372036854775808 ≤ s.head.ns
  n1 : s.head.ns ≤ 9223372036854775807
  c0 : -9223372036854775808 ≤ s.head.count
  c1 : s.head.count ≤ 9223372036854775807

/-- an argument of a spot's kind is a spot -/
theorem spot_of {w : World} {b : Nat} {v : Value} (h : Value.okWide Try.prog w .any b 29 v) : ∃ s : Spot, v = .agg s.enc.toArray ∧ s.ok := by
  obtain ⟨cs, rfl, hl, hc⟩ := agg_cells Try.underlying29 spot_cells (by rw [spot_size]; rfl) h
  match cs, hl with
  | [v0, v1, v2, v3, v4, v5, v6, v7, v8, v9, v10, v11, v12, v13], _ =>
    obtain ⟨n0, rfl, h0⟩ := cell_int Try.underlying3 (hc 0 3 v0 rfl rfl)
    obtain ⟨n1, rfl, h1⟩ := cell_int Try.underlying3 (hc 1 3 v1 rfl rfl)
    obtain ⟨n2, rfl, h2⟩ := cell_int Try.underlying3 (hc 2 3 v2 rfl rfl)
    obtain ⟨n3, rfl, h3⟩ := cell_int Try.underlying3 (hc 3 3 v3 rfl rfl)
    obtain ⟨n4, rfl, h4⟩ := cell_int Try.underlying3 (hc 4 3 v4 rfl rfl)
    obtain ⟨n5, rfl, h5⟩ := cell_int Try.underlying24 (hc 5 24 v5 rfl rfl)
    obtain ⟨n6, rfl, h6⟩ := cell_int Try.underlying25 (hc 6 25 v6 rfl rfl)
    obtain ⟨n7, rfl, h7⟩ := cell_int Try.underlying25 (hc 7 25 v7 rfl rfl)
    obtain ⟨n8, rfl, h8⟩ := cell_int Try.underlying3 (hc 8 3 v8 rfl rfl)
    obtain ⟨n9, rfl, h9⟩ := cell_int Try.underlying3 (hc 9 3 v9 rfl rfl)
    obtain ⟨n10, rfl, h10⟩ := cell_int Try.underlying3 (hc 10 3 v10 rfl rfl)
    obtain ⟨n11, rfl, h11⟩ := cell_int Try.underlying24 (hc 11 24 v11 rfl rfl)
    obtain ⟨n12, rfl, h12⟩ := cell_int Try.underlying25 (hc 12 25 v12 rfl rfl)
    obtain ⟨n13, rfl, h13⟩ := cell_int Try.underlying25 (hc 13 25 v13 rfl rfl)
    refine ⟨⟨⟨n0, n1⟩, ⟨n2, n3, n4, n5, n6, n7⟩, ⟨n8, n9, n10, n11, n12, n13⟩⟩, rfl, ?_⟩
    exact ⟨⟨(has_u32 h5).1, Int.lt_add_one_of_le (has_u32 h5).2⟩, (has_i64 h0).1, (has_i64 h0).2, (has_i64 h1).1, (has_i64 h1).2, (has_i64 h3).1, (has_i64 h3).2, (has_i64 h4).1, (has_i64 h4).2⟩

theorem PagemapNewers_lifted (os : Os) (started : os.Started) (H : Type) (enc : TypeId × Value → H) :
    ReturnsInHanded {} Try.checked os 3 .any (Rows.pagemapNewersSpec.pre6 enc Try.prog Try.f3 Rows.pagemapNewersRow.domain false) (Rows.pagemapNewersSpec.post enc Try.prog Try.f3 false true false false) := by
  refine returnsInHanded_of_change (C := Try.checked) own_knob started (by kernel_rfl) Try.func3
    (ChangeSpec.witness6 (enc := enc) (C := Try.checked) false ⟨#[], #[.agg noSpot.enc.toArray, .agg noSpot.enc.toArray], []⟩ 8 (by kernel_rfl) (by kernel_rfl) (by kernel_rfl) (by kernel_rfl))
    (law_contract (tb := 4) laid_out (by kernel_rfl) rfl ?_ rfl Try.underlying4 ?_)
  · intro ds hd
    match ds, hd with
    | [d1, d2], _ => rfl
  · intro W base args ds ps hsz hval _ _
    obtain ⟨v0, v1, rfl⟩ : ∃ v0 v1, args = #[v0, v1] := by
      have h2 : args.toList.length = 2 := by simpa using hsz
      match h : args.toList, h2 with
      | [a, b], _ => exact ⟨a, b, by rw [← Array.toArray_toList (xs := args), h]⟩
    obtain ⟨a, rfl, _⟩ := spot_of (hval 0 29 v0 rfl rfl)
    obtain ⟨b, rfl, _⟩ := spot_of (hval 1 29 v1 rfl rfl)
    exact Newers_spec a b (St.start W)

theorem PagemapNewers_holds : Rows.PagemapNewersSaid :=
  OpenClaim.holds_of_wide 3 Try.f3 rfl rfl rfl rfl rfl rfl rfl ⟨rfl, rfl, rfl, rfl, rfl⟩ rfl rfl rfl rfl rfl (by kernel_rfl) Try.func3 (by kernel_rfl)
    (of_decide_eq_true (by kernel_rfl)) (by unfold Func.isWrapper; first | (rw [if_pos (by decide +kernel)]; kernel_rfl) | (rw [if_neg (by decide +kernel)]; exact ⟨rfl, rfl⟩))
    (fun os started H enc _ => PagemapNewers_lifted os started H enc)
end Go.Proofs.Ytinngnckojbpnaa
