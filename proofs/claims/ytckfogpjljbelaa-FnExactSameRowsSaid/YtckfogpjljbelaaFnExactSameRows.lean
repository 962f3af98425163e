/-
  The law FnExactSameRows: the Go function returns true for every input and leaves what it was handed as it was. No condition is added: the statement is the given one.
-/
import Derived.Test.YtckfogpjljbelaaFnExactSameRowsW
namespace Go.Proofs.Ytckfogpjljbelaa.fnExactSameRows
open Go.ChangeShapes Go.WideShapes Go.ChangeAt Go.RowKit
set_option linter.unusedVariables false
set_option maxRecDepth 100000 in
theorem lifted (os : Os) (started : os.Started) (H : Type) (enc : TypeId × Value → H) :
    ReturnsInHanded {} Try.checked os 7 .any (Rows.fnExactSameRowsSpec.pre6 enc Try.prog Try.f7 Rows.fnExactSameRowsRow.domain false) (Rows.fnExactSameRowsSpec.post enc Try.prog Try.f7 false true false false) := by
  refine returnsInHanded_of_change (C := Try.checked) own started (by kernel_rfl) Try.func7
    (ChangeSpec.witness6 (enc := enc) (C := Try.checked) false ⟨#[], #[.slice none 0 0, .slice none 0 0], []⟩ 8 (by kernel_rfl) (by kernel_rfl) (by kernel_rfl) (by kernel_rfl)) ?_
  intro W base args ds gs before hval0 hW hcnd _
  have hval : ∀ (j : Nat) t v, Try.f7.params[j]? = some t → args[j]? = some v → Value.okWide Try.prog W .any base t v := hval0
  have hW' := hW
  obtain ⟨p, q, hA0, hV, rfl, hfz, hnd⟩ := hW
  have hA : DataW.TrodAll enc Try.prog W 0 (fun _ => true) true Try.f7.params.toList args.toList ds p := hA0
  rw [Try.params7] at hA hval
  obtain ⟨v0, vs0, d0, ds0, p0, q0, hargs, rfl, rfl, h0, r0⟩ := trodAll_cons hA
  obtain ⟨v1, vs1, d1, ds1, p1, q1, rfl, rfl, rfl, h1, r1⟩ := trodAll_cons r0
  obtain ⟨rfl, rfl, rfl⟩ := trodAll_nil r1
  obtain rfl : args = #[v0, v1] := by cases args; simp_all
  obtain ⟨rfl, rfl⟩ := trodVars_none hV
  obtain ⟨A0, n0, c0, a0, rfl, hc0, hm0, hn0, hr0, hi0⟩ := open_slice_any Try.underlying60 (hval 0 60 v0 rfl rfl) h0 2 (by kernel_rfl) (by omega) RowV.enc (fun _ => rfl) (fun x => x.ok W) (fun _ _ _ _ hy => open_row_cells Try.underlying46 (by kernel_rfl) rfl rfl rfl rfl Try.underlying33 (by kernel_rfl) Try.underlying24 (by kernel_rfl) rfl rfl rfl rfl rfl rfl Try.underlying3 Try.underlying9 (by kernel_rfl) (by kernel_rfl) hy)
  subst hn0
  obtain ⟨A1, n1, c1, a1, rfl, hc1, hm1, hn1, hr1, hi1⟩ := open_slice_any Try.underlying60 (hval 1 60 v1 rfl rfl) h1 2 (by kernel_rfl) (by omega) RowV.enc (fun _ => rfl) (fun x => x.ok W) (fun _ _ _ _ hy => open_row_cells Try.underlying46 (by kernel_rfl) rfl rfl rfl rfl Try.underlying33 (by kernel_rfl) Try.underlying24 (by kernel_rfl) rfl rfl rfl rfl rfl rfl Try.underlying3 Try.underlying9 (by kernel_rfl) (by kernel_rfl) hy)
  subst hn1
  refine (walk W A0 c0 a0 hc0 hm0 hr0 hi0 A1 c1 a1 hc1 hm1 hr1 hi1).mono fun e W' ⟨he, hb⟩ => ?_
  subst he
  exact ⟨_, rfl, law_post laidOut (of_decide_eq_true (by kernel_rfl)) rfl Try.underlying4 rfl hW' hb rfl⟩

theorem over : Rows.fnExactSameRowsRow.holds Try.pinned (OpenSpec.ofChange Rows.fnExactSameRowsSpec) :=
  OpenClaim.holds_of_wide 7 Try.f7 rfl rfl rfl rfl rfl rfl rfl ⟨rfl, rfl, rfl, rfl, rfl⟩ rfl rfl rfl rfl rfl (by kernel_rfl) Try.func7 (by kernel_rfl)
    (of_decide_eq_true (by kernel_rfl)) (by unfold Func.isWrapper; first | (rw [if_pos (by decide +kernel)]; kernel_rfl) | (rw [if_neg (by decide +kernel)]; exact ⟨rfl, rfl⟩))
    (fun os started H enc _ => lifted os started H enc)

theorem proved : Rows.FnExactSameRowsSaid :=
  over
end Go.Proofs.Ytckfogpjljbelaa.fnExactSameRows
