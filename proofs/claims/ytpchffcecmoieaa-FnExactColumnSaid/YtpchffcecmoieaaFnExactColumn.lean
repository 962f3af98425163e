/-
  The law FnExactColumn: the Go function returns true for every input and leaves what it was handed as it was. No condition is added: the statement is the given one.
-/
import Derived.Test.YtpchffcecmoieaaFnExactColumnW
namespace Go.Proofs.Ytpchffcecmoieaa.fnExactColumn
open Go.ChangeShapes Go.WideShapes Go.ChangeAt Go.RowKit
set_option linter.unusedVariables false
set_option maxRecDepth 100000 in
theorem lifted (os : Os) (started : os.Started) (H : Type) (enc : TypeId × Value → H) :
    ReturnsInHanded {} Try.checked os 3 .any (Rows.fnExactColumnSpec.pre6 enc Try.prog Try.f3 Rows.fnExactColumnRow.domain false) (Rows.fnExactColumnSpec.post enc Try.prog Try.f3 false true false false) := by
  refine returnsInHanded_of_change (C := Try.checked) own started (by kernel_rfl) Try.func3
    (ChangeSpec.witness6 (enc := enc) (C := Try.checked) false ⟨#[], #[.slice none 0 0, .int .i64 0], []⟩ 8 (by kernel_rfl) (by kernel_rfl) (by kernel_rfl) (by kernel_rfl)) ?_
  intro W base args ds gs before hval0 hW hcnd _
  have hval : ∀ (j : Nat) t v, Try.f3.params[j]? = some t → args[j]? = some v → Value.okWide Try.prog W .any base t v := hval0
  have hW' := hW
  obtain ⟨p, q, hA0, hV, rfl, hfz, hnd⟩ := hW
  have hA : DataW.TrodAll enc Try.prog W 0 (fun _ => true) true Try.f3.params.toList args.toList ds p := hA0
  rw [Try.params3] at hA hval
  obtain ⟨v0, vs0, d0, ds0, p0, q0, hargs, rfl, rfl, h0, r0⟩ := trodAll_cons hA
  obtain ⟨v1, vs1, d1, ds1, p1, q1, rfl, rfl, rfl, h1, r1⟩ := trodAll_cons r0
  obtain ⟨rfl, rfl, rfl⟩ := trodAll_nil r1
  obtain rfl : args = #[v0, v1] := by cases args; simp_all
  obtain ⟨rfl, rfl⟩ := trodVars_none hV
  obtain ⟨A0, n0, c0, a0, rfl, hc0, hm0, hn0, hr0, hi0⟩ := open_slice_any Try.underlying22 (hval 0 22 v0 rfl rfl) h0 2 (by kernel_rfl) (by omega) RowV.enc (fun _ => rfl) (fun x => x.ok W) (fun _ _ _ _ hy => open_row_cells Try.underlying36 (by kernel_rfl) rfl rfl rfl rfl Try.underlying34 (by kernel_rfl) Try.underlying50 (by kernel_rfl) rfl rfl rfl rfl rfl rfl Try.underlying3 Try.underlying9 (by kernel_rfl) (by kernel_rfl) hy)
  subst hn0
  obtain ⟨a1, rfl, -, -, w1⟩ := open_int Try.underlying3 (hval 1 3 v1 rfl rfl) h1
  refine (walk W A0 c0 a0 hc0 hm0 hr0 hi0 a1 (I64_of_wf w1)).mono fun e W' ⟨he, hb⟩ => ?_
  subst he
  exact ⟨_, rfl, law_post laidOut (of_decide_eq_true (by kernel_rfl)) rfl Try.underlying4 rfl hW' hb rfl⟩

theorem over : Rows.fnExactColumnRow.holds Try.pinned (OpenSpec.ofChange Rows.fnExactColumnSpec) :=
  OpenClaim.holds_of_wide 3 Try.f3 rfl rfl rfl rfl rfl rfl rfl ⟨rfl, rfl, rfl, rfl, rfl⟩ rfl rfl rfl rfl rfl (by kernel_rfl) Try.func3 (by kernel_rfl)
    (of_decide_eq_true (by kernel_rfl)) (by unfold Func.isWrapper; first | (rw [if_pos (by decide +kernel)]; kernel_rfl) | (rw [if_neg (by decide +kernel)]; exact ⟨rfl, rfl⟩))
    (fun os started H enc _ => lifted os started H enc)

theorem proved : Rows.FnExactColumnSaid :=
  over
end Go.Proofs.Ytpchffcecmoieaa.fnExactColumn
