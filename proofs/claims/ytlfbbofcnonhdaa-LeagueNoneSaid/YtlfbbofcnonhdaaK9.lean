/- LeagueNone: the row: for every input, the law answers true and its input reads as it did. No condition. -/
import Derived.Test.YtlfbbofcnonhdaaCs
import Derived.Test.YtlfbbofcnonhdaaOs
import Derived.ChangeMaps5
namespace Go.Proofs.Ytlfbbofcnonhdaa
open Go.ChangeShapes Go.WideShapes Go.ChangeAt Go.RowKit Go.ChangeMaps

set_option maxRecDepth 100000 in
theorem LeagueNone_lifted (os : Os) (started : os.Started) (H : Type) (enc : TypeId × Value → H) :
    ReturnsInHanded {} Try.checked os 12 .any (Rows.leagueNoneSpec.pre6 enc Try.prog Try.f12 Rows.leagueNoneRow.domain false) (Rows.leagueNoneSpec.post enc Try.prog Try.f12 false true false false) := by
  refine returnsInHanded_of_change (C := Try.checked) (show ownKnob Try.prog.godebug = none by kernel_rfl) started (by kernel_rfl) Try.func12
    (ChangeSpec.witness6 (enc := enc) (C := Try.checked) false ⟨#[], #[.agg #[.int .i64 0, .slice none 0 0, .slice none 0 0], .slice none 0 0], []⟩ 8 (by kernel_rfl) (by kernel_rfl) (by kernel_rfl) (by kernel_rfl)) ?_
  intro W base args ds gs before hval0 hW hcnd _
  have hval : ∀ (j : Nat) t v, Try.f12.params[j]? = some t → args[j]? = some v → Value.okWide Try.prog W .any base t v := hval0
  have hW' := hW
  obtain ⟨p, q, hA0, hV, rfl, _, _⟩ := hW
  have hA : DataW.TrodAll enc Try.prog W 0 (fun _ => true) true Try.f12.params.toList args.toList ds p := hA0
  rw [Try.params12] at hA hval
  obtain ⟨v0, vs0, d0, ds0, p0, q0, hargs, rfl, rfl, h0, r0⟩ := trodAll_cons hA
  obtain ⟨v1, vs1, d1, ds1, p1, q1, rfl, rfl, rfl, h1, r1⟩ := trodAll_cons r0
  obtain ⟨rfl, rfl, rfl⟩ := trodAll_nil r1
  obtain rfl : args = #[v0, v1] := by cases args; simp_all
  obtain ⟨rfl, rfl⟩ := trodVars_none hV
  obtain ⟨a0, A0, n0, k0, A0', n0', k0', rfl, w0, st0, st0', again0⟩ := open_bracket (hval 0 25 v0 rfl rfl) h0
  obtain ⟨A1, n1, k1, rfl, st1, again1⟩ := open_row Try.underlying75 el80 (fun _ => rfl) (by decide) (okWide_slice Try.underlying75 (hval 1 75 v1 rfl rfl)) h1
  clear hA0 hval0
  simp only [List.append_nil] at hW'
  refine (None_law a0 A0 n0 k0 A0' n0' k0' A1 n1 k1 W st0 st0' st1).mono fun e W' ⟨he, hb⟩ => ?_
  subst he
  exact ⟨_, rfl, _, _, _, [], _, [], hW', trodAll_mk1 (shut_bool Try.underlying4 _), (trodAll_cons_mk (again0 W' hb _ (fun q hq => by simpa using hW'.lt q (by simp [hq]))) (trodAll_cons_mk (again1 W' hb _ (fun q hq => by simpa using hW'.lt q (by simp [hq]))) trodAll_mk0)), rfl, hb.frame _, fun h => by cases h⟩

theorem LeagueNone_holds : Rows.LeagueNoneSaid :=
  OpenClaim.holds_of_wide 12 Try.f12 rfl rfl rfl rfl rfl rfl rfl ⟨rfl, rfl, rfl, rfl, rfl⟩ rfl rfl rfl rfl rfl (by kernel_rfl) Try.func12 (by kernel_rfl)
    (of_decide_eq_true (by kernel_rfl)) (by unfold Func.isWrapper; first | (rw [if_pos (by decide +kernel)]; kernel_rfl) | (rw [if_neg (by decide +kernel)]; exact ⟨rfl, rfl⟩))
    (fun os started H enc _ => LeagueNone_lifted os started H enc)
end Go.Proofs.Ytlfbbofcnonhdaa
