/- TopSides: the row: for every input, the law answers true and its input reads as it did. No condition. -/
import Derived.Test.YtmcpnoailbmkkaaPk5
import Derived.ChangeMaps5
/- TopSides: the row: for every input, the law answers true and its input reads as it did. No condition. -/
namespace Go.Proofs.Ytmcpnoailbmkkaa
open Go.ChangeShapes Go.WideShapes Go.ChangeAt Go.RowKit Go.ChangeMaps

set_option maxRecDepth 100000 in
theorem TopSides_lifted (os : Os) (started : os.Started) (H : Type) (enc : TypeId × Value → H) :
    ReturnsInHanded {} Try.checked os 3 .any (Rows.topSidesSpec.pre6 enc Try.prog Try.f3 Rows.topSidesRow.domain false) (Rows.topSidesSpec.post enc Try.prog Try.f3 false true false false) := by
  refine returnsInHanded_of_change (C := Try.checked) (show ownKnob Try.prog.godebug = none by kernel_rfl) started (by kernel_rfl) Try.func3
    (ChangeSpec.witness6 (enc := enc) (C := Try.checked) false ⟨#[], #[.agg #[.int .i64 0, .int .i64 0, .int .i64 0, .int .i64 0, .bool false], .int .i64 0, .int .i64 0, .agg #[.slice none 0 0, .slice none 0 0]], []⟩ 8 (by kernel_rfl) (by kernel_rfl) (by kernel_rfl) (by kernel_rfl)) ?_
  intro W base args ds gs before hval0 hW hcnd _
  have hval : ∀ (j : Nat) t v, Try.f3.params[j]? = some t → args[j]? = some v → Value.okWide Try.prog W .any base t v := hval0
  have hW' := hW
  obtain ⟨p, q, hA0, hV, rfl, _, _⟩ := hW
  have hA : DataW.TrodAll enc Try.prog W 0 (fun _ => true) true Try.f3.params.toList args.toList ds p := hA0
  rw [Try.params3] at hA hval
  obtain ⟨v0, vs0, d0, ds0, p0, q0, hargs, rfl, rfl, h0, r0⟩ := trodAll_cons hA
  obtain ⟨v1, vs1, d1, ds1, p1, q1, rfl, rfl, rfl, h1, r1⟩ := trodAll_cons r0
  obtain ⟨v2, vs2, d2, ds2, p2, q2, rfl, rfl, rfl, h2, r2⟩ := trodAll_cons r1
  obtain ⟨v3, vs3, d3, ds3, p3, q3, rfl, rfl, rfl, h3, r3⟩ := trodAll_cons r2
  obtain ⟨rfl, rfl, rfl⟩ := trodAll_nil r3
  obtain rfl : args = #[v0, v1, v2, v3] := by cases args; simp_all
  obtain ⟨rfl, rfl⟩ := trodVars_none hV
  obtain ⟨a0, rfl, again0⟩ := open_code (hval 0 23 v0 rfl rfl) h0
  obtain ⟨a1, rfl, again1⟩ := open_num (hval 1 3 v1 rfl rfl) h1
  obtain ⟨a2, rfl, again2⟩ := open_num (hval 2 3 v2 rfl rfl) h2
  obtain ⟨l3, A3, k3, cs3, cA3, cc3, rfl, st3, x3, y3, z3, u3, again3⟩ := open_turn (hval 3 27 v3 rfl rfl) h3
  clear hA0 hval0
  simp only [List.append_nil] at hW'
  refine (Sides_law a0 a1 a2 l3 A3 k3 cs3 cA3 cc3 W st3 x3 y3 z3 u3).mono fun e W' ⟨he, hb⟩ => ?_
  subst he
  exact ⟨_, rfl, _, _, _, [], _, [], hW', trodAll_mk1 (shut_bool Try.underlying4 _), (trodAll_cons_mk (again0 W' hb _ (fun q hq => by simpa using hW'.lt q (by simp [hq]))) (trodAll_cons_mk (again1 W' hb _ (fun q hq => by simpa using hW'.lt q (by simp [hq]))) (trodAll_cons_mk (again2 W' hb _ (fun q hq => by simpa using hW'.lt q (by simp [hq]))) (trodAll_cons_mk (again3 W' hb _ (fun q hq => by simpa using hW'.lt q (by simp [hq]))) trodAll_mk0)))), rfl, hb.frame _, fun h => by cases h⟩

theorem TopSides_holds : Rows.TopSidesSaid :=
  OpenClaim.holds_of_wide 3 Try.f3 rfl rfl rfl rfl rfl rfl rfl ⟨rfl, rfl, rfl, rfl, rfl⟩ rfl rfl rfl rfl rfl (by kernel_rfl) Try.func3 (by kernel_rfl)
    (of_decide_eq_true (by kernel_rfl)) (by unfold Func.isWrapper; first | (rw [if_pos (by decide +kernel)]; kernel_rfl) | (rw [if_neg (by decide +kernel)]; exact ⟨rfl, rfl⟩))
    (fun os started H enc _ => TopSides_lifted os started H enc)
end Go.Proofs.Ytmcpnoailbmkkaa
