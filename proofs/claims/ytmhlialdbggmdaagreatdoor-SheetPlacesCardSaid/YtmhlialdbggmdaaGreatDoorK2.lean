/- SheetPlaces: the row and the card: for every input, the law answers true and its input reads as it did. No condition beside the row's own list of the library's variables. -/
import Derived.Test.YtmhlialdbggmdaaGreatDoorLa
import Derived.Test.YtmhlialdbggmdaaGreatDoorFr
import Derived.Lib.SmallJoins
namespace Go.Proofs.YtmhlialdbggmdaaGreatDoor
open Go.ChangeShapes Go.WideShapes Go.ChangeAt Go.RowKit Go.Joins
theorem cells24 : Tryz.prog.cellsOf 24 = 2 := by kernel_rfl

set_option maxRecDepth 100000 in
theorem SheetPlaces_lifted (os : Os) (started : os.Started) (H : Type) (enc : TypeId × Value → H) :
    ReturnsInHanded {} Tryz.checked os 5 .any (fun w args => (Rows.sheetPlacesSpec.pre enc Tryz.prog Tryz.f5 [] false w args ∧ laidMetH Tryz.prog laid7 w) ∧ sizedMet enc Tryz.prog Tryz.f5 (OpenSpec.ofChange Rows.sheetPlacesSpec) false w args)
      (Rows.sheetPlacesSpec.post enc Tryz.prog Tryz.f5 false true false false) := by
  refine row_wrap (C := Tryz.checked) (X := fun w _ => laidMetH Tryz.prog laid7 w) (fun _ _ _ hh h => h.of_heap hh) own started (by kernel_rfl) Tryz.func5
    (ChangeSpec.witness_shaped (enc := enc) (C := Tryz.checked) (os := os) (X := fun w _ => laidMetH Tryz.prog laid7 w) false (World.laidAll Tryz.prog os laid7) #[.agg #[.int .i64 0, .int .i64 0]] 8 (World.laidAll_os _ _ _)
      (shaped7 os _) (by kernel_rfl) (by kernel_rfl) (by kernel_rfl) (met7 os _)) ?_
  intro W base args ds gs before hval0 hW hL hS
  have hval : ∀ (j : Nat) t v, Tryz.f5.params[j]? = some t → args[j]? = some v → Value.okWide Tryz.prog W .any base t v := hval0
  have hW' := hW
  obtain ⟨p, q, hA0, hV, rfl, _, _⟩ := hW
  have hA : DataW.TrodAll enc Tryz.prog W 0 (fun _ => true) true Tryz.f5.params.toList args.toList ds p := hA0
  rw [Tryz.params5] at hA hval
  obtain ⟨v0, d0, rfl, rfl, h0⟩ := trodAll_one hA
  obtain ⟨rfl, rfl⟩ := trodVars_none hV
  obtain ⟨c00, c01, z00, z01, m0, rfl, rfl, rfl, hy00, hy01⟩ := open_agg2 Tryz.underlying24 (by kernel_rfl) cells24 (hval 0 24 v0 rfl rfl) h0
  obtain ⟨x0, e00, rfl, wx0⟩ := DataW.trod_int Tryz.underlying22 hy00
  obtain ⟨x1, e01, rfl, wx1⟩ := DataW.trod_int Tryz.underlying22 hy01
  simp at e00 e01
  subst e00 e01
  simp only [List.append_nil] at hW'
  have read0 : ∀ (W' : World) (sp : Nat → Bool), DataW.Trod enc Tryz.prog W' 0 sp true 24 (.agg #[.int .i64 x0, .int .i64 x1]) (.agg [.lit (.int .i64 x0), .lit (.int .i64 x1)]) [] := fun W' sp =>
    shut_agg2 (y0 := (.lit (.int .i64 x0), [])) (y1 := (.lit (.int .i64 x1), [])) Tryz.underlying24 (by kernel_rfl) cells24 ⟨1, by simp [DataW.trod, Tryz.underlying22, wx0]⟩ ⟨1, by simp [DataW.trod, Tryz.underlying22, wx1]⟩
  refine (Places_law x0 x1 W (err_of hL hS) (tab_of hL)).mono fun e W' ⟨he, hb⟩ => ?_
  subst he
  exact ⟨_, rfl, _, _, _, [], [], [], hW', trodAll_mk1 (shut_bool Tryz.underlying4 _), trodAll_mk1 (read0 _ _), rfl, hb.frame _, fun h => by cases h⟩

theorem SheetPlaces_said : Rows.SheetPlacesSaid :=
  OpenClaim.holds_of_wide 5 Tryz.f5 rfl rfl rfl rfl rfl rfl rfl ⟨rfl, rfl, rfl, rfl, rfl⟩ rfl rfl rfl rfl rfl (by kernel_rfl) Tryz.func5 (by kernel_rfl)
    (of_decide_eq_true (by kernel_rfl)) (by unfold Func.isWrapper; first | (rw [if_pos (by decide +kernel)]; kernel_rfl) | (rw [if_neg (by decide +kernel)]; exact ⟨rfl, rfl⟩))
    (fun os started H enc _ => SheetPlaces_lifted os started H enc)

theorem SheetPlaces_plain (f : FuncId) (fn : Func) (hf : Tryz.pinned.checked.prog.funcNamed "besom/besomlaw02.SheetPlaces" = some f) (hfn : Tryz.pinned.checked.prog.funcs[f]? = some fn) :
    true = Tryz.pinned.checked.prog.looks [] ∧ ∀ (j : Nat) t, fn.params[j]? = some t → Tryz.pinned.checked.prog.wantsStandIn t = false := by
  obtain rfl : f = 5 := Option.some.inj ((show Tryz.prog.funcNamed "besom/besomlaw02.SheetPlaces" = some 5 by kernel_rfl).symm.trans hf) |>.symm
  obtain rfl : fn = Tryz.f5 := (Option.some.inj (Tryz.func5.symm.trans hfn)).symm
  refine ⟨by kernel_rfl, fun j t ht => ?_⟩
  rw [Tryz.params5] at ht
  obtain rfl : t = 24 := by simpa using Array.mem_of_getElem? ht
  exact (show Tryz.prog.wantsStandIn 24 = false by kernel_rfl)

/-- The card. -/
theorem SheetPlaces_card : Rows.SheetPlacesCardSaid :=
  Claim7.holds_tied_plain_at .later [] _ _ _ _ SheetPlaces_said (fun _ h => by cases h) (by kernel_rfl) (fun _ h => by cases h) sheetPlaces_row_tie rfl ⟨rfl, rfl⟩ (by kernel_rfl) rfl SheetPlaces_plain (by kernel_rfl)
end Go.Proofs.YtmhlialdbggmdaaGreatDoor
