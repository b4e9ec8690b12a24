import Derived.Test.YthkhhjfldkebcaaGreatDoorRh
import Derived.Test.YthkhhjfldkebcaaGreatDoorBj
import Derived.Test.YthkhhjfldkebcaaGreatDoorFb
import Derived.Test.YthkhhjfldkebcaaGreatDoorFr
import Derived.ProofKit
import Derived.ChangeMaps5
/- The walk of FixedTexts. -/
namespace Go.Proofs.YthkhhjfldkebcaaGreatDoor
open Go.RowKit Go.Proofs Go.Shelf

/-- Both texts of a number are one. -/
theorem two_texts (a : Int) : ∃ S : ByteArray, (∀ w, Lib.TabIs Tryz.prog w "internal/strconv.uint64pow10" .u64 Lib.pow10Tab → Calls Tryz.prog 52 #[.int .i64 a] w fun e w' => e = .returned (.string S) ∧ Below w.heap.size w w') ∧
    (∀ w, Calls Tryz.prog 53 #[.int .i64 a] w fun e w' => e = .returned (.string S) ∧ Below w.heap.size w w') := by
  by_cases hv : Val a
  · exact ⟨_, fun w h => Text_any a w h hv, fun w => refText_ok a w hv⟩
  · exact ⟨_, fun w _ => Text_no a w hv, fun w => refText_no a w hv⟩

set_option maxRecDepth 100000 in
set_option maxHeartbeats 2000000 in
theorem Texts_any (a : Int) (s : ByteArray) (how : Int) (w : World) (hM : Mem w) (hT : Lib.TabIs Tryz.prog w "internal/strconv.uint64pow10" .u64 Lib.pow10Tab) (hs : s.size ≤ 9223372036854775807) :
    Calls Tryz.prog 10 #[.int .i64 a, .string s, .int .i64 how] w fun e w' => e = .returned (.bool true) ∧ Below w.heap.size w w' := by
  have HM := Lib.hid hM
  have HT := Lib.hid (Lib.tabBelow_of_tabIs hT)
  by_cases hl : 200 < s.size
  · have hl' : (200 : Int) < (s.size : Int) := by omega
    clear hM hT hl
    go_enter Tryz.func10, Tryz.ntmps10
    go_wp2_with (go_at_call 13; refine (alive_any _ HM.out).mono ?_; rintro e w1 ⟨rfl, hb1⟩)
    go_ret
    exact ⟨rfl, hb1⟩
  · have hl' : ¬ (200 : Int) < (s.size : Int) := by omega
    have C1 := Lib.hid (fun w hm => Read_any s how w hs hm)
    have C2 := Lib.hid (fun w => refRead s how w (by omega))
    obtain ⟨S, h3, h4⟩ := two_texts a
    have C3 := Lib.hid h3
    have C4 := Lib.hid h4
    obtain ⟨r1, hr1⟩ : ∃ r, readR s.data.toList how = r := ⟨_, rfl⟩
    rw [hr1] at C1 C2
    clear hM hT hl h3 h4 hr1
    go_enter Tryz.func10, Tryz.ntmps10
    go_wp2_with (first
      | (go_at_call 50; refine (C1.out _ HM.out).mono ?_; rintro e w1 ⟨rfl, hb1⟩)
      | (go_at_call 51; refine (C2.out _).mono ?_; rintro e w2 ⟨rfl, hb2⟩; have b2 := Lib.hid (hb1.trans (hb2.mono hb1.size)); clear hb1 hb2)
      | (go_at_call 52; refine (C3.out _ (HT.out _ b2.out)).mono ?_; rintro e w3 ⟨rfl, hb3⟩)
      | (go_at_call 53; refine (C4.out _).mono ?_; rintro e w4 ⟨rfl, hb4⟩; have b3 := b2.out.trans (hb3.mono b2.out.size); have b4 := Lib.hid (b3.trans (hb4.mono b3.size)); clear hb3 hb4 b3)
      | (go_at_call 27; refine (same_eq _ _ _).mono ?_; rintro e w' ⟨rfl, rfl⟩)
      | (go_at_call 13; refine (alive_any _ (HM.out.up b4.out)).mono ?_; rintro e w5 ⟨rfl, hb5⟩))
    go_ret
    exact ⟨rfl, b4.out.trans (hb5.mono b4.out.size)⟩
end Go.Proofs.YthkhhjfldkebcaaGreatDoor

/- FixedTexts: the row and the card: for every input, the law answers true and its input reads as it did. No condition beside the row's own list of the library's variables. -/
namespace Go.Proofs.YthkhhjfldkebcaaGreatDoor
open Go.ChangeShapes Go.WideShapes Go.ChangeAt Go.RowKit Go.ChangeMaps

set_option maxRecDepth 100000 in
theorem FixedTexts_lifted (os : Os) (started : os.Started) (H : Type) (enc : TypeId × Value → H) :
    ReturnsInHanded {} Tryz.checked os 10 .any (fun w args => (Rows.fixedTextsSpec.pre enc Tryz.prog Tryz.f10 [] false w args ∧ laidMetH Tryz.prog laid7 w) ∧ sizedMet enc Tryz.prog Tryz.f10 (OpenSpec.ofChange Rows.fixedTextsSpec) false w args)
      (Rows.fixedTextsSpec.post enc Tryz.prog Tryz.f10 false true false false) := by
  refine row_wrap (C := Tryz.checked) (X := fun w _ => laidMetH Tryz.prog laid7 w) (fun _ _ _ hh h => h.of_heap hh) own started (by kernel_rfl) Tryz.func10
    (ChangeSpec.witness_shaped (enc := enc) (C := Tryz.checked) (os := os) (X := fun w _ => laidMetH Tryz.prog laid7 w) false (World.laidAll Tryz.prog os laid7) #[.int .i64 0, .string ⟨#[]⟩, .int .i64 0] 8 (World.laidAll_os _ _ _)
      (shaped7 os _) (by kernel_rfl) (by kernel_rfl) (by kernel_rfl) (met7 os _)) ?_
  intro W base args ds gs before hval0 hW hL hS
  have hval : ∀ (j : Nat) t v, Tryz.f10.params[j]? = some t → args[j]? = some v → Value.okWide Tryz.prog W .any base t v := hval0
  have hW' := hW
  obtain ⟨p, q, hA0, hV, rfl, _, _⟩ := hW
  have hA : DataW.TrodAll enc Tryz.prog W 0 (fun _ => true) true Tryz.f10.params.toList args.toList ds p := hA0
  rw [Tryz.params10] at hA hval
  obtain ⟨v0, v1, v2, d0, d1, d2, p0, p1, p2, rfl, rfl, rfl, h0, h1, h2⟩ := trodAll_three hA
  obtain ⟨rfl, rfl⟩ := trodVars_none hV
  obtain ⟨x, rfl, rfl, rfl, wx⟩ := open_int Tryz.underlying23 (hval 0 23 v0 rfl rfl) h0
  obtain ⟨y, rfl, rfl, rfl, wy⟩ := open_string Tryz.underlying9 (hval 1 9 v1 rfl rfl) h1
  obtain ⟨z, rfl, rfl, rfl, wz⟩ := open_int Tryz.underlying3 (hval 2 3 v2 rfl rfl) h2
  simp only [List.append_nil] at hW'
  refine (Texts_any x y z W (mem_of hL hS) (tab_of hL) (by unfold maxLen at wy; omega)).mono fun e W' ⟨he, hb⟩ => ?_
  subst he
  exact ⟨_, rfl, _, _, _, [], [], [], hW', trodAll_mk1 (shut_bool Tryz.underlying4 _), trodAll_mk3 (shut_int Tryz.underlying23 wx) (shut_string Tryz.underlying9 wy) (shut_int Tryz.underlying3 wz), rfl, hb.frame _, fun h => by cases h⟩

theorem FixedTexts_said : Rows.FixedTextsSaid :=
  OpenClaim.holds_of_wide 10 Tryz.f10 rfl rfl rfl rfl rfl rfl rfl ⟨rfl, rfl, rfl, rfl, rfl⟩ rfl rfl rfl rfl rfl (by kernel_rfl) Tryz.func10 (by kernel_rfl)
    (of_decide_eq_true (by kernel_rfl)) (by unfold Func.isWrapper; first | (rw [if_pos (by decide +kernel)]; kernel_rfl) | (rw [if_neg (by decide +kernel)]; exact ⟨rfl, rfl⟩))
    (fun os started H enc _ => FixedTexts_lifted os started H enc)

theorem FixedTexts_plain (f : FuncId) (fn : Func) (hf : Tryz.pinned.checked.prog.funcNamed "besom/besomlaw01.FixedTexts" = some f) (hfn : Tryz.pinned.checked.prog.funcs[f]? = some fn) :
    true = Tryz.pinned.checked.prog.looks [] ∧ ∀ (j : Nat) t, fn.params[j]? = some t → Tryz.pinned.checked.prog.wantsStandIn t = false := by
  obtain rfl : f = 10 := Option.some.inj ((show Tryz.prog.funcNamed "besom/besomlaw01.FixedTexts" = some 10 by kernel_rfl).symm.trans hf) |>.symm
  obtain rfl : fn = Tryz.f10 := (Option.some.inj (Tryz.func10.symm.trans hfn)).symm
  refine ⟨by kernel_rfl, fun j t ht => ?_⟩
  rw [Tryz.params10] at ht
  have ht' : t = 23 ∨ t = 9 ∨ t = 3 := by simpa using Array.mem_of_getElem? ht
  rcases ht' with rfl | rfl | rfl
  · exact (show Tryz.prog.wantsStandIn 23 = false by kernel_rfl)
  · exact (show Tryz.prog.wantsStandIn 9 = false by kernel_rfl)
  · exact (show Tryz.prog.wantsStandIn 3 = false by kernel_rfl)

/-- The card. -/
theorem FixedTexts_card : Rows.FixedTextsCardSaid :=
  Claim7.holds_tied_plain_at .later [] _ _ _ _ FixedTexts_said (fun _ h => by cases h) (by kernel_rfl) (fun _ h => by cases h) fixedTexts_row_tie rfl ⟨rfl, rfl⟩ (by kernel_rfl) rfl FixedTexts_plain (by kernel_rfl)
end Go.Proofs.YthkhhjfldkebcaaGreatDoor
