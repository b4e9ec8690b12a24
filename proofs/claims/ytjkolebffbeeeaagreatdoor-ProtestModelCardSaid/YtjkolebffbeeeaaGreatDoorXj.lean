/- The laws: Books, Proofs, Sound. -/
import Derived.Test.YtjkolebffbeeeaaGreatDoorXi
import Derived.Test.YtjkolebffbeeeaaGreatDoorPb
namespace Go.Proofs.YtjkolebffbeeeaaGreatDoor
open Go Go.RowKit Go.Proofs
attribute [local irreducible] J JQ JL JA JD

theorem gre_parts {Bk : List Cl} {l : List ByteArray} (h : greB Bk l = false) : Bk.length ≤ 70 ∧ l.length ≤ 70 ∧ ∀ s ∈ l, s.size ≤ 100 := by
 unfold greB at h
 simp only [Bool.or_eq_false_iff, decide_eq_false_iff_not, List.any_eq_false, decide_eq_true_eq] at h
 obtain ⟨⟨⟨h1, h2⟩, h3⟩, -⟩ := h
 refine ⟨by omega, by omega, fun s hs => ?_⟩
 have := h1 s (by rw [List.take_of_length_le (by omega)]; exact hs)
 omega
theorem ok_100 {l : List ByteArray} (h : ∀ s ∈ l, s.size ≤ 100) : ∀ s ∈ l, okS s := fun s hs => ok_lit (by have := h s hs; omega)
set_option maxRecDepth 100000 in
set_option maxHeartbeats 4000000 in
theorem Books_law (Bk : List Cl) (A : Option Addr) (c : Nat) (d : Cl) (x : ByteArray) (w : World) (hbk : BkW w Bk A c) (hcx : ClW w d) (hx : okS x) : Calls Tryz.prog 7 #[.slice A Bk.length c, Clv d, .string x] w (Back (.bool true) w) := by
 obtain ⟨cn, cf, ct, ⟨fA, fn, fc, fl⟩, ⟨uA, un, uc, ul⟩, th⟩ := d
 obtain rfl : fn = fl.length := dv_nc hcx.fs
 obtain rfl : un = ul.length := dv_nc hcx.us
 refine J_enter (fun _ => False) (vs := [.slice A Bk.length c, .agg #[.string cn, .int .i64 cf, .int .i64 ct, .slice fA fl.length fc, .slice uA ul.length uc, .string th], .string x]) (k := 72) (l := [(0, .slice A Bk.length c), (1, .agg #[.string cn, .int .i64 cf, .int .i64 ct, .slice fA fl.length fc, .slice uA ul.length uc, .string th]), (2, .string x)]) Tryz.func7 rfl rfl Tryz.ntmps7 rfl rfl (Wd.start _) ?_
 refine s2 ?_
 refine aW (oX [_, _, _, _, _, _]) (fun b4 hb4 => ?_)
 refine s8 ?_
 refine aW (ow_sliceC (vs := [_]) (ty := 9) rfl rfl (by rfl) rfl rfl (fun _ => by kernel_rfl)) (fun b17 hb17 => ?_)
 refine aCB (fun w hw => great10 Bk A c [x] (some ⟨b17, 0, none⟩) 1 w (hbk.up hw.bel).row (hbk.up hw.bel).cl (cell_arr ES [x] (hw.ok (cellB b17 [.string x] 9) (by repeat constructor)).1 rfl (show 1 ≤ 1000 by decide))) ?_
 refine JL_bool (fun h18 => ?_) (fun h18 => ?_)
 ·refine s9 ?_
  refine kJ [] ?_
  refine s1 ?_
  refine aCB (fun w hw => awake11 w) ?_
  refine s5 ?_
  refine JR_one rfl (rr_tmp rfl) ?_
  intro w' hw
  exact ⟨rfl, hw.bel⟩
 ·refine s2 ?_
  refine aW (ow_sliceC (vs := [_, _, _, _, _, _]) (ty := 40) rfl rfl (by rfl) rfl rfl (fun _ => by kernel_rfl)) (fun b21 hb21 => ?_)
  refine aCB (fun w hw => great10 [(⟨cn, cf, ct, ⟨fA, fl.length, fc, fl⟩, ⟨uA, ul.length, uc, ul⟩, th⟩ : Cl)] (some ⟨b21, 0, none⟩) 1 [] none 0 w (cell_arr EC6 [(⟨cn, cf, ct, ⟨fA, fl.length, fc, fl⟩, ⟨uA, ul.length, uc, ul⟩, th⟩ : Cl)] (hw.ok (cellB b21 [.string cn, .int .i64 cf, .int .i64 ct, .slice fA fl.length fc, .slice uA ul.length uc, .string th] 40) (by repeat constructor)).1 rfl (show 1 ≤ 1000 by decide)) (fun d hd => by rw [List.mem_singleton.1 hd]; exact hcx.up hw.bel) (Arr.nil w)) ?_
  refine JL_bool (fun h22 => ?_) (fun h22 => ?_)
  ·refine s5 ?_
   refine kJ [] ?_
   refine s1 ?_
   refine aCB (fun w hw => awake11 w) ?_
   refine s5 ?_
   refine JR_one rfl (rr_tmp rfl) ?_
   intro w' hw
   exact ⟨rfl, hw.bel⟩
  ·refine s7 ?_
   refine kJ [(0, _), (2, _), (4, _)] ?_
   refine s2 ?_
   refine aCB (fun w hw => Check24 Bk A c w (hbk.up hw.bel)) ?_
   refine s8 ?_
   refine kJ [(0, _), (2, _), (4, _), (7, _), (8, _)] ?_
   refine s2 ?_
   refine aCB (fun w hw => Check25 Bk A c w (hbk.up hw.bel)) ?_
   refine s8 ?_
   refine kJ [(0, _), (2, _), (4, _), (7, _), (8, _), (9, _), (10, _)] ?_
   refine s3 ?_
   refine aCB (fun w hw => Level26 Bk A c x hx w (hbk.up hw.bel)) ?_
   refine s8 ?_
   refine kJ [(0, _), (2, _), (4, _), (7, _), (8, _), (9, _), (10, _), (11, _), (12, _)] ?_
   refine s3 ?_
   refine aCB (fun w hw => Level27 Bk A c x hx w (hbk.up hw.bel)) ?_
   refine s8 ?_
   refine kJ [(4, _), (7, _), (8, _), (9, _), (10, _), (11, _), (12, _), (13, _), (14, _)] ?_
   refine xD [0, 2, 1, 3, 4, 5, 6, 7, 8, 9, 10, 11, 12, 13, 14, 15, 16, 17, 18, 19, 20, 21, 22, 23, 24, 25, 26, 27, 28] [0, 2] ?_
   refine s2 ?_
   refine dCB rfl (fun w hw => CheckClause28 (⟨cn, cf, ct, ⟨fA, fl.length, fc, fl⟩, ⟨uA, ul.length, uc, ul⟩, th⟩ : Cl) w (hcx.up hw.bel)) ?_
   refine dCB rfl (fun w hw => CheckClause29 (⟨cn, cf, ct, ⟨fA, fl.length, fc, fl⟩, ⟨uA, ul.length, uc, ul⟩, th⟩ : Cl) w (hcx.up hw.bel)) ?_
   refine dP rfl (pEqlB rfl rfl rfl) ?_
   refine dDecT ?_ rfl
   refine s4 ?_
   refine dDecT ?_ rfl
   refine s5 ?_
   refine dDecT ?_ rfl
   refine s5 ?_
   refine dDecT ?_ rfl
   refine s5 ?_
   refine dDecT ?_ rfl
   refine s2 ?_
   refine dCB rfl (fun w hw => awake11 w) ?_
   refine s5 ?_
   refine JR_one rfl (rr_tmp rfl) ?_
   intro w' hw
   exact ⟨rfl, hw.bel⟩
theorem prvR_form (Bk : List Cl) (ed : Int) (fl0 : List ByteArray) (x : ByteArray) (l : List Int) : ∃ a b n, prvR Bk ed fl0 x l = .tuple #[.bool a, .int .i64 b, .int .i64 n] := by
 unfold prvR
 split
 ·exact ⟨_, _, _, rfl⟩
 ·rw [prvV_eq]; exact ⟨_, _, _, rfl⟩
set_option maxRecDepth 100000 in
set_option maxHeartbeats 4000000 in
theorem Proofs_law (Bk : List Cl) (A : Option Addr) (c : Nat) (ed : Int) (fl0 : List ByteArray) (fA0 : Option Addr) (fc0 : Nat) (l : List Int) (lA : Option Addr) (lc : Nat) (x : ByteArray) (w : World) (hbk : BkW w Bk A c) (hfl : Arr 1 eS w (.slice fA0 fl0.length fc0) fl0) (hst : Arr 1 eI w (.slice lA l.length lc) l) : Calls Tryz.prog 3 #[.slice A Bk.length c, .int .i64 ed, .slice fA0 fl0.length fc0, .slice lA l.length lc, .string x] w (Back (.bool true) w) := by
 refine J_enter (fun _ => False) (vs := [.slice A Bk.length c, .int .i64 ed, .slice fA0 fl0.length fc0, .slice lA l.length lc, .string x]) (k := 88) (l := [(0, .slice A Bk.length c), (1, .int .i64 ed), (2, .slice fA0 fl0.length fc0), (3, .slice lA l.length lc), (4, .string x)]) Tryz.func3 rfl rfl Tryz.ntmps3 rfl rfl (Wd.start _) ?_
 refine s7 ?_
 rcases Bool.eq_false_or_eq_true (greB Bk fl0) with hgr | hgr
 ·refine s3 ?_
  refine aCB (fun w hw => great10 Bk A c fl0 fA0 fc0 w (hbk.up hw.bel).row (hbk.up hw.bel).cl (hfl.up ES hw.bel)) ?_
  refine aBoolT ?_ hgr
  refine s14 ?_
  refine kJ [] ?_
  refine s1 ?_
  refine aCB (fun w hw => awake11 w) ?_
  refine s5 ?_
  refine JR_one rfl (rr_tmp rfl) ?_
  intro w' hw
  exact ⟨rfl, hw.bel⟩
 ·obtain ⟨hB70, hf70, hs100⟩ := gre_parts hgr
  have hok := ok_100 hs100
  refine s3 ?_
  refine aCB (fun w hw => great10 Bk A c fl0 fA0 fc0 w (hbk.up hw.bel).row (hbk.up hw.bel).cl (hfl.up ES hw.bel)) ?_
  refine aBoolF ?_ hgr
  refine s4 ?_
  refine JL_dec (fun h27 => ?_) (fun h27 => ?_)
  ·refine s10 ?_
   refine kJ [] ?_
   refine s1 ?_
   refine aCB (fun w hw => awake11 w) ?_
   refine s5 ?_
   refine JR_one rfl (rr_tmp rfl) ?_
   intro w' hw
   exact ⟨rfl, hw.bel⟩
  ·refine s5 ?_
   refine JL_dec (fun h32 => ?_) (fun h32 => ?_)
   ·refine s5 ?_
    refine kJ [] ?_
    refine s1 ?_
    refine aCB (fun w hw => awake11 w) ?_
    refine s5 ?_
    refine JR_one rfl (rr_tmp rfl) ?_
    intro w' hw
    exact ⟨rfl, hw.bel⟩
   ·refine s7 ?_
    obtain ⟨pa, pb, pn, hp⟩ := prvR_form Bk ed fl0 x l
    refine kJ [(0, _), (1, _), (2, _), (3, _), (4, _)] ?_
    refine s6 ?_
    refine aCB (fun w hw => (Proves12 Bk A c ed fl0 fA0 fc0 l lA lc x hok (ok_lit (by omega)) w (hbk.up hw.bel) (hfl.up ES hw.bel) (hst.up EI hw.bel) (by omega)).mono (fun _ _ h => by rw [hp] at h; exact h)) ?_
    refine s10 ?_
    refine kJ [(0, _), (1, _), (2, _), (3, _), (4, _), (11, _), (12, _), (13, _)] ?_
    refine s6 ?_
    refine aCB (fun w hw => (Proves13 Bk A c ed fl0 fA0 fc0 l lA lc x hok w (hbk.up hw.bel) (hfl.up ES hw.bel) (hst.up EI hw.bel) (by omega)).mono (fun _ _ h => by rw [hp] at h; exact h)) ?_
    refine s10 ?_
    refine kJ [(0, _), (3, _), (11, _), (12, _), (13, _), (14, _), (15, _), (16, _)] ?_
    refine s3 ?_
    refine aCB (fun w hw => Text14 Bk A c l lA lc w (hbk.up hw.bel) (hst.up EI hw.bel) (by omega)) ?_
    refine s8 ?_
    refine kJ [(0, _), (3, _), (11, _), (12, _), (13, _), (14, _), (15, _), (16, _), (17, _), (18, _)] ?_
    refine s3 ?_
    refine aCB (fun w hw => Text15 Bk A c l lA lc w (hbk.up hw.bel) (hst.up EI hw.bel) (by omega)) ?_
    refine s8 ?_
    refine kJ [(11, _), (12, _), (13, _), (14, _), (15, _), (16, _), (17, _), (18, _), (19, _), (20, _)] ?_
    refine s3 ?_
    refine aP (pEqlB rfl rfl rfl) ?_
    refine aDecT ?_ rfl
    refine s4 ?_
    refine aDecT ?_ rfl
    refine s5 ?_
    refine aDecT ?_ rfl
    refine s5 ?_
    refine aDecT ?_ rfl
    refine s5 ?_
    refine aDecT ?_ rfl
    refine s2 ?_
    refine aCB (fun w hw => awake11 w) ?_
    refine s5 ?_
    refine JR_one rfl (rr_tmp rfl) ?_
    intro w' hw
    exact ⟨rfl, hw.bel⟩
end Go.Proofs.YtjkolebffbeeeaaGreatDoor
