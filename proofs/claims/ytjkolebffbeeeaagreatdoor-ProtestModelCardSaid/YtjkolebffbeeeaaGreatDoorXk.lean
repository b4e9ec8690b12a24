/- The laws: Sound, Holds, Owns. -/
import Derived.Test.YtjkolebffbeeeaaGreatDoorXj
namespace Go.Proofs.YtjkolebffbeeeaaGreatDoor
open Go Go.RowKit Go.Proofs
attribute [local irreducible] J JQ JL JA JD

theorem hld16_no {Bk : List Cl} {A : Option Addr} {c : Nat} {ed : Int} {fl0 : List ByteArray} {fA0 : Option Addr} {fc0 : Nat} (hok : ∀ s ∈ fl0, okS s) {w : World} (hbk : BkW w Bk A c) (hfl : Arr 1 eS w (.slice fA0 fl0.length fc0) fl0) {a n : Int} (hq : hldQ Bk ed fl0 = some (a, n)) : Calls Tryz.prog 16 #[.slice A Bk.length c, .int .i64 ed, .slice fA0 fl0.length fc0] w  (Back (.tuple #[.slice none 0 0, .int .i64 n]) w) :=
 (Holds16 Bk A c ed fl0 fA0 fc0 hok w hbk hfl).mono (fun _ _ h => by unfold RetHd at h; rw [hq] at h; exact h)
theorem hld16_yes {Bk : List Cl} {A : Option Addr} {c : Nat} {ed : Int} {fl0 : List ByteArray} {fA0 : Option Addr} {fc0 : Nat} (hok : ∀ s ∈ fl0, okS s) {w : World} (hbk : BkW w Bk A c) (hfl : Arr 1 eS w (.slice fA0 fl0.length fc0) fl0) (hq : hldQ Bk ed fl0 = none) : Calls Tryz.prog 16 #[.slice A Bk.length c, .int .i64 ed, .slice fA0 fl0.length fc0] w  (Ret w (fun t : SoT => SoP (hldM Bk ed fl0).S t.L) (fun t => .tuple #[.slice t.A t.L.length t.c, .int .i64 0]) (fun t => [ownB 9 1 t.A t.L.length t.c (t.L.flatMap eS)])) :=
 (Holds16 Bk A c ed fl0 fA0 fc0 hok w hbk hfl).mono (fun _ _ h => by unfold RetHd at h; rw [hq] at h; exact h)
theorem why21_no {Bk : List Cl} {A : Option Addr} {c : Nat} {ed : Int} {fl0 : List ByteArray} {fA0 : Option Addr} {fc0 : Nat} {x : ByteArray} (hx : okS x) (hok : ∀ s ∈ fl0, okS s) {w : World} (hbk : BkW w Bk A c) (hfl : Arr 1 eS w (.slice fA0 fl0.length fc0) fl0) {a n : Int} (hq : whyQ Bk ed fl0 x = some (a, n)) : Calls Tryz.prog 21 #[.slice A Bk.length c, .int .i64 ed, .slice fA0 fl0.length fc0, .string x] w  (Back (.tuple #[.slice none 0 0, .int .i64 n]) w) :=
 (Why21 Bk A c ed fl0 fA0 fc0 x hok hx w hbk hfl).mono (fun _ _ h => by unfold RetWy at h; rw [hq] at h; exact h)
theorem why21_yes {Bk : List Cl} {A : Option Addr} {c : Nat} {ed : Int} {fl0 : List ByteArray} {fA0 : Option Addr} {fc0 : Nat} {x : ByteArray} (hx : okS x) (hok : ∀ s ∈ fl0, okS s) {w : World} (hbk : BkW w Bk A c) (hfl : Arr 1 eS w (.slice fA0 fl0.length fc0) fl0) (hq : whyQ Bk ed fl0 x = none) : Calls Tryz.prog 21 #[.slice A Bk.length c, .int .i64 ed, .slice fA0 fl0.length fc0, .string x] w  (Ret w (fun _ : Option Addr × Nat => True) (fun t => .tuple #[.slice t.1 (whyP Bk (hldM Bk ed fl0) x).length t.2, .int .i64 0]) (fun t => [ownB 3 1 t.1 (whyP Bk (hldM Bk ed fl0) x).length t.2 ((whyP Bk (hldM Bk ed fl0) x).flatMap eI)])) :=
 (Why21 Bk A c ed fl0 fA0 fc0 x hok hx w hbk hfl).mono (fun _ _ h => by unfold RetWy at h; rw [hq] at h; exact h)
theorem why31_no {Bk : List Cl} {A : Option Addr} {c : Nat} {ed : Int} {fl0 : List ByteArray} {fA0 : Option Addr} {fc0 : Nat} {x : ByteArray} (hok : ∀ s ∈ fl0, okS s) {w : World} (hbk : BkW w Bk A c) (hfl : Arr 1 eS w (.slice fA0 fl0.length fc0) fl0) {a n : Int} (hq : whyQ Bk ed fl0 x = some (a, n)) : Calls Tryz.prog 31 #[.slice A Bk.length c, .int .i64 ed, .slice fA0 fl0.length fc0, .string x] w  (Back (.tuple #[.slice none 0 0, .int .i64 n]) w) :=
 (Why31 Bk A c ed fl0 fA0 fc0 x hok w hbk hfl).mono (fun _ _ h => by unfold RetWy at h; rw [hq] at h; exact h)
theorem why31_yes {Bk : List Cl} {A : Option Addr} {c : Nat} {ed : Int} {fl0 : List ByteArray} {fA0 : Option Addr} {fc0 : Nat} {x : ByteArray} (hok : ∀ s ∈ fl0, okS s) {w : World} (hbk : BkW w Bk A c) (hfl : Arr 1 eS w (.slice fA0 fl0.length fc0) fl0) (hq : whyQ Bk ed fl0 x = none) : Calls Tryz.prog 31 #[.slice A Bk.length c, .int .i64 ed, .slice fA0 fl0.length fc0, .string x] w  (Ret w (fun _ : Option Addr × Nat => True) (fun t => .tuple #[.slice t.1 (whyP Bk (hldM Bk ed fl0) x).length t.2, .int .i64 0]) (fun t => [ownB 3 1 t.1 (whyP Bk (hldM Bk ed fl0) x).length t.2 ((whyP Bk (hldM Bk ed fl0) x).flatMap eI)])) :=
 (Why31 Bk A c ed fl0 fA0 fc0 x hok w hbk hfl).mono (fun _ _ h => by unfold RetWy at h; rw [hq] at h; dsimp only at h; rw [why_eq] at h; exact h)
theorem why_of {Bk : List Cl} {ed : Int} {fl0 : List ByteArray} {x : ByteArray} (hk : hldQ Bk ed fl0 = none) (hx : nameB x = true) : whyQ Bk ed fl0 x = if x ∈ (hldM Bk ed fl0).S then none else some (-1, 7) := by
 unfold whyQ; rw [hk]; dsimp only; rw [if_pos hx]
theorem isV_in {Bk : List Cl} {ed : Int} {fl0 : List ByteArray} {x : ByteArray} {l : List Int} (hb : bndF Bk = none) (hl : l.all (inB Bk) = true) (h : isV x (prv Bk ed (hldM Bk ed fl0).S l 0 fl0.reverse) = true) : x ∈ (hldM Bk ed fl0).S := by
 cases hp : prv Bk ed (hldM Bk ed fl0).S l 0 fl0.reverse with
 | mk r K =>
  rw [hp] at h
  cases r with
  | none => exact prv_sound hb hl hp x (of_decide_eq_true h)
  | some k => cases h
theorem why_len (Bk : List Cl) (ed : Int) (fl0 : List ByteArray) (h64 : Bk.length ≤ 64) (hf : fl0.length ≤ 64) (x : ByteArray) : (whyP Bk (hldM Bk ed fl0) x).length ≤ 128 := by
 have h1 : (whyP Bk (hldM Bk ed fl0) x).length ≤ (hldM Bk ed fl0).O.length := List.length_filter_le _ _
 obtain ⟨P, h⟩ := hld_MI (Bk := Bk) (ed := ed) (fl0 := fl0)
 have h2 := hld_len (ed := ed) h64 hf
 rw [h.s] at h2
 rw [h.o, List.length_reverse] at h1
 unfold knO at h2
 rw [List.length_append, List.length_map] at h2
 omega
set_option maxRecDepth 100000 in
set_option maxHeartbeats 4000000 in
theorem Sound_law (Bk : List Cl) (A : Option Addr) (c : Nat) (ed : Int) (fl0 : List ByteArray) (fA0 : Option Addr) (fc0 : Nat) (l : List Int) (lA : Option Addr) (lc : Nat) (x : ByteArray) (w : World) (hbk : BkW w Bk A c) (hfl : Arr 1 eS w (.slice fA0 fl0.length fc0) fl0) (hst : Arr 1 eI w (.slice lA l.length lc) l) : Calls Tryz.prog 5 #[.slice A Bk.length c, .int .i64 ed, .slice fA0 fl0.length fc0, .slice lA l.length lc, .string x] w (Back (.bool true) w) := by
 refine J_enter (fun _ => False) (vs := [.slice A Bk.length c, .int .i64 ed, .slice fA0 fl0.length fc0, .slice lA l.length lc, .string x]) (k := 80) (l := [(0, .slice A Bk.length c), (1, .int .i64 ed), (2, .slice fA0 fl0.length fc0), (3, .slice lA l.length lc), (4, .string x)]) Tryz.func5 rfl rfl Tryz.ntmps5 rfl rfl (Wd.start _) ?_
 refine s7 ?_
 rcases Bool.eq_false_or_eq_true (greB Bk fl0) with hgr | hgr
 ·refine s3 ?_
  refine aCB (fun w hw => great10 Bk A c fl0 fA0 fc0 w (hbk.up hw.bel).row (hbk.up hw.bel).cl (hfl.up ES hw.bel)) ?_
  refine aBoolT ?_ hgr
  refine s14 ?_
  refine kJ [] ?_
  refine s1 ?_
  refine aCB (fun w hw => awake11 w) ?_
  refine s5 ?_
  refine JR_one rfl (rr_tmp rfl) ?_
  intro w' hw
  exact ⟨rfl, hw.bel⟩
 ·obtain ⟨hB70, hf70, hs100⟩ := gre_parts hgr
  have hok := ok_100 hs100
  refine s3 ?_
  refine aCB (fun w hw => great10 Bk A c fl0 fA0 fc0 w (hbk.up hw.bel).row (hbk.up hw.bel).cl (hfl.up ES hw.bel)) ?_
  refine aBoolF ?_ hgr
  refine s4 ?_
  refine JL_dec (fun h24 => ?_) (fun h24 => ?_)
  ·refine s10 ?_
   refine kJ [] ?_
   refine s1 ?_
   refine aCB (fun w hw => awake11 w) ?_
   refine s5 ?_
   refine JR_one rfl (rr_tmp rfl) ?_
   intro w' hw
   exact ⟨rfl, hw.bel⟩
  ·refine s5 ?_
   refine JL_dec (fun h29 => ?_) (fun h29 => ?_)
   ·refine s5 ?_
    refine kJ [] ?_
    refine s1 ?_
    refine aCB (fun w hw => awake11 w) ?_
    refine s5 ?_
    refine JR_one rfl (rr_tmp rfl) ?_
    intro w' hw
    exact ⟨rfl, hw.bel⟩
   ·refine s7 ?_
    obtain hq | ⟨qa, qn, hq⟩ := opt2 (prvQ Bk ed fl0 x l)
    ·obtain ⟨hk, hnm, hni⟩ := prv_hq hq
     obtain ⟨hb, hak⟩ := hld_parts hk
     refine kJ [(0, _), (1, _), (2, _), (3, _), (4, _)] ?_
     refine s6 ?_
     refine aCB (fun w hw => (Proves12 Bk A c ed fl0 fA0 fc0 l lA lc x hok (ok_lit (by omega)) w (hbk.up hw.bel) (hfl.up ES hw.bel) (hst.up EI hw.bel) (by omega)).mono (fun _ _ h => by unfold prvR at h; rw [hq] at h; dsimp only at h; rw [prvV_eq] at h; exact h)) ?_
     refine s10 ?_
     by_cases hxS : x ∈ (hldM Bk ed fl0).S
     ·have hwq : whyQ Bk ed fl0 x = none := by rw [why_of hk hnm, if_pos hxS]
      refine kJ [(0, _), (1, _), (2, _), (4, _), (11, _), (13, _)] ?_
      refine s5 ?_
      refine aW (oR (fun w hw => why21_yes (ok_lit (by omega)) hok (hbk.up hw.bel) (hfl.up ES hw.bel) hwq)) (fun t47 _ => ?_)
      refine s8 ?_
      have hhq := hk
      ·have h64 := bnd_64 hb
       have hl128 := hld_len (ed := ed) h64 (ask_64 hak)
       refine kJ [(0, _), (1, _), (2, _), (4, _), (11, _), (13, _), (15, _)] ?_
       refine s4 ?_
       refine aW (oR (fun w hw => hld16_yes hok (hbk.up hw.bel) (hfl.up ES hw.bel) hhq)) (fun t54 ht54 => ?_)
       obtain ⟨L54, A54, c54⟩ := t54
       dsimp only [List.cons_append, List.nil_append] at ht54 ⊢
       have hln := ht54.len
       refine s9 ?_
       refine kJ [(4, _), (11, _), (13, _), (15, _), (16, _), (17, _)] ?_
       refine s3 ?_
       refine aDecF ?_ (by decide)
       refine s6 ?_
       cases his : isV x (prv Bk ed (hldM Bk ed fl0).S l 0 fl0.reverse)
       ·refine s3 ?_
        refine aDecT ?_ (by decide)
        refine s3 ?_
        refine aDecT ?_ (by decide)
        refine s2 ?_
        refine aCB (fun w hw => Has22 L54 x _ w (own_arr ES hw (by repeat constructor) (by omega))) ?_
        refine aDecT ?_ ((ht54.mem x).2 hxS)
        refine aP (pEqlB rfl rfl rfl) ?_
        refine aDecT ?_ rfl
        refine s10 ?_
        refine aCB (fun w hw => awake11 w) ?_
        refine s5 ?_
        refine JR_one rfl (rr_tmp rfl) ?_
        intro w' hw
        exact ⟨rfl, hw.bel⟩
       ·refine s3 ?_
        refine aDecT ?_ (by decide)
        refine s3 ?_
        refine aDecT ?_ (by decide)
        refine s2 ?_
        refine aCB (fun w hw => Has22 L54 x _ w (own_arr ES hw (by repeat constructor) (by omega))) ?_
        refine aDecT ?_ ((ht54.mem x).2 hxS)
        refine aP (pEqlB rfl rfl rfl) ?_
        refine aDecT ?_ rfl
        refine s7 ?_
        refine aDecT ?_ (by decide)
        refine s3 ?_
        refine aCB (fun w hw => awake11 w) ?_
        refine s5 ?_
        refine JR_one rfl (rr_tmp rfl) ?_
        intro w' hw
        exact ⟨rfl, hw.bel⟩
     ·have hwq : whyQ Bk ed fl0 x = some (-1, 7) := by rw [why_of hk hnm, if_neg hxS]
      refine kJ [(0, _), (1, _), (2, _), (4, _), (11, _), (13, _)] ?_
      refine s5 ?_
      refine aCB (fun w hw => why21_no (ok_lit (by omega)) hok (hbk.up hw.bel) (hfl.up ES hw.bel) hwq) ?_
      refine s8 ?_
      have hhq := hk
      ·have h64 := bnd_64 hb
       have hl128 := hld_len (ed := ed) h64 (ask_64 hak)
       refine kJ [(0, _), (1, _), (2, _), (4, _), (11, _), (13, _), (15, _)] ?_
       refine s4 ?_
       refine aW (oR (fun w hw => hld16_yes hok (hbk.up hw.bel) (hfl.up ES hw.bel) hhq)) (fun t54 ht54 => ?_)
       obtain ⟨L54, A54, c54⟩ := t54
       dsimp only [List.cons_append, List.nil_append] at ht54 ⊢
       have hln := ht54.len
       refine s9 ?_
       refine kJ [(4, _), (11, _), (13, _), (15, _), (16, _), (17, _)] ?_
       refine s3 ?_
       refine aDecF ?_ (by decide)
       refine s6 ?_
       have his : isV x (prv Bk ed (hldM Bk ed fl0).S l 0 fl0.reverse) = false := by cases h : isV x (prv Bk ed (hldM Bk ed fl0).S l 0 fl0.reverse) with | false => rfl | true => exact absurd (isV_in hb hni h) hxS
       ·rw [his]
        refine s3 ?_
        refine aDecT ?_ (by decide)
        refine s3 ?_
        refine aDecF ?_ (by decide)
        refine s2 ?_
        refine aCB (fun w hw => Has22 L54 x _ w (own_arr ES hw (by repeat constructor) (by omega))) ?_
        refine aDecF ?_ (fun h => hxS ((ht54.mem x).1 h))
        refine aP (pEqlB rfl rfl rfl) ?_
        refine aDecT ?_ rfl
        refine s10 ?_
        refine aCB (fun w hw => awake11 w) ?_
        refine s5 ?_
        refine JR_one rfl (rr_tmp rfl) ?_
        intro w' hw
        exact ⟨rfl, hw.bel⟩
    ·have hnz := prv_ne hq
     refine kJ [(0, _), (1, _), (2, _), (3, _), (4, _)] ?_
     refine s6 ?_
     refine aCB (fun w hw => (Proves12 Bk A c ed fl0 fA0 fc0 l lA lc x hok (ok_lit (by omega)) w (hbk.up hw.bel) (hfl.up ES hw.bel) (hst.up EI hw.bel) (by omega)).mono (fun _ _ h => by unfold prvR at h; rw [hq] at h; exact h)) ?_
     refine s10 ?_
     obtain hwq | ⟨wa, wn, hwq⟩ := opt2 (whyQ Bk ed fl0 x)
     ·refine kJ [(0, _), (1, _), (2, _), (4, _), (11, _), (13, _)] ?_
      refine s5 ?_
      refine aW (oR (fun w hw => why21_yes (ok_lit (by omega)) hok (hbk.up hw.bel) (hfl.up ES hw.bel) hwq)) (fun t47 _ => ?_)
      refine s8 ?_
      obtain hhq | ⟨wa2, wn2, hhq⟩ := opt2 (hldQ Bk ed fl0)
      ·refine kJ [(0, _), (1, _), (2, _), (4, _), (11, _), (13, _), (15, _)] ?_
       refine s4 ?_
       refine aW (oR (fun w hw => hld16_yes hok (hbk.up hw.bel) (hfl.up ES hw.bel) hhq)) (fun t54 ht54 => ?_)
       obtain ⟨L54, A54, c54⟩ := t54
       dsimp only [List.cons_append, List.nil_append] at ht54 ⊢
       have hln := ht54.len
       refine s9 ?_
       refine kJ [(4, _), (11, _), (13, _), (15, _), (16, _), (17, _)] ?_
       refine s3 ?_
       refine aDecT ?_ hnz
       refine s4 ?_
       refine kJ [(11, _)] ?_
       refine s4 ?_
       refine aCB (fun w hw => awake11 w) ?_
       refine s6 ?_
       refine JR_one rfl (rr_tmp rfl) ?_
       intro w' hw
       exact ⟨rfl, hw.bel⟩
      ·refine kJ [(0, _), (1, _), (2, _), (4, _), (11, _), (13, _), (15, _)] ?_
       refine s4 ?_
       refine aCB (fun w hw => hld16_no hok (hbk.up hw.bel) (hfl.up ES hw.bel) hhq) ?_
       refine s9 ?_
       refine kJ [(4, _), (11, _), (13, _), (15, _), (16, _), (17, _)] ?_
       refine s3 ?_
       refine aDecT ?_ hnz
       refine s4 ?_
       refine kJ [(11, _)] ?_
       refine s4 ?_
       refine aCB (fun w hw => awake11 w) ?_
       refine s6 ?_
       refine JR_one rfl (rr_tmp rfl) ?_
       intro w' hw
       exact ⟨rfl, hw.bel⟩
     ·refine kJ [(0, _), (1, _), (2, _), (4, _), (11, _), (13, _)] ?_
      refine s5 ?_
      refine aCB (fun w hw => why21_no (ok_lit (by omega)) hok (hbk.up hw.bel) (hfl.up ES hw.bel) hwq) ?_
      refine s8 ?_
      obtain hhq | ⟨wa2, wn2, hhq⟩ := opt2 (hldQ Bk ed fl0)
      ·refine kJ [(0, _), (1, _), (2, _), (4, _), (11, _), (13, _), (15, _)] ?_
       refine s4 ?_
       refine aW (oR (fun w hw => hld16_yes hok (hbk.up hw.bel) (hfl.up ES hw.bel) hhq)) (fun t54 ht54 => ?_)
       obtain ⟨L54, A54, c54⟩ := t54
       dsimp only [List.cons_append, List.nil_append] at ht54 ⊢
       have hln := ht54.len
       refine s9 ?_
       refine kJ [(4, _), (11, _), (13, _), (15, _), (16, _), (17, _)] ?_
       refine s3 ?_
       refine aDecT ?_ hnz
       refine s4 ?_
       refine kJ [(11, _)] ?_
       refine s4 ?_
       refine aCB (fun w hw => awake11 w) ?_
       refine s6 ?_
       refine JR_one rfl (rr_tmp rfl) ?_
       intro w' hw
       exact ⟨rfl, hw.bel⟩
      ·refine kJ [(0, _), (1, _), (2, _), (4, _), (11, _), (13, _), (15, _)] ?_
       refine s4 ?_
       refine aCB (fun w hw => hld16_no hok (hbk.up hw.bel) (hfl.up ES hw.bel) hhq) ?_
       refine s9 ?_
       refine kJ [(4, _), (11, _), (13, _), (15, _), (16, _), (17, _)] ?_
       refine s3 ?_
       refine aDecT ?_ hnz
       refine s4 ?_
       refine kJ [(11, _)] ?_
       refine s4 ?_
       refine aCB (fun w hw => awake11 w) ?_
       refine s6 ?_
       refine JR_one rfl (rr_tmp rfl) ?_
       intro w' hw
       exact ⟨rfl, hw.bel⟩
end Go.Proofs.YtjkolebffbeeeaaGreatDoor
