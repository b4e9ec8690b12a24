/- The law: Holds. -/
import Derived.Test.YtjkolebffbeeeaaGreatDoorXk
namespace Go.Proofs.YtjkolebffbeeeaaGreatDoor
open Go Go.RowKit Go.Proofs
attribute [local irreducible] J JQ JL JA JD

theorem retCh_no {Bk : List Cl} {e1 e2 : Int} {fl0 : List ByteArray} {a n : Int} {w w' : World} {e : Ending} (h : chgQ Bk e1 e2 fl0 = some (a, n)) (hr : RetCh Bk e1 e2 fl0 w e w') : Back (.tuple #[.slice none 0 0, .slice none 0 0, .int .i64 n]) w e w' := by
 unfold chgQ at h; unfold RetCh at hr
 obtain hk | ⟨a', n', hk⟩ := opt2 (hldQ Bk e1 fl0)
 ·rw [hk] at h hr; dsimp only at h hr; rw [h] at hr; exact hr
 ·rw [hk] at h hr; cases h; exact hr
theorem retCh_yes {Bk : List Cl} {e1 e2 : Int} {fl0 : List ByteArray} {w w' : World} {e : Ending} (h : chgQ Bk e1 e2 fl0 = none) (hr : RetCh Bk e1 e2 fl0 w e w') : (Ret w (fun t : SoT × SoT => ∃ L M, SoP (hldM Bk e1 fl0).S L ∧ SoP (hldM Bk e2 fl0).S M ∧ t.1.L = lesL L M ∧ t.2.L = lesL M L) (fun t => .tuple #[.slice t.1.A t.1.L.length t.1.c, .slice t.2.A t.2.L.length t.2.c, .int .i64 0]) (fun t => [ownB 9 1 t.1.A t.1.L.length t.1.c (t.1.L.flatMap eS), ownB 9 1 t.2.A t.2.L.length t.2.c (t.2.L.flatMap eS)])) e w' := by
 unfold chgQ at h; unfold RetCh at hr
 obtain hk | ⟨a', n', hk⟩ := opt2 (hldQ Bk e1 fl0)
 ·rw [hk] at h hr; dsimp only at h hr; rw [h] at hr; exact hr
 ·rw [hk] at h; cases h
theorem lesL_le (l m : List ByteArray) : (lesL l m).length ≤ l.length := List.length_filter_le _ _
theorem chg32_no {Bk : List Cl} {A : Option Addr} {c : Nat} {e1 e2 : Int} {fl0 : List ByteArray} {fA0 : Option Addr} {fc0 : Nat} (hok : ∀ s ∈ fl0, okS s) {w : World} (hbk : BkW w Bk A c) (hfl : Arr 1 eS w (.slice fA0 fl0.length fc0) fl0) {a n : Int} (hq : chgQ Bk e1 e2 fl0 = some (a, n)) : Calls Tryz.prog 32 #[.slice A Bk.length c, .int .i64 e1, .int .i64 e2, .slice fA0 fl0.length fc0] w  (Back (.tuple #[.slice none 0 0, .slice none 0 0, .int .i64 n]) w) := (Changed32 Bk A c e1 e2 fl0 fA0 fc0 hok w hbk hfl).mono (fun _ _ h => retCh_no hq h)
theorem chg32_yes {Bk : List Cl} {A : Option Addr} {c : Nat} {e1 e2 : Int} {fl0 : List ByteArray} {fA0 : Option Addr} {fc0 : Nat} (hok : ∀ s ∈ fl0, okS s) {w : World} (hbk : BkW w Bk A c) (hfl : Arr 1 eS w (.slice fA0 fl0.length fc0) fl0) (hq : chgQ Bk e1 e2 fl0 = none) : Calls Tryz.prog 32 #[.slice A Bk.length c, .int .i64 e1, .int .i64 e2, .slice fA0 fl0.length fc0] w  (Ret w (fun t : SoT × SoT => ∃ L M, SoP (hldM Bk e1 fl0).S L ∧ SoP (hldM Bk e2 fl0).S M ∧ t.1.L = lesL L M ∧ t.2.L = lesL M L) (fun t => .tuple #[.slice t.1.A t.1.L.length t.1.c, .slice t.2.A t.2.L.length t.2.c, .int .i64 0]) (fun t => [ownB 9 1 t.1.A t.1.L.length t.1.c (t.1.L.flatMap eS), ownB 9 1 t.2.A t.2.L.length t.2.c (t.2.L.flatMap eS)])) := (Changed32 Bk A c e1 e2 fl0 fA0 fc0 hok w hbk hfl).mono (fun _ _ h => retCh_yes hq h)
theorem chg33_no {Bk : List Cl} {A : Option Addr} {c : Nat} {e1 e2 : Int} {fl0 : List ByteArray} {fA0 : Option Addr} {fc0 : Nat} (hok : ∀ s ∈ fl0, okS s) {w : World} (hbk : BkW w Bk A c) (hfl : Arr 1 eS w (.slice fA0 fl0.length fc0) fl0) {a n : Int} (hq : chgQ Bk e1 e2 fl0 = some (a, n)) : Calls Tryz.prog 33 #[.slice A Bk.length c, .int .i64 e1, .int .i64 e2, .slice fA0 fl0.length fc0] w  (Back (.tuple #[.slice none 0 0, .slice none 0 0, .int .i64 n]) w) := (Changed33 Bk A c e1 e2 fl0 fA0 fc0 hok w hbk hfl).mono (fun _ _ h => retCh_no hq h)
theorem chg33_yes {Bk : List Cl} {A : Option Addr} {c : Nat} {e1 e2 : Int} {fl0 : List ByteArray} {fA0 : Option Addr} {fc0 : Nat} (hok : ∀ s ∈ fl0, okS s) {w : World} (hbk : BkW w Bk A c) (hfl : Arr 1 eS w (.slice fA0 fl0.length fc0) fl0) (hq : chgQ Bk e1 e2 fl0 = none) : Calls Tryz.prog 33 #[.slice A Bk.length c, .int .i64 e1, .int .i64 e2, .slice fA0 fl0.length fc0] w  (Ret w (fun t : SoT × SoT => ∃ L M, SoP (hldM Bk e1 fl0).S L ∧ SoP (hldM Bk e2 fl0).S M ∧ t.1.L = lesL L M ∧ t.2.L = lesL M L) (fun t => .tuple #[.slice t.1.A t.1.L.length t.1.c, .slice t.2.A t.2.L.length t.2.c, .int .i64 0]) (fun t => [ownB 9 1 t.1.A t.1.L.length t.1.c (t.1.L.flatMap eS), ownB 9 1 t.2.A t.2.L.length t.2.c (t.2.L.flatMap eS)])) := (Changed33 Bk A c e1 e2 fl0 fA0 fc0 hok w hbk hfl).mono (fun _ _ h => retCh_yes hq h)
set_option maxRecDepth 100000 in
set_option maxHeartbeats 4000000 in
theorem Holds_law (Bk : List Cl) (A : Option Addr) (c : Nat) (e1 e2 : Int) (fl0 : List ByteArray) (fA0 : Option Addr) (fc0 : Nat) (x : ByteArray) (w : World) (hbk : BkW w Bk A c) (hfl : Arr 1 eS w (.slice fA0 fl0.length fc0) fl0) : Calls Tryz.prog 8 #[.slice A Bk.length c, .agg #[.int .i64 e1, .int .i64 e2], .slice fA0 fl0.length fc0, .string x] w (Back (.bool true) w) := by
 refine J_enter (fun _ => False) (vs := [.slice A Bk.length c, .agg #[.int .i64 e1, .int .i64 e2], .slice fA0 fl0.length fc0, .string x]) (k := 120) (l := [(0, .slice A Bk.length c), (1, .agg #[.int .i64 e1, .int .i64 e2]), (2, .slice fA0 fl0.length fc0), (3, .string x)]) Tryz.func8 rfl rfl Tryz.ntmps8 rfl rfl (Wd.start _) ?_
 refine s2 ?_
 refine aW (oX [_, _]) (fun b5 hb5 => ?_)
 refine s5 ?_
 rcases Bool.eq_false_or_eq_true (greB Bk fl0) with hgr | hgr
 ·refine s3 ?_
  refine aCB (fun w hw => great10 Bk A c fl0 fA0 fc0 w (hbk.up hw.bel).row (hbk.up hw.bel).cl (hfl.up ES hw.bel)) ?_
  refine aBoolT ?_ hgr
  refine s9 ?_
  refine kJ [] ?_
  refine s1 ?_
  refine aCB (fun w hw => awake11 w) ?_
  refine s5 ?_
  refine JR_one rfl (rr_tmp rfl) ?_
  intro w' hw
  exact ⟨rfl, hw.bel⟩
 ·obtain ⟨hB70, hf70, hs100⟩ := gre_parts hgr
  have hok := ok_100 hs100
  refine s3 ?_
  refine aCB (fun w hw => great10 Bk A c fl0 fA0 fc0 w (hbk.up hw.bel).row (hbk.up hw.bel).cl (hfl.up ES hw.bel)) ?_
  refine aBoolF ?_ hgr
  refine s4 ?_
  refine JL_dec (fun h29 => ?_) (fun h29 => ?_)
  ·refine s5 ?_
   refine kJ [] ?_
   refine s1 ?_
   refine aCB (fun w hw => awake11 w) ?_
   refine s5 ?_
   refine JR_one rfl (rr_tmp rfl) ?_
   intro w' hw
   exact ⟨rfl, hw.bel⟩
  ·refine s7 ?_
   obtain hhq | ⟨ha, hn, hhq⟩ := opt2 (hldQ Bk e1 fl0)
   ·obtain ⟨hb, hak⟩ := hld_parts hhq
    have h64 := bnd_64 hb
    have hf64 := ask_64 hak
    have hl128 := hld_len (ed := e1) h64 hf64
    have hwl := why_len Bk e1 fl0 h64 hf64 x
    refine kJ [(0, _), (2, _), (3, _), (5, _)] ?_
    refine s2 ?_
    refine aP (rp_arrC rfl rfl rfl ia_52_0 rfl) ?_
    refine s2 ?_
    refine aW (oR (fun w hw => hld16_yes hok (hbk.up hw.bel) (hfl.up ES hw.bel) hhq)) (fun t37 ht37 => ?_)
    obtain ⟨L37, A37, c37⟩ := t37
    dsimp only [List.cons_append, List.nil_append]
    dsimp only at ht37
    have hl37 := ht37.len
    refine s8 ?_
    refine kJ [(0, _), (2, _), (3, _), (5, _), (9, _), (10, _)] ?_
    refine s2 ?_
    refine aP (rp_arrC rfl rfl rfl ia_52_0 rfl) ?_
    refine s2 ?_
    refine aW (oR (fun w hw => hld30_yes hok (hbk.up hw.bel) (hfl.up ES hw.bel) hhq)) (fun t45 ht45 => ?_)
    obtain ⟨L45, A45, c45⟩ := t45
    dsimp only [List.cons_append, List.nil_append]
    dsimp only at ht45
    obtain rfl : L37 = L45 := ht37.uniq ht45
    refine s8 ?_
    obtain hwq | ⟨wa, wn, hwq⟩ := opt2 (whyQ Bk e1 fl0 x)
    ·refine kJ [(0, _), (2, _), (3, _), (5, _), (9, _), (10, _), (11, _), (12, _)] ?_
     refine s2 ?_
     refine aP (rp_arrC rfl rfl rfl ia_52_0 rfl) ?_
     refine s3 ?_
     refine aW (oR (fun w hw => why21_yes (ok_lit (by omega)) hok (hbk.up hw.bel) (hfl.up ES hw.bel) hwq)) (fun t54 ht54 => ?_)
     dsimp only [List.cons_append, List.nil_append]
     refine s8 ?_
     refine kJ [(0, _), (2, _), (3, _), (5, _), (9, _), (10, _), (11, _), (12, _), (13, _), (14, _)] ?_
     refine s2 ?_
     refine aP (rp_arrC rfl rfl rfl ia_52_0 rfl) ?_
     refine s3 ?_
     refine aW (oR (fun w hw => why31_yes hok (hbk.up hw.bel) (hfl.up ES hw.bel) hwq)) (fun t63 ht63 => ?_)
     dsimp only [List.cons_append, List.nil_append]
     refine s8 ?_
     obtain hcq | ⟨ca, cn', hcq⟩ := opt2 (chgQ Bk e1 e2 fl0)
     ·have hak2 := (chg_hq hcq).2.2
      have hl128b := hld_len (ed := e2) h64 hf64
      refine kJ [(0, _), (2, _), (5, _), (9, _), (10, _), (11, _), (12, _), (13, _), (14, _), (15, _), (16, _)] ?_
      refine s2 ?_
      refine aP (rp_arrC rfl rfl rfl ia_52_0 rfl) ?_
      refine s1 ?_
      refine aP (rp_arrC rfl rfl rfl ia_52_1 rfl) ?_
      refine s2 ?_
      refine aW (oR (fun w hw => chg32_yes hok (hbk.up hw.bel) (hfl.up ES hw.bel) hcq)) (fun t73 ht73 => ?_)
      obtain ⟨⟨D1, A731, c731⟩, ⟨D2, A732, c732⟩⟩ := t73
      dsimp only [List.cons_append, List.nil_append]
      dsimp only at ht73
      obtain ⟨L1, L2, hs1, hs2, rfl, rfl⟩ := ht73
      have hn1 := hs1.len
      have hn2 := hs2.len
      have hn3 := lesL_le L1 L2
      have hn4 := lesL_le L2 L1
      refine s10 ?_
      refine kJ [(0, _), (2, _), (5, _), (9, _), (10, _), (11, _), (12, _), (13, _), (14, _), (15, _), (16, _), (17, _), (18, _), (19, _)] ?_
      refine s2 ?_
      refine aP (rp_arrC rfl rfl rfl ia_52_0 rfl) ?_
      refine s1 ?_
      refine aP (rp_arrC rfl rfl rfl ia_52_1 rfl) ?_
      refine s2 ?_
      refine aW (oR (fun w hw => chg33_yes hok (hbk.up hw.bel) (hfl.up ES hw.bel) hcq)) (fun t84 ht84 => ?_)
      obtain ⟨⟨E1, A841, c841⟩, ⟨E2, A842, c842⟩⟩ := t84
      dsimp only [List.cons_append, List.nil_append]
      dsimp only at ht84
      obtain ⟨M1, M2, hu1, hu2, rfl, rfl⟩ := ht84
      obtain rfl : L1 = M1 := hs1.uniq hu1
      obtain rfl : L2 = M2 := hs2.uniq hu2
      refine s10 ?_
      refine kJ [(9, _), (10, _), (11, _), (12, _), (13, _), (14, _), (15, _), (16, _), (17, _), (18, _), (19, _), (20, _), (21, _), (22, _)] ?_
      refine s3 ?_
      refine aCB (fun w hw => Same17 L37 L37 _ _ w (own_arr (A := A37) (c := c37) ES hw (by repeat constructor) (by omega)) (own_arr (A := A45) (c := c45) ES hw (by repeat constructor) (by omega))) ?_
      refine aDecT ?_ rfl
      refine s4 ?_
      refine aDecT ?_ rfl
      refine s4 ?_
      refine aCB (fun w hw => Ints34 (whyP Bk (hldM Bk e1 fl0) x) (whyP Bk (hldM Bk e1 fl0) x) _ _ w (own_arr (A := t54.1) (c := t54.2) EI hw (by repeat constructor) (by omega)) (own_arr (A := t63.1) (c := t63.2) EI hw (by repeat constructor) (by omega))) ?_
      refine aDecT ?_ rfl
      refine s5 ?_
      refine aDecT ?_ rfl
      refine s4 ?_
      refine aCB (fun w hw => Same17 (lesL L1 L2) (lesL L1 L2) _ _ w (own_arr (A := A731) (c := c731) ES hw (by repeat constructor) (by omega)) (own_arr (A := A841) (c := c841) ES hw (by repeat constructor) (by omega))) ?_
      refine aDecT ?_ rfl
      refine s4 ?_
      refine aCB (fun w hw => Same17 (lesL L2 L1) (lesL L2 L1) _ _ w (own_arr (A := A732) (c := c732) ES hw (by repeat constructor) (by omega)) (own_arr (A := A842) (c := c842) ES hw (by repeat constructor) (by omega))) ?_
      refine aDecT ?_ rfl
      refine s5 ?_
      refine aDecT ?_ rfl
      refine s2 ?_
      refine aCB (fun w hw => awake11 w) ?_
      refine s5 ?_
      refine JR_one rfl (rr_tmp rfl) ?_
      intro w' hw
      exact ⟨rfl, hw.bel⟩
     ·refine kJ [(0, _), (2, _), (5, _), (9, _), (10, _), (11, _), (12, _), (13, _), (14, _), (15, _), (16, _)] ?_
      refine s2 ?_
      refine aP (rp_arrC rfl rfl rfl ia_52_0 rfl) ?_
      refine s1 ?_
      refine aP (rp_arrC rfl rfl rfl ia_52_1 rfl) ?_
      refine s2 ?_
      refine aCB (fun w hw => chg32_no hok (hbk.up hw.bel) (hfl.up ES hw.bel) hcq) ?_
      refine s10 ?_
      refine kJ [(0, _), (2, _), (5, _), (9, _), (10, _), (11, _), (12, _), (13, _), (14, _), (15, _), (16, _), (17, _), (18, _), (19, _)] ?_
      refine s2 ?_
      refine aP (rp_arrC rfl rfl rfl ia_52_0 rfl) ?_
      refine s1 ?_
      refine aP (rp_arrC rfl rfl rfl ia_52_1 rfl) ?_
      refine s2 ?_
      refine aCB (fun w hw => chg33_no hok (hbk.up hw.bel) (hfl.up ES hw.bel) hcq) ?_
      refine s10 ?_
      refine kJ [(9, _), (10, _), (11, _), (12, _), (13, _), (14, _), (15, _), (16, _), (17, _), (18, _), (19, _), (20, _), (21, _), (22, _)] ?_
      refine s3 ?_
      refine aCB (fun w hw => Same17 L37 L37 _ _ w (own_arr (A := A37) (c := c37) ES hw (by repeat constructor) (by omega)) (own_arr (A := A45) (c := c45) ES hw (by repeat constructor) (by omega))) ?_
      refine aDecT ?_ rfl
      refine s4 ?_
      refine aDecT ?_ rfl
      refine s4 ?_
      refine aCB (fun w hw => Ints34 (whyP Bk (hldM Bk e1 fl0) x) (whyP Bk (hldM Bk e1 fl0) x) _ _ w (own_arr (A := t54.1) (c := t54.2) EI hw (by repeat constructor) (by omega)) (own_arr (A := t63.1) (c := t63.2) EI hw (by repeat constructor) (by omega))) ?_
      refine aDecT ?_ rfl
      refine s5 ?_
      refine aDecT ?_ rfl
      refine s4 ?_
      refine aCB (fun w hw => Same17 [] [] _ _ w (Arr.nil w) (Arr.nil w)) ?_
      refine aDecT ?_ rfl
      refine s4 ?_
      refine aCB (fun w hw => Same17 [] [] _ _ w (Arr.nil w) (Arr.nil w)) ?_
      refine aDecT ?_ rfl
      refine s5 ?_
      refine aDecT ?_ rfl
      refine s2 ?_
      refine aCB (fun w hw => awake11 w) ?_
      refine s5 ?_
      refine JR_one rfl (rr_tmp rfl) ?_
      intro w' hw
      exact ⟨rfl, hw.bel⟩
    ·refine kJ [(0, _), (2, _), (3, _), (5, _), (9, _), (10, _), (11, _), (12, _)] ?_
     refine s2 ?_
     refine aP (rp_arrC rfl rfl rfl ia_52_0 rfl) ?_
     refine s3 ?_
     refine aCB (fun w hw => why21_no (ok_lit (by omega)) hok (hbk.up hw.bel) (hfl.up ES hw.bel) hwq) ?_
     refine s8 ?_
     refine kJ [(0, _), (2, _), (3, _), (5, _), (9, _), (10, _), (11, _), (12, _), (13, _), (14, _)] ?_
     refine s2 ?_
     refine aP (rp_arrC rfl rfl rfl ia_52_0 rfl) ?_
     refine s3 ?_
     refine aCB (fun w hw => why31_no hok (hbk.up hw.bel) (hfl.up ES hw.bel) hwq) ?_
     refine s8 ?_
     obtain hcq | ⟨ca, cn', hcq⟩ := opt2 (chgQ Bk e1 e2 fl0)
     ·have hak2 := (chg_hq hcq).2.2
      have hl128b := hld_len (ed := e2) h64 hf64
      refine kJ [(0, _), (2, _), (5, _), (9, _), (10, _), (11, _), (12, _), (13, _), (14, _), (15, _), (16, _)] ?_
      refine s2 ?_
      refine aP (rp_arrC rfl rfl rfl ia_52_0 rfl) ?_
      refine s1 ?_
      refine aP (rp_arrC rfl rfl rfl ia_52_1 rfl) ?_
      refine s2 ?_
      refine aW (oR (fun w hw => chg32_yes hok (hbk.up hw.bel) (hfl.up ES hw.bel) hcq)) (fun t73 ht73 => ?_)
      obtain ⟨⟨D1, A731, c731⟩, ⟨D2, A732, c732⟩⟩ := t73
      dsimp only [List.cons_append, List.nil_append]
      dsimp only at ht73
      obtain ⟨L1, L2, hs1, hs2, rfl, rfl⟩ := ht73
      have hn1 := hs1.len
      have hn2 := hs2.len
      have hn3 := lesL_le L1 L2
      have hn4 := lesL_le L2 L1
      refine s10 ?_
      refine kJ [(0, _), (2, _), (5, _), (9, _), (10, _), (11, _), (12, _), (13, _), (14, _), (15, _), (16, _), (17, _), (18, _), (19, _)] ?_
      refine s2 ?_
      refine aP (rp_arrC rfl rfl rfl ia_52_0 rfl) ?_
      refine s1 ?_
      refine aP (rp_arrC rfl rfl rfl ia_52_1 rfl) ?_
      refine s2 ?_
      refine aW (oR (fun w hw => chg33_yes hok (hbk.up hw.bel) (hfl.up ES hw.bel) hcq)) (fun t84 ht84 => ?_)
      obtain ⟨⟨E1, A841, c841⟩, ⟨E2, A842, c842⟩⟩ := t84
      dsimp only [List.cons_append, List.nil_append]
      dsimp only at ht84
      obtain ⟨M1, M2, hu1, hu2, rfl, rfl⟩ := ht84
      obtain rfl : L1 = M1 := hs1.uniq hu1
      obtain rfl : L2 = M2 := hs2.uniq hu2
      refine s10 ?_
      refine kJ [(9, _), (10, _), (11, _), (12, _), (13, _), (14, _), (15, _), (16, _), (17, _), (18, _), (19, _), (20, _), (21, _), (22, _)] ?_
      refine s3 ?_
      refine aCB (fun w hw => Same17 L37 L37 _ _ w (own_arr (A := A37) (c := c37) ES hw (by repeat constructor) (by omega)) (own_arr (A := A45) (c := c45) ES hw (by repeat constructor) (by omega))) ?_
      refine aDecT ?_ rfl
      refine s4 ?_
      refine aDecT ?_ rfl
      refine s4 ?_
      refine aCB (fun w hw => Ints34 [] [] _ _ w (Arr.nil w) (Arr.nil w)) ?_
      refine aDecT ?_ rfl
      refine s5 ?_
      refine aDecT ?_ rfl
      refine s4 ?_
      refine aCB (fun w hw => Same17 (lesL L1 L2) (lesL L1 L2) _ _ w (own_arr (A := A731) (c := c731) ES hw (by repeat constructor) (by omega)) (own_arr (A := A841) (c := c841) ES hw (by repeat constructor) (by omega))) ?_
      refine aDecT ?_ rfl
      refine s4 ?_
      refine aCB (fun w hw => Same17 (lesL L2 L1) (lesL L2 L1) _ _ w (own_arr (A := A732) (c := c732) ES hw (by repeat constructor) (by omega)) (own_arr (A := A842) (c := c842) ES hw (by repeat constructor) (by omega))) ?_
      refine aDecT ?_ rfl
      refine s5 ?_
      refine aDecT ?_ rfl
      refine s2 ?_
      refine aCB (fun w hw => awake11 w) ?_
      refine s5 ?_
      refine JR_one rfl (rr_tmp rfl) ?_
      intro w' hw
      exact ⟨rfl, hw.bel⟩
     ·refine kJ [(0, _), (2, _), (5, _), (9, _), (10, _), (11, _), (12, _), (13, _), (14, _), (15, _), (16, _)] ?_
      refine s2 ?_
      refine aP (rp_arrC rfl rfl rfl ia_52_0 rfl) ?_
      refine s1 ?_
      refine aP (rp_arrC rfl rfl rfl ia_52_1 rfl) ?_
      refine s2 ?_
      refine aCB (fun w hw => chg32_no hok (hbk.up hw.bel) (hfl.up ES hw.bel) hcq) ?_
      refine s10 ?_
      refine kJ [(0, _), (2, _), (5, _), (9, _), (10, _), (11, _), (12, _), (13, _), (14, _), (15, _), (16, _), (17, _), (18, _), (19, _)] ?_
      refine s2 ?_
      refine aP (rp_arrC rfl rfl rfl ia_52_0 rfl) ?_
      refine s1 ?_
      refine aP (rp_arrC rfl rfl rfl ia_52_1 rfl) ?_
      refine s2 ?_
      refine aCB (fun w hw => chg33_no hok (hbk.up hw.bel) (hfl.up ES hw.bel) hcq) ?_
      refine s10 ?_
      refine kJ [(9, _), (10, _), (11, _), (12, _), (13, _), (14, _), (15, _), (16, _), (17, _), (18, _), (19, _), (20, _), (21, _), (22, _)] ?_
      refine s3 ?_
      refine aCB (fun w hw => Same17 L37 L37 _ _ w (own_arr (A := A37) (c := c37) ES hw (by repeat constructor) (by omega)) (own_arr (A := A45) (c := c45) ES hw (by repeat constructor) (by omega))) ?_
      refine aDecT ?_ rfl
      refine s4 ?_
      refine aDecT ?_ rfl
      refine s4 ?_
      refine aCB (fun w hw => Ints34 [] [] _ _ w (Arr.nil w) (Arr.nil w)) ?_
      refine aDecT ?_ rfl
      refine s5 ?_
      refine aDecT ?_ rfl
      refine s4 ?_
      refine aCB (fun w hw => Same17 [] [] _ _ w (Arr.nil w) (Arr.nil w)) ?_
      refine aDecT ?_ rfl
      refine s4 ?_
      refine aCB (fun w hw => Same17 [] [] _ _ w (Arr.nil w) (Arr.nil w)) ?_
      refine aDecT ?_ rfl
      refine s5 ?_
      refine aDecT ?_ rfl
      refine s2 ?_
      refine aCB (fun w hw => awake11 w) ?_
      refine s5 ?_
      refine JR_one rfl (rr_tmp rfl) ?_
      intro w' hw
      exact ⟨rfl, hw.bel⟩
   ·refine kJ [(0, _), (2, _), (3, _), (5, _)] ?_
    refine s2 ?_
    refine aP (rp_arrC rfl rfl rfl ia_52_0 rfl) ?_
    refine s2 ?_
    refine aCB (fun w hw => hld16_no hok (hbk.up hw.bel) (hfl.up ES hw.bel) hhq) ?_
    refine s8 ?_
    refine kJ [(0, _), (2, _), (3, _), (5, _), (9, _), (10, _)] ?_
    refine s2 ?_
    refine aP (rp_arrC rfl rfl rfl ia_52_0 rfl) ?_
    refine s2 ?_
    refine aCB (fun w hw => hld30_no hok (hbk.up hw.bel) (hfl.up ES hw.bel) hhq) ?_
    refine s8 ?_
    have hwq : whyQ Bk e1 fl0 x = some (ha, hn) := by unfold whyQ; rw [hhq]
    ·refine kJ [(0, _), (2, _), (3, _), (5, _), (9, _), (10, _), (11, _), (12, _)] ?_
     refine s2 ?_
     refine aP (rp_arrC rfl rfl rfl ia_52_0 rfl) ?_
     refine s3 ?_
     refine aCB (fun w hw => why21_no (ok_lit (by omega)) hok (hbk.up hw.bel) (hfl.up ES hw.bel) hwq) ?_
     refine s8 ?_
     refine kJ [(0, _), (2, _), (3, _), (5, _), (9, _), (10, _), (11, _), (12, _), (13, _), (14, _)] ?_
     refine s2 ?_
     refine aP (rp_arrC rfl rfl rfl ia_52_0 rfl) ?_
     refine s3 ?_
     refine aCB (fun w hw => why31_no hok (hbk.up hw.bel) (hfl.up ES hw.bel) hwq) ?_
     refine s8 ?_
     have hcq : chgQ Bk e1 e2 fl0 = some (ha, hn) := by unfold chgQ; rw [hhq]
     ·refine kJ [(0, _), (2, _), (5, _), (9, _), (10, _), (11, _), (12, _), (13, _), (14, _), (15, _), (16, _)] ?_
      refine s2 ?_
      refine aP (rp_arrC rfl rfl rfl ia_52_0 rfl) ?_
      refine s1 ?_
      refine aP (rp_arrC rfl rfl rfl ia_52_1 rfl) ?_
      refine s2 ?_
      refine aCB (fun w hw => chg32_no hok (hbk.up hw.bel) (hfl.up ES hw.bel) hcq) ?_
      refine s10 ?_
      refine kJ [(0, _), (2, _), (5, _), (9, _), (10, _), (11, _), (12, _), (13, _), (14, _), (15, _), (16, _), (17, _), (18, _), (19, _)] ?_
      refine s2 ?_
      refine aP (rp_arrC rfl rfl rfl ia_52_0 rfl) ?_
      refine s1 ?_
      refine aP (rp_arrC rfl rfl rfl ia_52_1 rfl) ?_
      refine s2 ?_
      refine aCB (fun w hw => chg33_no hok (hbk.up hw.bel) (hfl.up ES hw.bel) hcq) ?_
      refine s10 ?_
      refine kJ [(9, _), (10, _), (11, _), (12, _), (13, _), (14, _), (15, _), (16, _), (17, _), (18, _), (19, _), (20, _), (21, _), (22, _)] ?_
      refine s3 ?_
      refine aCB (fun w hw => Same17 [] [] _ _ w (Arr.nil w) (Arr.nil w)) ?_
      refine aDecT ?_ rfl
      refine s4 ?_
      refine aDecT ?_ rfl
      refine s4 ?_
      refine aCB (fun w hw => Ints34 [] [] _ _ w (Arr.nil w) (Arr.nil w)) ?_
      refine aDecT ?_ rfl
      refine s5 ?_
      refine aDecT ?_ rfl
      refine s4 ?_
      refine aCB (fun w hw => Same17 [] [] _ _ w (Arr.nil w) (Arr.nil w)) ?_
      refine aDecT ?_ rfl
      refine s4 ?_
      refine aCB (fun w hw => Same17 [] [] _ _ w (Arr.nil w) (Arr.nil w)) ?_
      refine aDecT ?_ rfl
      refine s5 ?_
      refine aDecT ?_ rfl
      refine s2 ?_
      refine aCB (fun w hw => awake11 w) ?_
      refine s5 ?_
      refine JR_one rfl (rr_tmp rfl) ?_
      intro w' hw
      exact ⟨rfl, hw.bel⟩
end Go.Proofs.YtjkolebffbeeeaaGreatDoor
