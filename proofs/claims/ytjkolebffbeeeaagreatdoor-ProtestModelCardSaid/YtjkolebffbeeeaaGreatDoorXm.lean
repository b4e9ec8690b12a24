/- The law: Owns. -/
import Derived.Test.YtjkolebffbeeeaaGreatDoorXl
namespace Go.Proofs.YtjkolebffbeeeaaGreatDoor
open Go Go.RowKit Go.Proofs
attribute [local irreducible] J JQ JL JA JD

theorem pQuo2 {P : Program} {n : Nat} {l : Sl} {o : Oper} {x : Operand} {t ty : TypeId} {a : Int} (ho : o.op = .binOp .quo t x (.const (.int .i64 2)) ty) (hx : evl l x = some (.int .i64 a)) : RP P n l o (.int .i64 (W6 (Int.tdiv a 2))) := rp2 hx (y := .const (.int .i64 2)) rfl (fun ρ h1 h2 w => by
 unfold execOp
 simp only [ho, h1, h2]
 go_simp)
set_option maxRecDepth 100000 in
set_option maxHeartbeats 4000000 in
theorem Owns_law (Bk : List Cl) (A : Option Addr) (c : Nat) (ed : Int) (fl0 : List ByteArray) (fA0 : Option Addr) (fc0 : Nat) (x : ByteArray) (w : World) (hbk : BkW w Bk A c) (hfl : Arr 1 eS w (.slice fA0 fl0.length fc0) fl0) : Calls Tryz.prog 9 #[.slice A Bk.length c, .int .i64 ed, .slice fA0 fl0.length fc0, .string x] w (Back (.bool true) w) := by
 refine J_enter (fun _ => False) (vs := [.slice A Bk.length c, .int .i64 ed, .slice fA0 fl0.length fc0, .string x]) (k := 100) (l := [(0, .slice A Bk.length c), (1, .int .i64 ed), (2, .slice fA0 fl0.length fc0), (3, .string x)]) Tryz.func9 rfl rfl Tryz.ntmps9 rfl rfl (Wd.start _) ?_
 refine s7 ?_
 rcases Bool.eq_false_or_eq_true (greB Bk fl0) with hgr | hgr
 ·refine s3 ?_
  refine aCB (fun w hw => great10 Bk A c fl0 fA0 fc0 w (hbk.up hw.bel).row (hbk.up hw.bel).cl (hfl.up ES hw.bel)) ?_
  refine aBoolT ?_ hgr
  refine s9 ?_
  refine kJ [] ?_
  refine s1 ?_
  refine aCB (fun w hw => awake11 w) ?_
  refine s5 ?_
  refine JR_one rfl (rr_tmp rfl) ?_
  intro w' hw
  exact ⟨rfl, hw.bel⟩
 ·obtain ⟨hB70, hf70, hs100⟩ := gre_parts hgr
  have hok := ok_100 hs100
  refine s3 ?_
  refine aCB (fun w hw => great10 Bk A c fl0 fA0 fc0 w (hbk.up hw.bel).row (hbk.up hw.bel).cl (hfl.up ES hw.bel)) ?_
  refine aBoolF ?_ hgr
  refine s4 ?_
  refine JL_dec (fun h28 => ?_) (fun h28 => ?_)
  ·refine s5 ?_
   refine kJ [] ?_
   refine s1 ?_
   refine aCB (fun w hw => awake11 w) ?_
   refine s5 ?_
   refine JR_one rfl (rr_tmp rfl) ?_
   intro w' hw
   exact ⟨rfl, hw.bel⟩
  ·refine s7 ?_
   refine kJ [(0, _), (1, _), (2, _), (3, _)] ?_
   refine s1 ?_
   refine aW (ow_slice0 (k := 1) (ty := 9) rfl rfl rfl (fun _ => by kernel_rfl)) (fun b31 hb31 => ?_)
   refine s1 ?_
   refine aS (oAppX (sl := 23) ES ([] : List ByteArray) fl0 (fun w hw => hfl.up ES hw.bel) rfl (Nat.le_refl _) (hl := by rw [List.length_nil]; omega)) (fun A33 c33 => ?_)
   rw [List.nil_append]
   refine s4 ?_
   obtain hhq | ⟨ha, hn, hhq⟩ := opt2 (hldQ Bk ed fl0)
   ·obtain ⟨hb, hak⟩ := hld_parts hhq
    have h64 := bnd_64 hb
    have hf64 := ask_64 hak
    have hl128 := hld_len (ed := ed) h64 hf64
    have hwl := why_len Bk ed fl0 h64 hf64 x
    refine s4 ?_
    refine aW (oR (fun w hw => hld16_yes hok (hbk.up hw.bel) (own_arr (A := A33) (c := c33) (L := fl0) ES hw (by repeat constructor) (by omega)) hhq)) (fun t38 ht38 => ?_)
    obtain ⟨L38, A38, c38⟩ := t38
    dsimp only [List.cons_append, List.nil_append]
    dsimp only at ht38
    have hl38 := ht38.len
    refine s8 ?_
    obtain hwq | ⟨wa, wn, hwq⟩ := opt2 (whyQ Bk ed fl0 x)
    ·refine kJ [(0, _), (1, _), (2, _), (3, _), (9, _), (10, _)] ?_
     refine s5 ?_
     refine aW (oR (fun w hw => why21_yes (ok_lit (by omega)) hok (hbk.up hw.bel) (own_arr (A := A33) (c := c33) (L := fl0) ES hw (by repeat constructor) (by omega)) hwq)) (fun t46 _ => ?_)
     dsimp only [List.cons_append, List.nil_append]
     refine s8 ?_
     obtain hcq | ⟨ca, cn', hcq⟩ := opt2 (chgQ Bk ed (W6 (Int.tdiv ed 2)) fl0)
     ·have hak2 := (chg_hq hcq).2.2
      have hl128b := hld_len (ed := (W6 (Int.tdiv ed 2))) h64 hf64
      refine kJ [(0, _), (1, _), (2, _), (9, _), (10, _), (12, _)] ?_
      refine s4 ?_
      refine aP (pQuo2 rfl rfl) ?_
      refine s1 ?_
      refine aW (oR (fun w hw => chg32_yes hok (hbk.up hw.bel) (own_arr (A := A33) (c := c33) (L := fl0) ES hw (by repeat constructor) (by omega)) hcq)) (fun t55 ht55 => ?_)
      obtain ⟨⟨D1, A551, c551⟩, ⟨D2, A552, c552⟩⟩ := t55
      dsimp only [List.cons_append, List.nil_append]
      dsimp only at ht55
      obtain ⟨L1, L2, hs1, hs2, rfl, rfl⟩ := ht55
      have hn1 := hs1.len
      have hn2 := hs2.len
      have hn3 := lesL_le L1 L2
      have hn4 := lesL_le L2 L1
      refine s10 ?_
      refine kJ [(0, _), (1, _), (2, _), (9, _), (10, _), (12, _), (14, _), (15, _)] ?_
      refine s2 ?_
      refine aW (oM (fun w hw => spoil35 L38 A38 c38 w (by first | omega | decide) (hw.ok (ownB 9 1 A38 (L38 : List ByteArray).length c38 ((L38 : List ByteArray).flatMap eS)) (by repeat constructor)).1 (hw.newA (A := ownB 9 1 A38 (L38 : List ByteArray).length c38 ((L38 : List ByteArray).flatMap eS)) (by repeat constructor) rfl).2)) (fun t60 ht60 => ?_)
      refine s5 ?_
      refine aW (oM (fun w hw => spoil35 (lesL L1 L2) A551 c551 w (by first | omega | decide) (hw.ok (ownB 9 1 A551 ((lesL L1 L2) : List ByteArray).length c551 (((lesL L1 L2) : List ByteArray).flatMap eS)) (by repeat constructor)).1 (hw.newA (A := ownB 9 1 A551 ((lesL L1 L2) : List ByteArray).length c551 (((lesL L1 L2) : List ByteArray).flatMap eS)) (by repeat constructor) rfl).2)) (fun t62 ht62 => ?_)
      refine s3 ?_
      refine kJ [(0, _), (1, _), (2, _), (9, _), (12, _), (15, _)] ?_
      refine s2 ?_
      refine aW (oM (fun w hw => spoil35 (lesL L2 L1) A552 c552 w (by first | omega | decide) (hw.ok (ownB 9 1 A552 ((lesL L2 L1) : List ByteArray).length c552 (((lesL L2 L1) : List ByteArray).flatMap eS)) (by repeat constructor)).1 (hw.newA (A := ownB 9 1 A552 ((lesL L2 L1) : List ByteArray).length c552 (((lesL L2 L1) : List ByteArray).flatMap eS)) (by repeat constructor) rfl).2)) (fun t64 ht64 => ?_)
      refine s2 ?_
      refine xC (T := Unit) (fun _u => True) (fun _u => [(0, .slice A Bk.length c), (1, .int .i64 ed), (2, .slice fA0 fl0.length fc0), (9, .slice A33 fl0.length c33)]) (fun _u => [ownB 9 1 A33 fl0.length c33 (fl0.flatMap eS)]) ?_ ?_
      ·refine s6 ?_
       refine xL (T := Nat × List Int) (fun q => q.1 ≤ (whyP Bk (hldM Bk ed fl0) x).length ∧ q.2.length = (whyP Bk (hldM Bk ed fl0) x).length) (fun q => [(0, .slice A Bk.length c), (1, .int .i64 ed), (2, .slice fA0 fl0.length fc0), (9, .slice A33 fl0.length c33), (12, .slice t46.1 (whyP Bk (hldM Bk ed fl0) x).length t46.2), (17, .int .i64 (q.1 : Nat))]) (fun q => [ownB 3 1 t46.1 (whyP Bk (hldM Bk ed fl0) x).length t46.2 (q.2.flatMap eI), ownB 9 1 A33 fl0.length c33 (fl0.flatMap eS)]) (fun q => (whyP Bk (hldM Bk ed fl0) x).length - q.1) (0, (whyP Bk (hldM Bk ed fl0) x)) ⟨Nat.zero_le _, rfl⟩ ?_ (hl := ⟨rfl, rfl, rfl, rfl, rfl, rfl, trivial⟩)
       rintro ⟨k, Mm⟩ ⟨hk, hml⟩
       dsimp only at hk hml ⊢
       refine s7 ?_
       refine JL_dec (fun h68 => ?_) (fun h68 => ?_)
       ·refine s7 ?_
        have hkm : k < Mm.length := by omega
        refine J_fact (fun hw => ?_)
        obtain ⟨g, hg⟩ := own_some hw (ty := 3) (k := 1) (m := (whyP Bk (hldM Bk ed fl0) x).length) (c := t46.2) (A := t46.1) (xs := Mm.flatMap eI) (by repeat constructor) (by omega)
        clear hw
        rw [hg]
        refine kJ [(0, _), (1, _), (2, _), (9, _), (12, _), (17, _)] ?_
        refine s4 ?_
        refine aW0 (oStE EI [_] (-1) hkm (hi := Nat.le_refl _)) ?_
        refine s8 ?_
        exact xR (k + 1, Mm.set k (-1)) ⟨by dsimp only; omega, by dsimp only; rw [List.length_set]; exact hml⟩ (by dsimp only; omega) (hl := ⟨rfl, rfl, rfl, rfl, rfl, (congrArg some (by go_num)), trivial⟩)
       ·refine s7 ?_
        exact xE () trivial
      ·rintro - -
       refine s1 ?_
       obtain hhq | ⟨ha, hn, hhq⟩ := opt2 (hldQ Bk ed fl0)
       ·obtain ⟨hb, hak⟩ := hld_parts hhq
        have h64 := bnd_64 hb
        have hf64 := ask_64 hak
        have hl128 := hld_len (ed := ed) h64 hf64
        have hwl := why_len Bk ed fl0 h64 hf64 x
        refine s4 ?_
        refine aW (oR (fun w hw => hld16_yes hok (hbk.up hw.bel) (hfl.up ES hw.bel) hhq)) (fun t78 ht78 => ?_)
        obtain ⟨L78, A78, c78⟩ := t78
        dsimp only [List.cons_append, List.nil_append]
        dsimp only at ht78
        have hl78 := ht78.len
        refine s8 ?_
        refine kJ [(0, _), (1, _), (2, _), (9, _), (18, _), (19, _)] ?_
        refine s4 ?_
        refine aW (oR (fun w hw => hld30_yes hok (hbk.up hw.bel) (hfl.up ES hw.bel) hhq)) (fun t85 ht85 => ?_)
        obtain ⟨L85, A85, c85⟩ := t85
        dsimp only [List.cons_append, List.nil_append]
        dsimp only at ht85
        obtain rfl : L78 = L85 := ht78.uniq ht85
        refine s8 ?_
        refine kJ [(2, _), (9, _), (18, _), (19, _), (20, _), (21, _)] ?_
        refine s3 ?_
        refine aCB (fun w hw => Same17 fl0 fl0 _ _ w (own_arr (A := A33) (c := c33) ES hw (by repeat constructor) (by omega)) (hfl.up ES hw.bel)) ?_
        refine aDecT ?_ rfl
        refine s3 ?_
        refine aCB (fun w hw => Same17 L78 L78 _ _ w (own_arr (A := A78) (c := c78) ES hw (by repeat constructor) (by omega)) (own_arr (A := A85) (c := c85) ES hw (by repeat constructor) (by omega))) ?_
        refine aDecT ?_ rfl
        refine s5 ?_
        refine aDecT ?_ rfl
        refine s2 ?_
        refine aCB (fun w hw => awake11 w) ?_
        refine s5 ?_
        refine JR_one rfl (rr_tmp rfl) ?_
        intro w' hw
        exact ⟨rfl, hw.bel⟩
       ·refine s4 ?_
        refine aCB (fun w hw => hld16_no hok (hbk.up hw.bel) (hfl.up ES hw.bel) hhq) ?_
        refine s8 ?_
        refine kJ [(0, _), (1, _), (2, _), (9, _), (18, _), (19, _)] ?_
        refine s4 ?_
        refine aCB (fun w hw => hld30_no hok (hbk.up hw.bel) (hfl.up ES hw.bel) hhq) ?_
        refine s8 ?_
        refine kJ [(2, _), (9, _), (18, _), (19, _), (20, _), (21, _)] ?_
        refine s3 ?_
        refine aCB (fun w hw => Same17 fl0 fl0 _ _ w (own_arr (A := A33) (c := c33) ES hw (by repeat constructor) (by omega)) (hfl.up ES hw.bel)) ?_
        refine aDecT ?_ rfl
        refine s3 ?_
        refine aCB (fun w hw => Same17 [] [] _ _ w (Arr.nil w) (Arr.nil w)) ?_
        refine aDecT ?_ rfl
        refine s5 ?_
        refine aDecT ?_ rfl
        refine s2 ?_
        refine aCB (fun w hw => awake11 w) ?_
        refine s5 ?_
        refine JR_one rfl (rr_tmp rfl) ?_
        intro w' hw
        exact ⟨rfl, hw.bel⟩
     ·refine kJ [(0, _), (1, _), (2, _), (9, _), (10, _), (12, _)] ?_
      refine s4 ?_
      refine aP (pQuo2 rfl rfl) ?_
      refine s1 ?_
      refine aCB (fun w hw => chg32_no hok (hbk.up hw.bel) (own_arr (A := A33) (c := c33) (L := fl0) ES hw (by repeat constructor) (by omega)) hcq) ?_
      refine s10 ?_
      refine kJ [(0, _), (1, _), (2, _), (9, _), (10, _), (12, _), (14, _), (15, _)] ?_
      refine s2 ?_
      refine aW (oM (fun w hw => spoil35 L38 A38 c38 w (by first | omega | decide) (hw.ok (ownB 9 1 A38 (L38 : List ByteArray).length c38 ((L38 : List ByteArray).flatMap eS)) (by repeat constructor)).1 (hw.newA (A := ownB 9 1 A38 (L38 : List ByteArray).length c38 ((L38 : List ByteArray).flatMap eS)) (by repeat constructor) rfl).2)) (fun t60 ht60 => ?_)
      refine s3 ?_
      refine J_own0 9 1 ?_
      refine s2 ?_
      refine aW (oM (fun w hw => spoil35 [] none 0 w (by first | omega | decide) (hw.ok (ownB 9 1 none ([] : List ByteArray).length 0 (([] : List ByteArray).flatMap eS)) (by repeat constructor)).1 (hw.newA (A := ownB 9 1 none ([] : List ByteArray).length 0 (([] : List ByteArray).flatMap eS)) (by repeat constructor) rfl).2)) (fun t62 ht62 => ?_)
      refine s3 ?_
      refine J_own0 9 1 ?_
      refine kJ [(0, _), (1, _), (2, _), (9, _), (12, _), (15, _)] ?_
      refine s2 ?_
      refine aW (oM (fun w hw => spoil35 [] none 0 w (by first | omega | decide) (hw.ok (ownB 9 1 none ([] : List ByteArray).length 0 (([] : List ByteArray).flatMap eS)) (by repeat constructor)).1 (hw.newA (A := ownB 9 1 none ([] : List ByteArray).length 0 (([] : List ByteArray).flatMap eS)) (by repeat constructor) rfl).2)) (fun t64 ht64 => ?_)
      refine s2 ?_
      refine xC (T := Unit) (fun _u => True) (fun _u => [(0, .slice A Bk.length c), (1, .int .i64 ed), (2, .slice fA0 fl0.length fc0), (9, .slice A33 fl0.length c33)]) (fun _u => [ownB 9 1 A33 fl0.length c33 (fl0.flatMap eS)]) ?_ ?_
      ·refine s6 ?_
       refine xL (T := Nat × List Int) (fun q => q.1 ≤ (whyP Bk (hldM Bk ed fl0) x).length ∧ q.2.length = (whyP Bk (hldM Bk ed fl0) x).length) (fun q => [(0, .slice A Bk.length c), (1, .int .i64 ed), (2, .slice fA0 fl0.length fc0), (9, .slice A33 fl0.length c33), (12, .slice t46.1 (whyP Bk (hldM Bk ed fl0) x).length t46.2), (17, .int .i64 (q.1 : Nat))]) (fun q => [ownB 3 1 t46.1 (whyP Bk (hldM Bk ed fl0) x).length t46.2 (q.2.flatMap eI), ownB 9 1 A33 fl0.length c33 (fl0.flatMap eS)]) (fun q => (whyP Bk (hldM Bk ed fl0) x).length - q.1) (0, (whyP Bk (hldM Bk ed fl0) x)) ⟨Nat.zero_le _, rfl⟩ ?_ (hl := ⟨rfl, rfl, rfl, rfl, rfl, rfl, trivial⟩)
       rintro ⟨k, Mm⟩ ⟨hk, hml⟩
       dsimp only at hk hml ⊢
       refine s7 ?_
       refine JL_dec (fun h68 => ?_) (fun h68 => ?_)
       ·refine s7 ?_
        have hkm : k < Mm.length := by omega
        refine J_fact (fun hw => ?_)
        obtain ⟨g, hg⟩ := own_some hw (ty := 3) (k := 1) (m := (whyP Bk (hldM Bk ed fl0) x).length) (c := t46.2) (A := t46.1) (xs := Mm.flatMap eI) (by repeat constructor) (by omega)
        clear hw
        rw [hg]
        refine kJ [(0, _), (1, _), (2, _), (9, _), (12, _), (17, _)] ?_
        refine s4 ?_
        refine aW0 (oStE EI [_] (-1) hkm (hi := Nat.le_refl _)) ?_
        refine s8 ?_
        exact xR (k + 1, Mm.set k (-1)) ⟨by dsimp only; omega, by dsimp only; rw [List.length_set]; exact hml⟩ (by dsimp only; omega) (hl := ⟨rfl, rfl, rfl, rfl, rfl, (congrArg some (by go_num)), trivial⟩)
       ·refine s7 ?_
        exact xE () trivial
      ·rintro - -
       refine s1 ?_
       obtain hhq | ⟨ha, hn, hhq⟩ := opt2 (hldQ Bk ed fl0)
       ·obtain ⟨hb, hak⟩ := hld_parts hhq
        have h64 := bnd_64 hb
        have hf64 := ask_64 hak
        have hl128 := hld_len (ed := ed) h64 hf64
        have hwl := why_len Bk ed fl0 h64 hf64 x
        refine s4 ?_
        refine aW (oR (fun w hw => hld16_yes hok (hbk.up hw.bel) (hfl.up ES hw.bel) hhq)) (fun t78 ht78 => ?_)
        obtain ⟨L78, A78, c78⟩ := t78
        dsimp only [List.cons_append, List.nil_append]
        dsimp only at ht78
        have hl78 := ht78.len
        refine s8 ?_
        refine kJ [(0, _), (1, _), (2, _), (9, _), (18, _), (19, _)] ?_
        refine s4 ?_
        refine aW (oR (fun w hw => hld30_yes hok (hbk.up hw.bel) (hfl.up ES hw.bel) hhq)) (fun t85 ht85 => ?_)
        obtain ⟨L85, A85, c85⟩ := t85
        dsimp only [List.cons_append, List.nil_append]
        dsimp only at ht85
        obtain rfl : L78 = L85 := ht78.uniq ht85
        refine s8 ?_
        refine kJ [(2, _), (9, _), (18, _), (19, _), (20, _), (21, _)] ?_
        refine s3 ?_
        refine aCB (fun w hw => Same17 fl0 fl0 _ _ w (own_arr (A := A33) (c := c33) ES hw (by repeat constructor) (by omega)) (hfl.up ES hw.bel)) ?_
        refine aDecT ?_ rfl
        refine s3 ?_
        refine aCB (fun w hw => Same17 L78 L78 _ _ w (own_arr (A := A78) (c := c78) ES hw (by repeat constructor) (by omega)) (own_arr (A := A85) (c := c85) ES hw (by repeat constructor) (by omega))) ?_
        refine aDecT ?_ rfl
        refine s5 ?_
        refine aDecT ?_ rfl
        refine s2 ?_
        refine aCB (fun w hw => awake11 w) ?_
        refine s5 ?_
        refine JR_one rfl (rr_tmp rfl) ?_
        intro w' hw
        exact ⟨rfl, hw.bel⟩
       ·refine s4 ?_
        refine aCB (fun w hw => hld16_no hok (hbk.up hw.bel) (hfl.up ES hw.bel) hhq) ?_
        refine s8 ?_
        refine kJ [(0, _), (1, _), (2, _), (9, _), (18, _), (19, _)] ?_
        refine s4 ?_
        refine aCB (fun w hw => hld30_no hok (hbk.up hw.bel) (hfl.up ES hw.bel) hhq) ?_
        refine s8 ?_
        refine kJ [(2, _), (9, _), (18, _), (19, _), (20, _), (21, _)] ?_
        refine s3 ?_
        refine aCB (fun w hw => Same17 fl0 fl0 _ _ w (own_arr (A := A33) (c := c33) ES hw (by repeat constructor) (by omega)) (hfl.up ES hw.bel)) ?_
        refine aDecT ?_ rfl
        refine s3 ?_
        refine aCB (fun w hw => Same17 [] [] _ _ w (Arr.nil w) (Arr.nil w)) ?_
        refine aDecT ?_ rfl
        refine s5 ?_
        refine aDecT ?_ rfl
        refine s2 ?_
        refine aCB (fun w hw => awake11 w) ?_
        refine s5 ?_
        refine JR_one rfl (rr_tmp rfl) ?_
        intro w' hw
        exact ⟨rfl, hw.bel⟩
    ·refine kJ [(0, _), (1, _), (2, _), (3, _), (9, _), (10, _)] ?_
     refine s5 ?_
     refine aCB (fun w hw => why21_no (ok_lit (by omega)) hok (hbk.up hw.bel) (own_arr (A := A33) (c := c33) (L := fl0) ES hw (by repeat constructor) (by omega)) hwq) ?_
     refine s8 ?_
     obtain hcq | ⟨ca, cn', hcq⟩ := opt2 (chgQ Bk ed (W6 (Int.tdiv ed 2)) fl0)
     ·have hak2 := (chg_hq hcq).2.2
      have hl128b := hld_len (ed := (W6 (Int.tdiv ed 2))) h64 hf64
      refine kJ [(0, _), (1, _), (2, _), (9, _), (10, _), (12, _)] ?_
      refine s4 ?_
      refine aP (pQuo2 rfl rfl) ?_
      refine s1 ?_
      refine aW (oR (fun w hw => chg32_yes hok (hbk.up hw.bel) (own_arr (A := A33) (c := c33) (L := fl0) ES hw (by repeat constructor) (by omega)) hcq)) (fun t55 ht55 => ?_)
      obtain ⟨⟨D1, A551, c551⟩, ⟨D2, A552, c552⟩⟩ := t55
      dsimp only [List.cons_append, List.nil_append]
      dsimp only at ht55
      obtain ⟨L1, L2, hs1, hs2, rfl, rfl⟩ := ht55
      have hn1 := hs1.len
      have hn2 := hs2.len
      have hn3 := lesL_le L1 L2
      have hn4 := lesL_le L2 L1
      refine s10 ?_
      refine kJ [(0, _), (1, _), (2, _), (9, _), (10, _), (12, _), (14, _), (15, _)] ?_
      refine s2 ?_
      refine aW (oM (fun w hw => spoil35 L38 A38 c38 w (by first | omega | decide) (hw.ok (ownB 9 1 A38 (L38 : List ByteArray).length c38 ((L38 : List ByteArray).flatMap eS)) (by repeat constructor)).1 (hw.newA (A := ownB 9 1 A38 (L38 : List ByteArray).length c38 ((L38 : List ByteArray).flatMap eS)) (by repeat constructor) rfl).2)) (fun t60 ht60 => ?_)
      refine s5 ?_
      refine aW (oM (fun w hw => spoil35 (lesL L1 L2) A551 c551 w (by first | omega | decide) (hw.ok (ownB 9 1 A551 ((lesL L1 L2) : List ByteArray).length c551 (((lesL L1 L2) : List ByteArray).flatMap eS)) (by repeat constructor)).1 (hw.newA (A := ownB 9 1 A551 ((lesL L1 L2) : List ByteArray).length c551 (((lesL L1 L2) : List ByteArray).flatMap eS)) (by repeat constructor) rfl).2)) (fun t62 ht62 => ?_)
      refine s3 ?_
      refine kJ [(0, _), (1, _), (2, _), (9, _), (12, _), (15, _)] ?_
      refine s2 ?_
      refine aW (oM (fun w hw => spoil35 (lesL L2 L1) A552 c552 w (by first | omega | decide) (hw.ok (ownB 9 1 A552 ((lesL L2 L1) : List ByteArray).length c552 (((lesL L2 L1) : List ByteArray).flatMap eS)) (by repeat constructor)).1 (hw.newA (A := ownB 9 1 A552 ((lesL L2 L1) : List ByteArray).length c552 (((lesL L2 L1) : List ByteArray).flatMap eS)) (by repeat constructor) rfl).2)) (fun t64 ht64 => ?_)
      refine s2 ?_
      refine xC (T := Unit) (fun _u => True) (fun _u => [(0, .slice A Bk.length c), (1, .int .i64 ed), (2, .slice fA0 fl0.length fc0), (9, .slice A33 fl0.length c33)]) (fun _u => [ownB 9 1 A33 fl0.length c33 (fl0.flatMap eS)]) ?_ ?_
      ·refine s1 ?_
       refine J_own0 3 1 ?_
       refine s5 ?_
       refine xL (T := Nat × List Int) (fun q => q.1 ≤ ([] : List Int).length ∧ q.2.length = ([] : List Int).length) (fun q => [(0, .slice A Bk.length c), (1, .int .i64 ed), (2, .slice fA0 fl0.length fc0), (9, .slice A33 fl0.length c33), (12, .slice (none : Option Addr) ([] : List Int).length 0), (17, .int .i64 (q.1 : Nat))]) (fun q => [ownB 3 1 (none : Option Addr) ([] : List Int).length 0 (q.2.flatMap eI), ownB 9 1 A33 fl0.length c33 (fl0.flatMap eS)]) (fun q => ([] : List Int).length - q.1) (0, ([] : List Int)) ⟨Nat.zero_le _, rfl⟩ ?_ (hl := ⟨rfl, rfl, rfl, rfl, rfl, rfl, trivial⟩)
       rintro ⟨k, Mm⟩ ⟨hk, hml⟩
       dsimp only at hk hml ⊢
       refine s7 ?_
       refine aDecF ?_ (by intro h; simp at h; omega)
       refine s7 ?_
       exact xE () trivial
      ·rintro - -
       refine s1 ?_
       obtain hhq | ⟨ha, hn, hhq⟩ := opt2 (hldQ Bk ed fl0)
       ·obtain ⟨hb, hak⟩ := hld_parts hhq
        have h64 := bnd_64 hb
        have hf64 := ask_64 hak
        have hl128 := hld_len (ed := ed) h64 hf64
        have hwl := why_len Bk ed fl0 h64 hf64 x
        refine s4 ?_
        refine aW (oR (fun w hw => hld16_yes hok (hbk.up hw.bel) (hfl.up ES hw.bel) hhq)) (fun t78 ht78 => ?_)
        obtain ⟨L78, A78, c78⟩ := t78
        dsimp only [List.cons_append, List.nil_append]
        dsimp only at ht78
        have hl78 := ht78.len
        refine s8 ?_
        refine kJ [(0, _), (1, _), (2, _), (9, _), (18, _), (19, _)] ?_
        refine s4 ?_
        refine aW (oR (fun w hw => hld30_yes hok (hbk.up hw.bel) (hfl.up ES hw.bel) hhq)) (fun t85 ht85 => ?_)
        obtain ⟨L85, A85, c85⟩ := t85
        dsimp only [List.cons_append, List.nil_append]
        dsimp only at ht85
        obtain rfl : L78 = L85 := ht78.uniq ht85
        refine s8 ?_
        refine kJ [(2, _), (9, _), (18, _), (19, _), (20, _), (21, _)] ?_
        refine s3 ?_
        refine aCB (fun w hw => Same17 fl0 fl0 _ _ w (own_arr (A := A33) (c := c33) ES hw (by repeat constructor) (by omega)) (hfl.up ES hw.bel)) ?_
        refine aDecT ?_ rfl
        refine s3 ?_
        refine aCB (fun w hw => Same17 L78 L78 _ _ w (own_arr (A := A78) (c := c78) ES hw (by repeat constructor) (by omega)) (own_arr (A := A85) (c := c85) ES hw (by repeat constructor) (by omega))) ?_
        refine aDecT ?_ rfl
        refine s5 ?_
        refine aDecT ?_ rfl
        refine s2 ?_
        refine aCB (fun w hw => awake11 w) ?_
        refine s5 ?_
        refine JR_one rfl (rr_tmp rfl) ?_
        intro w' hw
        exact ⟨rfl, hw.bel⟩
       ·refine s4 ?_
        refine aCB (fun w hw => hld16_no hok (hbk.up hw.bel) (hfl.up ES hw.bel) hhq) ?_
        refine s8 ?_
        refine kJ [(0, _), (1, _), (2, _), (9, _), (18, _), (19, _)] ?_
        refine s4 ?_
        refine aCB (fun w hw => hld30_no hok (hbk.up hw.bel) (hfl.up ES hw.bel) hhq) ?_
        refine s8 ?_
        refine kJ [(2, _), (9, _), (18, _), (19, _), (20, _), (21, _)] ?_
        refine s3 ?_
        refine aCB (fun w hw => Same17 fl0 fl0 _ _ w (own_arr (A := A33) (c := c33) ES hw (by repeat constructor) (by omega)) (hfl.up ES hw.bel)) ?_
        refine aDecT ?_ rfl
        refine s3 ?_
        refine aCB (fun w hw => Same17 [] [] _ _ w (Arr.nil w) (Arr.nil w)) ?_
        refine aDecT ?_ rfl
        refine s5 ?_
        refine aDecT ?_ rfl
        refine s2 ?_
        refine aCB (fun w hw => awake11 w) ?_
        refine s5 ?_
        refine JR_one rfl (rr_tmp rfl) ?_
        intro w' hw
        exact ⟨rfl, hw.bel⟩
     ·refine kJ [(0, _), (1, _), (2, _), (9, _), (10, _), (12, _)] ?_
      refine s4 ?_
      refine aP (pQuo2 rfl rfl) ?_
      refine s1 ?_
      refine aCB (fun w hw => chg32_no hok (hbk.up hw.bel) (own_arr (A := A33) (c := c33) (L := fl0) ES hw (by repeat constructor) (by omega)) hcq) ?_
      refine s10 ?_
      refine kJ [(0, _), (1, _), (2, _), (9, _), (10, _), (12, _), (14, _), (15, _)] ?_
      refine s2 ?_
      refine aW (oM (fun w hw => spoil35 L38 A38 c38 w (by first | omega | decide) (hw.ok (ownB 9 1 A38 (L38 : List ByteArray).length c38 ((L38 : List ByteArray).flatMap eS)) (by repeat constructor)).1 (hw.newA (A := ownB 9 1 A38 (L38 : List ByteArray).length c38 ((L38 : List ByteArray).flatMap eS)) (by repeat constructor) rfl).2)) (fun t60 ht60 => ?_)
      refine s3 ?_
      refine J_own0 9 1 ?_
      refine s2 ?_
      refine aW (oM (fun w hw => spoil35 [] none 0 w (by first | omega | decide) (hw.ok (ownB 9 1 none ([] : List ByteArray).length 0 (([] : List ByteArray).flatMap eS)) (by repeat constructor)).1 (hw.newA (A := ownB 9 1 none ([] : List ByteArray).length 0 (([] : List ByteArray).flatMap eS)) (by repeat constructor) rfl).2)) (fun t62 ht62 => ?_)
      refine s3 ?_
      refine J_own0 9 1 ?_
      refine kJ [(0, _), (1, _), (2, _), (9, _), (12, _), (15, _)] ?_
      refine s2 ?_
      refine aW (oM (fun w hw => spoil35 [] none 0 w (by first | omega | decide) (hw.ok (ownB 9 1 none ([] : List ByteArray).length 0 (([] : List ByteArray).flatMap eS)) (by repeat constructor)).1 (hw.newA (A := ownB 9 1 none ([] : List ByteArray).length 0 (([] : List ByteArray).flatMap eS)) (by repeat constructor) rfl).2)) (fun t64 ht64 => ?_)
      refine s2 ?_
      refine xC (T := Unit) (fun _u => True) (fun _u => [(0, .slice A Bk.length c), (1, .int .i64 ed), (2, .slice fA0 fl0.length fc0), (9, .slice A33 fl0.length c33)]) (fun _u => [ownB 9 1 A33 fl0.length c33 (fl0.flatMap eS)]) ?_ ?_
      ·refine s1 ?_
       refine J_own0 3 1 ?_
       refine s5 ?_
       refine xL (T := Nat × List Int) (fun q => q.1 ≤ ([] : List Int).length ∧ q.2.length = ([] : List Int).length) (fun q => [(0, .slice A Bk.length c), (1, .int .i64 ed), (2, .slice fA0 fl0.length fc0), (9, .slice A33 fl0.length c33), (12, .slice (none : Option Addr) ([] : List Int).length 0), (17, .int .i64 (q.1 : Nat))]) (fun q => [ownB 3 1 (none : Option Addr) ([] : List Int).length 0 (q.2.flatMap eI), ownB 9 1 A33 fl0.length c33 (fl0.flatMap eS)]) (fun q => ([] : List Int).length - q.1) (0, ([] : List Int)) ⟨Nat.zero_le _, rfl⟩ ?_ (hl := ⟨rfl, rfl, rfl, rfl, rfl, rfl, trivial⟩)
       rintro ⟨k, Mm⟩ ⟨hk, hml⟩
       dsimp only at hk hml ⊢
       refine s7 ?_
       refine aDecF ?_ (by intro h; simp at h; omega)
       refine s7 ?_
       exact xE () trivial
      ·rintro - -
       refine s1 ?_
       obtain hhq | ⟨ha, hn, hhq⟩ := opt2 (hldQ Bk ed fl0)
       ·obtain ⟨hb, hak⟩ := hld_parts hhq
        have h64 := bnd_64 hb
        have hf64 := ask_64 hak
        have hl128 := hld_len (ed := ed) h64 hf64
        have hwl := why_len Bk ed fl0 h64 hf64 x
        refine s4 ?_
        refine aW (oR (fun w hw => hld16_yes hok (hbk.up hw.bel) (hfl.up ES hw.bel) hhq)) (fun t78 ht78 => ?_)
        obtain ⟨L78, A78, c78⟩ := t78
        dsimp only [List.cons_append, List.nil_append]
        dsimp only at ht78
        have hl78 := ht78.len
        refine s8 ?_
        refine kJ [(0, _), (1, _), (2, _), (9, _), (18, _), (19, _)] ?_
        refine s4 ?_
        refine aW (oR (fun w hw => hld30_yes hok (hbk.up hw.bel) (hfl.up ES hw.bel) hhq)) (fun t85 ht85 => ?_)
        obtain ⟨L85, A85, c85⟩ := t85
        dsimp only [List.cons_append, List.nil_append]
        dsimp only at ht85
        obtain rfl : L78 = L85 := ht78.uniq ht85
        refine s8 ?_
        refine kJ [(2, _), (9, _), (18, _), (19, _), (20, _), (21, _)] ?_
        refine s3 ?_
        refine aCB (fun w hw => Same17 fl0 fl0 _ _ w (own_arr (A := A33) (c := c33) ES hw (by repeat constructor) (by omega)) (hfl.up ES hw.bel)) ?_
        refine aDecT ?_ rfl
        refine s3 ?_
        refine aCB (fun w hw => Same17 L78 L78 _ _ w (own_arr (A := A78) (c := c78) ES hw (by repeat constructor) (by omega)) (own_arr (A := A85) (c := c85) ES hw (by repeat constructor) (by omega))) ?_
        refine aDecT ?_ rfl
        refine s5 ?_
        refine aDecT ?_ rfl
        refine s2 ?_
        refine aCB (fun w hw => awake11 w) ?_
        refine s5 ?_
        refine JR_one rfl (rr_tmp rfl) ?_
        intro w' hw
        exact ⟨rfl, hw.bel⟩
       ·refine s4 ?_
        refine aCB (fun w hw => hld16_no hok (hbk.up hw.bel) (hfl.up ES hw.bel) hhq) ?_
        refine s8 ?_
        refine kJ [(0, _), (1, _), (2, _), (9, _), (18, _), (19, _)] ?_
        refine s4 ?_
        refine aCB (fun w hw => hld30_no hok (hbk.up hw.bel) (hfl.up ES hw.bel) hhq) ?_
        refine s8 ?_
        refine kJ [(2, _), (9, _), (18, _), (19, _), (20, _), (21, _)] ?_
        refine s3 ?_
        refine aCB (fun w hw => Same17 fl0 fl0 _ _ w (own_arr (A := A33) (c := c33) ES hw (by repeat constructor) (by omega)) (hfl.up ES hw.bel)) ?_
        refine aDecT ?_ rfl
        refine s3 ?_
        refine aCB (fun w hw => Same17 [] [] _ _ w (Arr.nil w) (Arr.nil w)) ?_
        refine aDecT ?_ rfl
        refine s5 ?_
        refine aDecT ?_ rfl
        refine s2 ?_
        refine aCB (fun w hw => awake11 w) ?_
        refine s5 ?_
        refine JR_one rfl (rr_tmp rfl) ?_
        intro w' hw
        exact ⟨rfl, hw.bel⟩
   ·refine s4 ?_
    refine aCB (fun w hw => hld16_no hok (hbk.up hw.bel) (own_arr (A := A33) (c := c33) (L := fl0) ES hw (by repeat constructor) (by omega)) hhq) ?_
    refine s8 ?_
    have hwq : whyQ Bk ed fl0 x = some (ha, hn) := by unfold whyQ; rw [hhq]
    ·refine kJ [(0, _), (1, _), (2, _), (3, _), (9, _), (10, _)] ?_
     refine s5 ?_
     refine aCB (fun w hw => why21_no (ok_lit (by omega)) hok (hbk.up hw.bel) (own_arr (A := A33) (c := c33) (L := fl0) ES hw (by repeat constructor) (by omega)) hwq) ?_
     refine s8 ?_
     have hcq : chgQ Bk ed (W6 (Int.tdiv ed 2)) fl0 = some (ha, hn) := by unfold chgQ; rw [hhq]
     ·refine kJ [(0, _), (1, _), (2, _), (9, _), (10, _), (12, _)] ?_
      refine s4 ?_
      refine aP (pQuo2 rfl rfl) ?_
      refine s1 ?_
      refine aCB (fun w hw => chg32_no hok (hbk.up hw.bel) (own_arr (A := A33) (c := c33) (L := fl0) ES hw (by repeat constructor) (by omega)) hcq) ?_
      refine s10 ?_
      refine J_own0 9 1 ?_
      refine kJ [(0, _), (1, _), (2, _), (9, _), (10, _), (12, _), (14, _), (15, _)] ?_
      refine s2 ?_
      refine aW (oM (fun w hw => spoil35 [] none 0 w (by first | omega | decide) (hw.ok (ownB 9 1 none ([] : List ByteArray).length 0 (([] : List ByteArray).flatMap eS)) (by repeat constructor)).1 (hw.newA (A := ownB 9 1 none ([] : List ByteArray).length 0 (([] : List ByteArray).flatMap eS)) (by repeat constructor) rfl).2)) (fun t60 ht60 => ?_)
      refine s3 ?_
      refine J_own0 9 1 ?_
      refine s2 ?_
      refine aW (oM (fun w hw => spoil35 [] none 0 w (by first | omega | decide) (hw.ok (ownB 9 1 none ([] : List ByteArray).length 0 (([] : List ByteArray).flatMap eS)) (by repeat constructor)).1 (hw.newA (A := ownB 9 1 none ([] : List ByteArray).length 0 (([] : List ByteArray).flatMap eS)) (by repeat constructor) rfl).2)) (fun t62 ht62 => ?_)
      refine s3 ?_
      refine J_own0 9 1 ?_
      refine kJ [(0, _), (1, _), (2, _), (9, _), (12, _), (15, _)] ?_
      refine s2 ?_
      refine aW (oM (fun w hw => spoil35 [] none 0 w (by first | omega | decide) (hw.ok (ownB 9 1 none ([] : List ByteArray).length 0 (([] : List ByteArray).flatMap eS)) (by repeat constructor)).1 (hw.newA (A := ownB 9 1 none ([] : List ByteArray).length 0 (([] : List ByteArray).flatMap eS)) (by repeat constructor) rfl).2)) (fun t64 ht64 => ?_)
      refine s2 ?_
      refine xC (T := Unit) (fun _u => True) (fun _u => [(0, .slice A Bk.length c), (1, .int .i64 ed), (2, .slice fA0 fl0.length fc0), (9, .slice A33 fl0.length c33)]) (fun _u => [ownB 9 1 A33 fl0.length c33 (fl0.flatMap eS)]) ?_ ?_
      ·refine s1 ?_
       refine J_own0 3 1 ?_
       refine s5 ?_
       refine xL (T := Nat × List Int) (fun q => q.1 ≤ ([] : List Int).length ∧ q.2.length = ([] : List Int).length) (fun q => [(0, .slice A Bk.length c), (1, .int .i64 ed), (2, .slice fA0 fl0.length fc0), (9, .slice A33 fl0.length c33), (12, .slice (none : Option Addr) ([] : List Int).length 0), (17, .int .i64 (q.1 : Nat))]) (fun q => [ownB 3 1 (none : Option Addr) ([] : List Int).length 0 (q.2.flatMap eI), ownB 9 1 A33 fl0.length c33 (fl0.flatMap eS)]) (fun q => ([] : List Int).length - q.1) (0, ([] : List Int)) ⟨Nat.zero_le _, rfl⟩ ?_ (hl := ⟨rfl, rfl, rfl, rfl, rfl, rfl, trivial⟩)
       rintro ⟨k, Mm⟩ ⟨hk, hml⟩
       dsimp only at hk hml ⊢
       refine s7 ?_
       refine aDecF ?_ (by intro h; simp at h; omega)
       refine s7 ?_
       exact xE () trivial
      ·rintro - -
       refine s1 ?_
       obtain hhq | ⟨ha, hn, hhq⟩ := opt2 (hldQ Bk ed fl0)
       ·obtain ⟨hb, hak⟩ := hld_parts hhq
        have h64 := bnd_64 hb
        have hf64 := ask_64 hak
        have hl128 := hld_len (ed := ed) h64 hf64
        have hwl := why_len Bk ed fl0 h64 hf64 x
        refine s4 ?_
        refine aW (oR (fun w hw => hld16_yes hok (hbk.up hw.bel) (hfl.up ES hw.bel) hhq)) (fun t78 ht78 => ?_)
        obtain ⟨L78, A78, c78⟩ := t78
        dsimp only [List.cons_append, List.nil_append]
        dsimp only at ht78
        have hl78 := ht78.len
        refine s8 ?_
        refine kJ [(0, _), (1, _), (2, _), (9, _), (18, _), (19, _)] ?_
        refine s4 ?_
        refine aW (oR (fun w hw => hld30_yes hok (hbk.up hw.bel) (hfl.up ES hw.bel) hhq)) (fun t85 ht85 => ?_)
        obtain ⟨L85, A85, c85⟩ := t85
        dsimp only [List.cons_append, List.nil_append]
        dsimp only at ht85
        obtain rfl : L78 = L85 := ht78.uniq ht85
        refine s8 ?_
        refine kJ [(2, _), (9, _), (18, _), (19, _), (20, _), (21, _)] ?_
        refine s3 ?_
        refine aCB (fun w hw => Same17 fl0 fl0 _ _ w (own_arr (A := A33) (c := c33) ES hw (by repeat constructor) (by omega)) (hfl.up ES hw.bel)) ?_
        refine aDecT ?_ rfl
        refine s3 ?_
        refine aCB (fun w hw => Same17 L78 L78 _ _ w (own_arr (A := A78) (c := c78) ES hw (by repeat constructor) (by omega)) (own_arr (A := A85) (c := c85) ES hw (by repeat constructor) (by omega))) ?_
        refine aDecT ?_ rfl
        refine s5 ?_
        refine aDecT ?_ rfl
        refine s2 ?_
        refine aCB (fun w hw => awake11 w) ?_
        refine s5 ?_
        refine JR_one rfl (rr_tmp rfl) ?_
        intro w' hw
        exact ⟨rfl, hw.bel⟩
       ·refine s4 ?_
        refine aCB (fun w hw => hld16_no hok (hbk.up hw.bel) (hfl.up ES hw.bel) hhq) ?_
        refine s8 ?_
        refine kJ [(0, _), (1, _), (2, _), (9, _), (18, _), (19, _)] ?_
        refine s4 ?_
        refine aCB (fun w hw => hld30_no hok (hbk.up hw.bel) (hfl.up ES hw.bel) hhq) ?_
        refine s8 ?_
        refine kJ [(2, _), (9, _), (18, _), (19, _), (20, _), (21, _)] ?_
        refine s3 ?_
        refine aCB (fun w hw => Same17 fl0 fl0 _ _ w (own_arr (A := A33) (c := c33) ES hw (by repeat constructor) (by omega)) (hfl.up ES hw.bel)) ?_
        refine aDecT ?_ rfl
        refine s3 ?_
        refine aCB (fun w hw => Same17 [] [] _ _ w (Arr.nil w) (Arr.nil w)) ?_
        refine aDecT ?_ rfl
        refine s5 ?_
        refine aDecT ?_ rfl
        refine s2 ?_
        refine aCB (fun w hw => awake11 w) ?_
        refine s5 ?_
        refine JR_one rfl (rr_tmp rfl) ?_
        intro w' hw
        exact ⟨rfl, hw.bel⟩
end Go.Proofs.YtjkolebffbeeeaaGreatDoor
