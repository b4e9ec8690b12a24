/- The law: Order. -/
import Derived.Test.YtjkolebffbeeeaaGreatDoorXm
namespace Go.Proofs.YtjkolebffbeeeaaGreatDoor
open Go Go.RowKit Go.Proofs
attribute [local irreducible] J JQ JL JA JD

/-- The clauses that stand at an edition; those that know no exception. -/
def staL (ed : Int) (l : List Cl) : List Cl := l.filter (fun c => decide (c.f ≤ ed ∧ ed ≤ c.t))
def frmL (l : List Cl) : List Cl := l.filter (fun c => decide (c.us.l.length = 0))
theorem staL_s {ed : Int} {l : List Cl} {k : Nat} {c : Cl} (h : k < l.length) (hc : l[k]'h = c) : staL ed (l.take (k + 1)) = if c.f ≤ ed ∧ ed ≤ c.t then staL ed (l.take k) ++ [c] else staL ed (l.take k) := by
 unfold staL; rw [List.take_succ_eq_append_getElem h, List.filter_append, hc]
 by_cases e : c.f ≤ ed ∧ ed ≤ c.t
 ·rw [if_pos e, List.filter_cons, if_pos (decide_eq_true e)]; rfl
 ·rw [if_neg e, List.filter_cons, if_neg (by rw [decide_eq_false e]; decide)]; simp
theorem frmL_s {l : List Cl} {k : Nat} {c : Cl} (h : k < l.length) (hc : l[k]'h = c) : frmL (l.take (k + 1)) = if c.us.l.length = 0 then frmL (l.take k) ++ [c] else frmL (l.take k) := by
 unfold frmL; rw [List.take_succ_eq_append_getElem h, List.filter_append, hc]
 by_cases e : c.us.l.length = 0
 ·rw [if_pos e, List.filter_cons, if_pos (decide_eq_true e)]; rfl
 ·rw [if_neg e, List.filter_cons, if_neg (by rw [decide_eq_false e]; decide)]; simp
theorem staL_len (ed : Int) (l : List Cl) (k : Nat) : (staL ed (l.take k)).length ≤ k := Nat.le_trans (List.length_filter_le _ _) (List.length_take_le _ _)
theorem frmL_len (l : List Cl) (k : Nat) : (frmL (l.take k)).length ≤ k := Nat.le_trans (List.length_filter_le _ _) (List.length_take_le _ _)
theorem staL_sub {ed : Int} {l : List Cl} : ∀ c ∈ staL ed l, c ∈ l := fun _ h => (List.mem_filter.1 h).1
theorem frmL_sub {l : List Cl} : ∀ c ∈ frmL l, c ∈ l := fun _ h => (List.mem_filter.1 h).1
theorem frmL_us {l : List Cl} : ∀ c ∈ frmL l, c.us.l = [] := fun _ h => List.length_eq_zero_iff.1 (of_decide_eq_true (List.mem_filter.1 h).2)
theorem hld_mk {Bk : List Cl} {ed : Int} {fl0 : List ByteArray} (hb : bndF Bk = none) (hk : askB ed fl0 = true) : hldQ Bk ed fl0 = none := by
 unfold hldQ; rw [hb]; dsimp only; rw [if_pos hk]
theorem hld_two {Bk : List Cl} {ed : Int} {fl0 : List ByteArray} (hb : bndF Bk = none) : hldQ Bk ed fl0 = none ∨ hldQ Bk ed fl0 = some (-1, 2) := by
 unfold hldQ; rw [hb]; dsimp only; split
 ·exact .inl rfl
 ·exact .inr rfl
theorem sop_same {Bk B' : List Cl} {ed : Int} {fl0 L M : List ByteArray} (hb : bndF Bk = none) (hb' : bndF B' = none) (h1 : ∀ c ∈ Bk, (c.f ≤ ed ∧ ed ≤ c.t) → c ∈ B') (h2 : ∀ c ∈ B', c ∈ Bk) (hL : SoP (hldM Bk ed fl0).S L) (hM : SoP (hldM B' ed fl0).S M) : L = M :=
 up_uniq hL.up hM.up (fun x => (hL.mem x).trans ((hld_same hb hb' h1 h2 x).symm.trans (hM.mem x).symm))
theorem les_firm {Bk : List Cl} {ed : Int} {fl0 fl1 L M : List ByteArray} (hb : bndF Bk = none) (hu : ∀ c ∈ Bk, c.us.l = []) (hf : ∀ x ∈ fl0, x ∈ fl1) (hL : SoP (hldM Bk ed fl0).S L) (hM : SoP (hldM Bk ed fl1).S M) : lesL L M = [] := by
 unfold lesL
 rw [List.filter_eq_nil_iff]
 intro x hx
 rw [decide_eq_true ((hM.mem x).2 (hld_firm hb hu hf x ((hL.mem x).1 hx)))]; decide
set_option maxRecDepth 100000 in
set_option maxHeartbeats 4000000 in
theorem Order_law (Bk : List Cl) (A : Option Addr) (c : Nat) (ed : Int) (fl0 : List ByteArray) (fA0 : Option Addr) (fc0 : Nat) (x : ByteArray) (w : World) (hbk : BkW w Bk A c) (hfl : Arr 1 eS w (.slice fA0 fl0.length fc0) fl0) : Calls Tryz.prog 6 #[.slice A Bk.length c, .int .i64 ed, .slice fA0 fl0.length fc0, .string x] w (Back (.bool true) w) := by
 obtain ⟨hBb, hBA⟩ := arr_partsC hbk.row
 refine J_enter (fun _ => False) (vs := [.slice A Bk.length c, .int .i64 ed, .slice fA0 fl0.length fc0, .string x]) (k := 154) (l := [(0, .slice A Bk.length c), (1, .int .i64 ed), (2, .slice fA0 fl0.length fc0), (3, .string x)]) Tryz.func6 rfl rfl Tryz.ntmps6 rfl rfl (Wd.start _) ?_
 refine s7 ?_
 rcases Bool.eq_false_or_eq_true (greB Bk fl0) with hgr | hgr
 ·refine s3 ?_
  refine aCB (fun w hw => great10 Bk A c fl0 fA0 fc0 w (hbk.up hw.bel).row (hbk.up hw.bel).cl (hfl.up ES hw.bel)) ?_
  refine aBoolT ?_ hgr
  refine s9 ?_
  refine kJ [] ?_
  refine s1 ?_
  refine aCB (fun w hw => awake11 w) ?_
  refine s5 ?_
  refine JR_one rfl (rr_tmp rfl) ?_
  intro w' hw
  exact ⟨rfl, hw.bel⟩
 ·obtain ⟨hB70, hf70, hs100⟩ := gre_parts hgr
  have hok := ok_100 hs100
  refine s3 ?_
  refine aCB (fun w hw => great10 Bk A c fl0 fA0 fc0 w (hbk.up hw.bel).row (hbk.up hw.bel).cl (hfl.up ES hw.bel)) ?_
  refine aBoolF ?_ hgr
  refine s4 ?_
  refine JL_dec (fun h30 => ?_) (fun h30 => ?_)
  ·refine s5 ?_
   refine kJ [] ?_
   refine s1 ?_
   refine aCB (fun w hw => awake11 w) ?_
   refine s5 ?_
   refine JR_one rfl (rr_tmp rfl) ?_
   intro w' hw
   exact ⟨rfl, hw.bel⟩
  ·refine s7 ?_
   obtain hhq | ⟨ha, hn, hhq⟩ := opt2 (hldQ Bk ed fl0)
   ·obtain ⟨hb, hak⟩ := hld_parts hhq
    have h64 := bnd_64 hb
    have hf64 := ask_64 hak
    have hl128 := hld_len (ed := ed) h64 hf64
    have hrl : Bk.reverse.length = Bk.length := List.length_reverse
    have hsl : (staL ed Bk).length ≤ Bk.length := List.length_filter_le _ _
    have hfml : (frmL Bk).length ≤ Bk.length := List.length_filter_le _ _
    have hbR : bndF Bk.reverse = none := bnd_sub hb (fun c hc => List.mem_reverse.1 hc) (by omega)
    have hbS : bndF (staL ed Bk) = none := bnd_sub hb staL_sub (by omega)
    have hbF : bndF (frmL Bk) = none := bnd_sub hb frmL_sub (by omega)
    have hl128R := hld_len (Bk := Bk.reverse) (ed := ed) (fl0 := fl0) (by omega) hf64
    have hl128S := hld_len (Bk := staL ed Bk) (ed := ed) (fl0 := fl0) (by omega) hf64
    have hl128F := hld_len (Bk := frmL Bk) (ed := ed) (fl0 := fl0) (by omega) hf64
    refine kJ [(0, _), (1, _), (2, _), (3, _)] ?_
    refine s4 ?_
    refine aW (oR (fun w hw => hld16_yes hok (hbk.up hw.bel) (hfl.up ES hw.bel) hhq)) (fun t37 ht37 => ?_)
    obtain ⟨L37, A37, c37⟩ := t37
    dsimp only [List.cons_append, List.nil_append]
    dsimp only at ht37
    have hl37 := ht37.len
    refine s9 ?_
    refine kJ [(0, _), (1, _), (2, _), (3, _), (9, _), (10, _)] ?_
    refine s3 ?_
    refine aDecF ?_ (by decide)
    refine s14 ?_
    refine J_own0 40 6 ?_
    refine s8 ?_
    have h0 : (Bk.drop Bk.length).reverse = [] := by rw [List.drop_length]; rfl
    refine xL (T := Nat × Option Addr × Nat) (fun q => q.1 ≤ Bk.length) (fun q => [(0, .slice A Bk.length c), (1, .int .i64 ed), (2, .slice fA0 fl0.length fc0), (3, .string x), (9, .slice A37 L37.length c37), (11, .slice q.2.1 ((Bk.drop q.1).reverse).length q.2.2), (12, .slice none 0 0), (13, .slice none 0 0), (14, .int .i64 ((q.1 : Nat) - 1))]) (fun q => [ownB 40 6 q.2.1 ((Bk.drop q.1).reverse).length q.2.2 (((Bk.drop q.1).reverse).flatMap eC), ownB 9 1 A37 L37.length c37 (L37.flatMap eS)]) (fun q => q.1) (Bk.length, none, 0) (Nat.le_refl _) ?_ (hl := ⟨rfl, rfl, rfl, rfl, rfl, (by dsimp only; rw [h0]; rfl), rfl, rfl, rfl, trivial⟩) (hH := by (try dsimp only); rw [h0]; repeat constructor)
    rintro ⟨j, bkA, bkc⟩ hj
    dsimp only at hj ⊢
    have hdl : ((Bk.drop j).reverse).length ≤ Bk.length := by rw [List.length_reverse, List.length_drop]; omega
    refine s5 ?_
    refine JL_dec (fun h47 => ?_) (fun h47 => ?_)
    ·refine s7 ?_
     obtain ⟨i, rfl⟩ : ∃ i, j = i + 1 := ⟨j - 1, by omega⟩
     have hlt : i < Bk.length := by omega
     obtain ⟨bB, pB, rfl, hhB⟩ := hBA (by intro e; subst e; simp at hlt)
     obtain ⟨⟨cn, cf, ct, ⟨fA, fn, fc, fl⟩, ⟨uA, un, uc, ul⟩, th⟩, hc⟩ : ∃ c, Bk[i]'hlt = c := ⟨_, rfl⟩
     have hcm : (⟨cn, cf, ct, ⟨fA, fn, fc, fl⟩, ⟨uA, un, uc, ul⟩, th⟩ : Cl) ∈ Bk := by rw [← hc]; exact List.getElem_mem _
     obtain ⟨hfs, hus, hfk, huk, hnk, htk⟩ := hbk.cl _ hcm
     obtain rfl : fn = fl.length := dv_nc hfs
     obtain rfl : un = ul.length := dv_nc hus
     dsimp only [Dv.v] at hfs hus hfk huk hnk htk
     obtain ⟨hfb, hfA⟩ := arr_parts hfs
     obtain ⟨hub, huA⟩ := arr_parts hus
     refine s4 ?_
     refine aP (pIdxI (i) rfl rfl rfl) ?_
     refine aV (vHoldA (cs := [.string cn, .int .i64 cf, .int .i64 ct, .slice fA fl.length fc, .slice uA ul.length uc, .string th]) EC6 rfl rfl (fun h => h) hhB hlt (by rw [hc]; rfl)) ?_
     refine aW (ow_sliceC (vs := [_, _, _, _, _, _]) (ty := 40) rfl rfl (by rfl) rfl rfl (fun _ => by kernel_rfl)) (fun b55 hb55 => ?_)
     refine aS (oApp (sl := 22) EC6 ((⟨cn, cf, ct, ⟨fA, fl.length, fc, fl⟩, ⟨uA, ul.length, uc, ul⟩, th⟩ : Cl))) (fun A56 c56 => ?_)
     refine s4 ?_
     refine kJ [(0, _), (1, _), (2, _), (3, _), (9, _), (11, _), (12, _), (13, _), (14, _)] ?_
     refine s5 ?_
     have hs : (Bk.drop i).reverse = (Bk.drop (i + 1)).reverse ++ [(⟨cn, cf, ct, ⟨fA, fl.length, fc, fl⟩, ⟨uA, ul.length, uc, ul⟩, th⟩ : Cl)] := by rw [List.drop_eq_getElem_cons hlt, List.reverse_cons, hc]
     exact xR (i, A56, c56) (by dsimp only; omega) (by dsimp only; omega) (hl := ⟨rfl, rfl, rfl, rfl, rfl, (by dsimp only; rw [hs]; rfl), rfl, rfl, (congrArg (fun x => some (Value.int .i64 x)) (by omega)), trivial⟩) (hH := by (try dsimp only); rw [hs]; repeat constructor)
    ·refine s10 ?_
     obtain rfl : j = 0 := by omega
     rw [List.drop_zero]
     rw [List.drop_zero] at hdl
     refine J_own0 40 6 ?_
     refine J_own0 40 6 ?_
     refine s5 ?_
     refine xL (T := Nat × (Option Addr × Nat) × (Option Addr × Nat)) (fun q => q.1 ≤ Bk.length) (fun q => [(0, .slice A Bk.length c), (1, .int .i64 ed), (2, .slice fA0 fl0.length fc0), (3, .string x), (9, .slice A37 L37.length c37), (11, .slice bkA Bk.reverse.length bkc), (12, .slice q.2.1.1 (staL ed (Bk.take q.1)).length q.2.1.2), (13, .slice q.2.2.1 (frmL (Bk.take q.1)).length q.2.2.2), (15, .int .i64 (q.1 : Nat))]) (fun q => [ownB 40 6 q.2.1.1 (staL ed (Bk.take q.1)).length q.2.1.2 ((staL ed (Bk.take q.1)).flatMap eC), ownB 40 6 q.2.2.1 (frmL (Bk.take q.1)).length q.2.2.2 ((frmL (Bk.take q.1)).flatMap eC), ownB 40 6 bkA (Bk.reverse).length bkc ((Bk.reverse).flatMap eC), ownB 9 1 A37 L37.length c37 (L37.flatMap eS)]) (fun q => Bk.length - q.1) (0, (none, 0), (none, 0)) (Nat.zero_le _) ?_
     rintro ⟨k, ⟨owA, owc⟩, fmA, fmc⟩ hk
     dsimp only at hk ⊢
     have hs1l := staL_len ed Bk k
     have hs2l := frmL_len Bk k
     refine s7 ?_
     refine JL_dec (fun h60 => ?_) (fun h60 => ?_)
     ·refine s9 ?_
      have hlt : k < Bk.length := by omega
      obtain ⟨bB, pB, rfl, hhB⟩ := hBA (by intro e; subst e; simp at hlt)
      obtain ⟨⟨cn, cf, ct, ⟨fA, fn, fc, fl⟩, ⟨uA, un, uc, ul⟩, th⟩, hc⟩ : ∃ c, Bk[k]'hlt = c := ⟨_, rfl⟩
      have hcm : (⟨cn, cf, ct, ⟨fA, fn, fc, fl⟩, ⟨uA, un, uc, ul⟩, th⟩ : Cl) ∈ Bk := by rw [← hc]; exact List.getElem_mem _
      obtain ⟨hfs, hus, hfk, huk, hnk, htk⟩ := hbk.cl _ hcm
      obtain rfl : fn = fl.length := dv_nc hfs
      obtain rfl : un = ul.length := dv_nc hus
      dsimp only [Dv.v] at hfs hus hfk huk hnk htk
      obtain ⟨hfb, hfA⟩ := arr_parts hfs
      obtain ⟨hub, huA⟩ := arr_parts hus
      refine kJ [(0, _), (1, _), (2, _), (3, _), (9, _), (11, _), (12, _), (13, _), (15, _)] ?_
      refine s4 ?_
      refine aV (vHoldA (cs := [.string cn, .int .i64 cf, .int .i64 ct, .slice fA fl.length fc, .slice uA ul.length uc, .string th]) EC6 rfl rfl (fun h => h) hhB hlt (by rw [hc]; rfl)) ?_
      refine s1 ?_
      refine aCB (fun w hw => Stands23 (⟨cn, cf, ct, ⟨fA, fl.length, fc, fl⟩, ⟨uA, ul.length, uc, ul⟩, th⟩ : Cl) ed w) ?_
      refine JL_dec (fun h68 => ?_) (fun h68 => ?_)
      ·refine s3 ?_
       refine kJ [(0, _), (1, _), (2, _), (3, _), (9, _), (11, _), (12, _), (13, _), (15, _)] ?_
       refine s5 ?_
       refine aV (vHoldA (cs := [.string cn, .int .i64 cf, .int .i64 ct, .slice fA fl.length fc, .slice uA ul.length uc, .string th]) EC6 rfl rfl (fun h => h) hhB hlt (by rw [hc]; rfl)) ?_
       refine aW (ow_sliceC (vs := [_, _, _, _, _, _]) (ty := 40) rfl rfl (by rfl) rfl rfl (fun _ => by kernel_rfl)) (fun b74 hb74 => ?_)
       refine aS (oApp (sl := 22) EC6 ((⟨cn, cf, ct, ⟨fA, fl.length, fc, fl⟩, ⟨uA, ul.length, uc, ul⟩, th⟩ : Cl))) (fun A75 c75 => ?_)
       refine s4 ?_
       refine kJ [(0, _), (1, _), (2, _), (3, _), (9, _), (11, _), (12, _), (13, _), (15, _)] ?_
       refine s5 ?_
       refine aV (vHold (v := .slice uA ul.length uc) rfl rfl (fun h => h) hhB hlt (by omega) (by rw [hc]; rfl)) ?_
       refine s2 ?_
       refine JL_dec (fun h82 => ?_) (fun h82 => ?_)
       ·refine s3 ?_
        refine kJ [(0, _), (1, _), (2, _), (3, _), (9, _), (11, _), (12, _), (13, _), (15, _)] ?_
        refine s5 ?_
        refine aV (vHoldA (cs := [.string cn, .int .i64 cf, .int .i64 ct, .slice fA fl.length fc, .slice uA ul.length uc, .string th]) EC6 rfl rfl (fun h => h) hhB hlt (by rw [hc]; rfl)) ?_
        refine aW (ow_sliceC (vs := [_, _, _, _, _, _]) (ty := 40) rfl rfl (by rfl) rfl rfl (fun _ => by kernel_rfl)) (fun b88 hb88 => ?_)
        refine aS (oApp (sl := 22) EC6 ((⟨cn, cf, ct, ⟨fA, fl.length, fc, fl⟩, ⟨uA, ul.length, uc, ul⟩, th⟩ : Cl))) (fun A89 c89 => ?_)
        refine s4 ?_
        refine kJ [(0, _), (1, _), (2, _), (3, _), (9, _), (11, _), (12, _), (13, _), (15, _)] ?_
        refine s5 ?_
        have hs : staL ed (Bk.take (k + 1)) = staL ed (Bk.take k) ++ [(⟨cn, cf, ct, ⟨fA, fl.length, fc, fl⟩, ⟨uA, ul.length, uc, ul⟩, th⟩ : Cl)] := by rw [staL_s hlt hc, if_pos h68]
        have hs2 : frmL (Bk.take (k + 1)) = frmL (Bk.take k) ++ [(⟨cn, cf, ct, ⟨fA, fl.length, fc, fl⟩, ⟨uA, ul.length, uc, ul⟩, th⟩ : Cl)] := by rw [frmL_s hlt hc, if_pos (by dsimp only; omega)]
        exact xR (k + 1, (A75, c75), (A89, c89)) (by dsimp only; omega) (by dsimp only; omega) (hl := ⟨rfl, rfl, rfl, rfl, rfl, rfl, (by dsimp only; rw [hs]; rfl), (by dsimp only; rw [hs2]; rfl), (congrArg some (by go_num)), trivial⟩) (hH := by (try dsimp only); rw [hs, hs2]; repeat constructor)
       ·refine s6 ?_
        refine kJ [(0, _), (1, _), (2, _), (3, _), (9, _), (11, _), (12, _), (13, _), (15, _)] ?_
        refine s5 ?_
        have hs : staL ed (Bk.take (k + 1)) = staL ed (Bk.take k) ++ [(⟨cn, cf, ct, ⟨fA, fl.length, fc, fl⟩, ⟨uA, ul.length, uc, ul⟩, th⟩ : Cl)] := by rw [staL_s hlt hc, if_pos h68]
        have hs2 : frmL (Bk.take (k + 1)) = frmL (Bk.take k) := by rw [frmL_s hlt hc, if_neg (by dsimp only; omega)]
        exact xR (k + 1, (A75, c75), (fmA, fmc)) (by dsimp only; omega) (by dsimp only; omega) (hl := ⟨rfl, rfl, rfl, rfl, rfl, rfl, (by dsimp only; rw [hs]; rfl), (by dsimp only; rw [hs2]; rfl), (congrArg some (by go_num)), trivial⟩) (hH := by (try dsimp only); rw [hs, hs2]; repeat constructor)
      ·refine s6 ?_
       refine kJ [(0, _), (1, _), (2, _), (3, _), (9, _), (11, _), (12, _), (13, _), (15, _)] ?_
       refine s5 ?_
       refine aV (vHold (v := .slice uA ul.length uc) rfl rfl (fun h => h) hhB hlt (by omega) (by rw [hc]; rfl)) ?_
       refine s2 ?_
       refine JL_dec (fun h82 => ?_) (fun h82 => ?_)
       ·refine s3 ?_
        refine kJ [(0, _), (1, _), (2, _), (3, _), (9, _), (11, _), (12, _), (13, _), (15, _)] ?_
        refine s5 ?_
        refine aV (vHoldA (cs := [.string cn, .int .i64 cf, .int .i64 ct, .slice fA fl.length fc, .slice uA ul.length uc, .string th]) EC6 rfl rfl (fun h => h) hhB hlt (by rw [hc]; rfl)) ?_
        refine aW (ow_sliceC (vs := [_, _, _, _, _, _]) (ty := 40) rfl rfl (by rfl) rfl rfl (fun _ => by kernel_rfl)) (fun b88 hb88 => ?_)
        refine aS (oApp (sl := 22) EC6 ((⟨cn, cf, ct, ⟨fA, fl.length, fc, fl⟩, ⟨uA, ul.length, uc, ul⟩, th⟩ : Cl))) (fun A89 c89 => ?_)
        refine s4 ?_
        refine kJ [(0, _), (1, _), (2, _), (3, _), (9, _), (11, _), (12, _), (13, _), (15, _)] ?_
        refine s5 ?_
        have hs : staL ed (Bk.take (k + 1)) = staL ed (Bk.take k) := by rw [staL_s hlt hc, if_neg h68]
        have hs2 : frmL (Bk.take (k + 1)) = frmL (Bk.take k) ++ [(⟨cn, cf, ct, ⟨fA, fl.length, fc, fl⟩, ⟨uA, ul.length, uc, ul⟩, th⟩ : Cl)] := by rw [frmL_s hlt hc, if_pos (by dsimp only; omega)]
        exact xR (k + 1, (owA, owc), (A89, c89)) (by dsimp only; omega) (by dsimp only; omega) (hl := ⟨rfl, rfl, rfl, rfl, rfl, rfl, (by dsimp only; rw [hs]; rfl), (by dsimp only; rw [hs2]; rfl), (congrArg some (by go_num)), trivial⟩) (hH := by (try dsimp only); rw [hs, hs2]; repeat constructor)
       ·refine s6 ?_
        refine kJ [(0, _), (1, _), (2, _), (3, _), (9, _), (11, _), (12, _), (13, _), (15, _)] ?_
        refine s5 ?_
        have hs : staL ed (Bk.take (k + 1)) = staL ed (Bk.take k) := by rw [staL_s hlt hc, if_neg h68]
        have hs2 : frmL (Bk.take (k + 1)) = frmL (Bk.take k) := by rw [frmL_s hlt hc, if_neg (by dsimp only; omega)]
        exact xR (k + 1, (owA, owc), (fmA, fmc)) (by dsimp only; omega) (by dsimp only; omega) (hl := ⟨rfl, rfl, rfl, rfl, rfl, rfl, (by dsimp only; rw [hs]; rfl), (by dsimp only; rw [hs2]; rfl), (congrArg some (by go_num)), trivial⟩) (hH := by (try dsimp only); rw [hs, hs2]; repeat constructor)
     ·refine s9 ?_
      obtain rfl : k = Bk.length := by omega
      rw [List.take_length]
      rw [List.take_length] at hs1l hs2l
      refine kJ [(1, _), (2, _), (3, _), (9, _), (11, _), (12, _), (13, _)] ?_
      refine s4 ?_
      refine aW (oR (fun w hw => hld16_yes hok ⟨own_arr (A := bkA) (c := bkc) (L := Bk.reverse) EC6 hw (by repeat constructor) (by omega), fun x hx => (hbk.up hw.bel).cl x (List.mem_reverse.1 hx)⟩ (hfl.up ES hw.bel) (hld_mk hbR hak))) (fun t94 ht94 => ?_)
      obtain ⟨L94, A94, c94⟩ := t94
      dsimp only [List.cons_append, List.nil_append]
      dsimp only at ht94
      have hl94 := ht94.len
      obtain rfl : L37 = L94 := sop_same hb hbR (fun c hc _ => List.mem_reverse.2 hc) (fun c hc => List.mem_reverse.1 hc) ht37 ht94
      refine s8 ?_
      refine kJ [(1, _), (2, _), (3, _), (9, _), (12, _), (13, _), (16, _), (17, _)] ?_
      refine s4 ?_
      refine aW (oR (fun w hw => hld16_yes hok ⟨own_arr (A := owA) (c := owc) (L := (staL ed Bk)) EC6 hw (by repeat constructor) (by omega), fun x hx => (hbk.up hw.bel).cl x (staL_sub x hx)⟩ (hfl.up ES hw.bel) (hld_mk hbS hak))) (fun t101 ht101 => ?_)
      obtain ⟨L101, A101, c101⟩ := t101
      dsimp only [List.cons_append, List.nil_append]
      dsimp only at ht101
      have hl101 := ht101.len
      obtain rfl : L37 = L101 := sop_same hb hbS (fun c hc h => List.mem_filter.2 ⟨hc, decide_eq_true h⟩) staL_sub ht37 ht101
      refine s9 ?_
      refine kJ [(1, _), (2, _), (3, _), (9, _), (13, _), (16, _), (17, _), (18, _), (19, _)] ?_
      refine s3 ?_
      refine aDecF ?_ (by decide)
      refine s3 ?_
      refine aDecF ?_ (by decide)
      refine s4 ?_
      refine aCB (fun w hw => Same17 L37 L37 _ _ w (own_arr (A := A94) (c := c94) ES hw (by repeat constructor) (by omega)) (own_arr (A := A37) (c := c37) ES hw (by repeat constructor) (by omega))) ?_
      refine aDecT ?_ rfl
      refine s5 ?_
      refine aCB (fun w hw => Same17 L37 L37 _ _ w (own_arr (A := A101) (c := c101) ES hw (by repeat constructor) (by omega)) (own_arr (A := A37) (c := c37) ES hw (by repeat constructor) (by omega))) ?_
      refine aDecT ?_ rfl
      refine s8 ?_
      refine kJ [(1, _), (2, _), (3, _), (13, _)] ?_
      refine s4 ?_
      refine aW (oR (fun w hw => hld16_yes hok ⟨own_arr (A := fmA) (c := fmc) (L := (frmL Bk)) EC6 hw (by repeat constructor) (by omega), fun x hx => (hbk.up hw.bel).cl x (frmL_sub x hx)⟩ (hfl.up ES hw.bel) (hld_mk hbF hak))) (fun t126 ht126 => ?_)
      obtain ⟨L126, A126, c126⟩ := t126
      dsimp only [List.cons_append, List.nil_append]
      dsimp only at ht126
      have hl126 := ht126.len
      refine s8 ?_
      obtain hqr | hqr := hld_two (ed := ed) (fl0 := (risF (fl0 ++ [x]))) hbF
      ·have hf642 := ask_64 (hld_parts hqr).2
       have hl128Q := hld_len (Bk := frmL Bk) (ed := ed) (fl0 := (risF (fl0 ++ [x]))) (by omega) hf642
       have hok2 : ∀ s ∈ (risF (fl0 ++ [x])), okS s := fun s hs => by
        rcases List.mem_append.1 (((sop_ris (fl0 ++ [x])).mem s).1 hs) with h | h
        ·exact hok s h
        ·rw [List.mem_singleton.1 h]; exact ok_lit (by omega)
       have hr2l := (sop_ris (fl0 ++ [x])).len
       rw [List.length_append, List.length_singleton] at hr2l
       refine kJ [(1, _), (2, _), (3, _), (13, _), (20, _), (21, _)] ?_
       refine s3 ?_
       refine aW (ow_slice0 (k := 1) (ty := 9) rfl rfl rfl (fun _ => by kernel_rfl)) (fun b132 hb132 => ?_)
       refine s1 ?_
       refine aS (oAppX (sl := 23) ES ([] : List ByteArray) fl0 (fun w hw => hfl.up ES hw.bel) rfl (Nat.le_refl _) (hl := by rw [List.length_nil]; omega)) (fun A134 c134 => ?_)
       rw [List.nil_append]
       refine s1 ?_
       refine aW (ow_sliceC (vs := [_]) (ty := 9) rfl rfl (by rfl) rfl rfl (fun _ => by kernel_rfl)) (fun b136 hb136 => ?_)
       refine aS (oApp (sl := 23) ES (x)) (fun A137 c137 => ?_)
       refine aS (oS (fun w hw => Rising18 (fl0 ++ [x]) A137 c137 w (own_arr ES hw (by repeat constructor) (by rw [List.length_append, List.length_singleton]; omega)) (by rw [List.length_append, List.length_singleton]; omega))) (fun A138 c138 => ?_)
       refine aW (oR (fun w hw => hld16_yes hok2 ⟨own_arr (A := fmA) (c := fmc) (L := (frmL Bk)) EC6 hw (by repeat constructor) (by omega), fun x hx => (hbk.up hw.bel).cl x (frmL_sub x hx)⟩ (own_arr (A := A138) (c := c138) (L := (risF (fl0 ++ [x]))) ES hw (by repeat constructor) (by omega)) hqr)) (fun t139 ht139 => ?_)
       obtain ⟨L139, A139, c139⟩ := t139
       dsimp only [List.cons_append, List.nil_append]
       dsimp only at ht139
       have hl139 := ht139.len
       have hles : lesL L126 L139 = [] := les_firm hbF frmL_us (fun s hs => ((sop_ris (fl0 ++ [x])).mem s).2 (List.mem_append_left _ hs)) ht126 ht139
       refine s8 ?_
       refine kJ [(20, _), (21, _), (22, _), (23, _)] ?_
       refine s3 ?_
       refine aDecT ?_ rfl
       refine s3 ?_
       refine aDecF ?_ (by decide)
       refine s3 ?_
       refine aS (oS (fun w hw => Less19 L126 L139 _ _ _ w (own_arr ES hw (by repeat constructor) (by omega)) (own_arr (A := A139) (c := c139) ES hw (by repeat constructor) (by omega)) (by omega))) (fun A150 c150 => ?_)
       refine s2 ?_
       refine aDecT ?_ (by rw [hles]; rfl)
       refine s3 ?_
       refine aCB (fun w hw => awake11 w) ?_
       refine s5 ?_
       refine JR_one rfl (rr_tmp rfl) ?_
       intro w' hw
       exact ⟨rfl, hw.bel⟩
      ·have hok2 : ∀ s ∈ (risF (fl0 ++ [x])), okS s := fun s hs => by
        rcases List.mem_append.1 (((sop_ris (fl0 ++ [x])).mem s).1 hs) with h | h
        ·exact hok s h
        ·rw [List.mem_singleton.1 h]; exact ok_lit (by omega)
       have hr2l := (sop_ris (fl0 ++ [x])).len
       rw [List.length_append, List.length_singleton] at hr2l
       refine kJ [(1, _), (2, _), (3, _), (13, _), (20, _), (21, _)] ?_
       refine s3 ?_
       refine aW (ow_slice0 (k := 1) (ty := 9) rfl rfl rfl (fun _ => by kernel_rfl)) (fun b132 hb132 => ?_)
       refine s1 ?_
       refine aS (oAppX (sl := 23) ES ([] : List ByteArray) fl0 (fun w hw => hfl.up ES hw.bel) rfl (Nat.le_refl _) (hl := by rw [List.length_nil]; omega)) (fun A134 c134 => ?_)
       rw [List.nil_append]
       refine s1 ?_
       refine aW (ow_sliceC (vs := [_]) (ty := 9) rfl rfl (by rfl) rfl rfl (fun _ => by kernel_rfl)) (fun b136 hb136 => ?_)
       refine aS (oApp (sl := 23) ES (x)) (fun A137 c137 => ?_)
       refine aS (oS (fun w hw => Rising18 (fl0 ++ [x]) A137 c137 w (own_arr ES hw (by repeat constructor) (by rw [List.length_append, List.length_singleton]; omega)) (by rw [List.length_append, List.length_singleton]; omega))) (fun A138 c138 => ?_)
       refine aCB (fun w hw => hld16_no hok2 ⟨own_arr (A := fmA) (c := fmc) (L := (frmL Bk)) EC6 hw (by repeat constructor) (by omega), fun x hx => (hbk.up hw.bel).cl x (frmL_sub x hx)⟩ (own_arr (A := A138) (c := c138) (L := (risF (fl0 ++ [x]))) ES hw (by repeat constructor) (by omega)) hqr) ?_
       refine s8 ?_
       refine kJ [(20, _), (21, _), (22, _), (23, _)] ?_
       refine s3 ?_
       refine aDecT ?_ rfl
       refine s3 ?_
       refine aDecT ?_ (by decide)
       refine s9 ?_
       refine aCB (fun w hw => awake11 w) ?_
       refine s5 ?_
       refine JR_one rfl (rr_tmp rfl) ?_
       intro w' hw
       exact ⟨rfl, hw.bel⟩
   ·refine kJ [(0, _), (1, _), (2, _), (3, _)] ?_
    refine s4 ?_
    refine aCB (fun w hw => hld16_no hok (hbk.up hw.bel) (hfl.up ES hw.bel) hhq) ?_
    refine s9 ?_
    refine kJ [(0, _), (1, _), (2, _), (3, _), (9, _), (10, _)] ?_
    refine s3 ?_
    refine aDecT ?_ (hld_ne hhq)
    refine s4 ?_
    refine kJ [] ?_
    refine s1 ?_
    refine aCB (fun w hw => awake11 w) ?_
    refine s5 ?_
    refine JR_one rfl (rr_tmp rfl) ?_
    intro w' hw
    exact ⟨rfl, hw.bel⟩
end Go.Proofs.YtjkolebffbeeeaaGreatDoor
