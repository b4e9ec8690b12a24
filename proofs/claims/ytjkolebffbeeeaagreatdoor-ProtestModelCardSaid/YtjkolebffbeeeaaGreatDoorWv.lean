/- The document: what holds. -/
import Derived.Test.YtjkolebffbeeeaaGreatDoorWu
namespace Go.Proofs.YtjkolebffbeeeaaGreatDoor
open Go Go.RowKit Go.Proofs
attribute [local irreducible] J JQ JL JA JD

theorem firB_firR (ed : Int) (S : List ByteArray) (c : Cl) : firB ed S c = (firR ed S c && !decide (c.th ∈ S)) := by
 unfold firB firR
 generalize decide (c.f ≤ ed ∧ ed ≤ c.t) = a
 generalize decide (c.th ∈ S) = b
 generalize c.fs.l.all _ = d
 generalize c.us.l.any _ = e
 cases a <;> cases b <;> cases d <;> cases e <;> rfl
theorem firR_rev (ed : Int) (S : List ByteArray) (c : Cl) : firR ed S.reverse c = firR ed S c := by unfold firR; simp only [List.mem_reverse]
theorem mkL_app (Bk : List Cl) (m : MS) (l : List Nat) (i : Nat) : mkL Bk m (l ++ [i]) = mkC Bk (mkL Bk m l) i := by unfold mkL; rw [List.foldl_append]; rfl
/-- One clause in a round of the document. -/
theorem dk_no {Bk : List Cl} {lv : LM} {n ed : Int} {m : MS} {i : Nat} {c : Cl} (h : i < Bk.length) (hc : Bk[i]'h = c) (hno : ¬ (gM lv c.th = n ∧ firR ed m.S c = true ∧ c.th ∉ (mkL Bk m (firL Bk lv n ed m.S i)).S)) : mkL Bk m (firL Bk lv n ed m.S (i + 1)) = mkL Bk m (firL Bk lv n ed m.S i) := by
 rw [firL_s h hc]
 split
 ·rename_i h1
  rw [firB_firR, Bool.and_eq_true] at h1
  rw [mkL_app]
  have hin : c.th ∈ (mkL Bk m (firL Bk lv n ed m.S i)).S := Decidable.not_not.1 (fun hn => hno ⟨h1.1, h1.2.1, hn⟩)
  unfold mkC; rw [List.getElem?_eq_getElem h, hc]; dsimp only; rw [if_pos hin]
 ·rfl
theorem dk_yes {Bk : List Cl} {lv : LM} {n ed : Int} {m m1 : MS} {i : Nat} {c : Cl} (h : i < Bk.length) (hc : Bk[i]'h = c) (hm1 : m1 = mkL Bk m (firL Bk lv n ed m.S i)) (h1 : gM lv c.th = n) (h2 : firR ed m.S c = true) (h3 : c.th ∉ m1.S) : mkL Bk m (firL Bk lv n ed m.S (i + 1)) = ⟨c.th :: m1.S, upd m1.R c.th (i : Nat), m1.O ++ [((i : Nat) : Int)]⟩ := by
 subst hm1
 have h0 : c.th ∉ m.S := fun h' => h3 (mkL_sub Bk _ m _ h')
 rw [firL_s h hc, if_pos ⟨h1, by rw [firB_firR, h2, decide_eq_false h0]; rfl⟩, mkL_app]
 show mkC Bk _ i = _
 unfold mkC; rw [List.getElem?_eq_getElem h, hc]; dsimp only; rw [if_neg h3]
theorem mkC_le (Bk : List Cl) (m : MS) (i : Nat) : m.S.length ≤ (mkC Bk m i).S.length := by
 unfold mkC; split
 ·exact Nat.le_refl _
 ·split
  ·exact Nat.le_refl _
  ·exact Nat.le_succ _
theorem mkL_le (Bk : List Cl) : ∀ (l : List Nat) (m : MS), m.S.length ≤ (mkL Bk m l).S.length
 | [], _ => Nat.le_refl _
 | i :: l, m => Nat.le_trans (mkC_le Bk m i) (mkL_le Bk l (mkC Bk m i))
theorem mkL_gt {Bk : List Cl} {lv : LM} {n ed : Int} {m : MS} {k : Nat} (h : firL Bk lv n ed m.S k ≠ []) : m.S.length < (mkL Bk m (firL Bk lv n ed m.S k)).S.length := by
 cases hl : firL Bk lv n ed m.S k with
 | nil => exact absurd hl h
 | cons i r =>
  obtain ⟨hi, c, hc, -, hf⟩ := firL_mem (i := i) (by rw [hl]; exact List.mem_cons_self)
  refine Nat.lt_of_lt_of_le ?_ (mkL_le Bk r (mkC Bk m i))
  unfold firB at hf
  simp at hf
  unfold mkC; rw [hc]; dsimp only; rw [if_neg hf.1.1.2]
  exact Nat.lt_succ_self _
structure MkS where
 m : MS
 hA : Option Addr
 hc : Nat
 oA : Option Addr
 oc : Nat
set_option maxRecDepth 100000 in
set_option maxHeartbeats 4000000 in
theorem make48 (Bk : List Cl) (BA : Option Addr) (bc : Nat) (ed : Int) (fl0 : List ByteArray) (fA0 : Option Addr) (fc0 : Nat) (lv : LM) (hlv : lvl Bk = some lv) (h64 : Bk.length ≤ 64) (hf64 : fl0.length ≤ 64) (w : World) (hbk : BkW w Bk BA bc) (hfl : Arr 1 eS w (.slice fA0 fl0.length fc0) fl0) : Calls Tryz.prog 48 #[.slice BA Bk.length bc, .int .i64 ed, .slice fA0 fl0.length fc0] w (Ret w (fun t : MkS => t.m = hldM Bk ed fl0 ∧ t.m.S.length + muS Bk t.m.S ≤ 128 ∧ t.m.O.length ≤ t.m.S.length) (fun t => .agg #[.slice t.hA t.m.S.reverse.length t.hc, .slice t.oA t.m.O.length t.oc]) (fun t => [ownB 9 1 t.hA t.m.S.reverse.length t.hc (t.m.S.reverse.flatMap eS), ownB 3 1 t.oA t.m.O.length t.oc (t.m.O.flatMap eI)])) := by
 obtain ⟨hBb, hBA⟩ := arr_partsC hbk.row
 refine J_enter (fun _ => False) (vs := [.slice BA Bk.length bc, .int .i64 ed, .slice fA0 fl0.length fc0]) (k := 82) (l := [(0, .slice BA Bk.length bc), (1, .int .i64 ed), (2, .slice fA0 fl0.length fc0)]) Tryz.func48 rfl rfl Tryz.ntmps48 rfl rfl (Wd.start _) ?_
 refine s2 ?_
 refine aW oA (fun b6 hb6 => ?_)
 refine s5 ?_
 refine aW (oR (fun w hw => levels_yes (hbk.up hw.bel) h64 hlv)) (fun lb _ => ?_)
 refine s8 ?_
 refine kJ [(0, _), (1, _), (2, _), (6, _), (7, _)] ?_
 refine s1 ?_
 refine aW (ow_slice0 (k := 1) (ty := 9) rfl rfl rfl (fun _ => by kernel_rfl)) (fun b20 hb20 => ?_)
 refine s1 ?_
 refine aS (oAppX (sl := 23) ES ([] : List ByteArray) fl0 (fun w hw => hfl.up ES hw.bel) rfl (Nat.le_refl _) (hl := by rw [List.length_nil]; omega)) (fun A22 c22 => ?_)
 refine aP (rp_buildC (fun us => [us.getD 0 undef, .slice none 0 0]) rfl rfl (fun w => by kernel_rfl)) ?_
 refine aW oA (fun b9 hb9 => ?_)
 refine s5 ?_
 have hrev0 : (([] : List ByteArray) ++ fl0) = fl0.reverse.reverse := by rw [List.nil_append, List.reverse_reverse]
 rw [hrev0]
 refine J_own0 3 1 ?_
 refine J_roN w.heap.size (ownB 9 1 A22 fl0.reverse.reverse.length c22 (fl0.reverse.reverse.flatMap eS)) ?_
 refine kJ [(0, _), (1, _), (6, _), (7, _), (9, _)] ?_
 refine s5 ?_
 refine xL (T := Nat × MkS) (fun q => q.1 ≤ Bk.length + 1 ∧ q.2.m = madF Bk lv ed q.1 ⟨fl0.reverse, fun _ => none, []⟩ ∧ (q.2.m.S.length + muS Bk q.2.m.S ≤ 128 ∧ q.2.m.O.length ≤ q.2.m.S.length)) (fun q => [(0, .slice BA Bk.length bc), (1, .int .i64 ed), (6, .pointer (some ⟨b6, 0, none⟩)), (7, .map (some lb)), (9, .pointer (some ⟨b9, 0, none⟩)), (10, .int .i64 (q.1 : Nat))]) (fun q => [cellB b9 [.slice q.2.hA q.2.m.S.reverse.length q.2.hc, .slice q.2.oA q.2.m.O.length q.2.oc] 77, roN w.heap.size (ownB 9 1 q.2.hA q.2.m.S.reverse.length q.2.hc (q.2.m.S.reverse.flatMap eS)), ownB 3 1 q.2.oA q.2.m.O.length q.2.oc (q.2.m.O.flatMap eI), cellB b6 [.slice none 0 0, .slice none 0 0] 77, lvI lb 4096 lv]) (fun q => Bk.length + 1 - q.1) (0, ⟨⟨fl0.reverse, fun _ => none, []⟩, A22, c22, none, 0⟩) ⟨Nat.zero_le _, rfl, by dsimp only; rw [List.length_reverse]; have := muS_0 Bk fl0.reverse; omega, Nat.zero_le _⟩ ?_
 rintro ⟨s, t0⟩ ⟨hs, hm0, hc1, hc2⟩
 dsimp only at hs hm0 hc1 hc2 ⊢
 refine s7 ?_
 refine JL_dec (fun h27 => ?_) (fun h27 => ?_)
 ·refine s8 ?_
  refine kJ [(0, _), (1, _), (6, _), (7, _), (9, _), (10, _)] ?_
  refine s5 ?_
  refine xL (T := MkS × Bool) (fun q => (q.2 = true → ∃ j, levF Bk lv ed (madF Bk lv ed s ⟨fl0.reverse, fun _ => none, []⟩) s = rndF Bk lv ((s : Nat) : Int) ed j q.1.m ∧ muS Bk q.1.m.S < j) ∧ (q.2 = false → levF Bk lv ed (madF Bk lv ed s ⟨fl0.reverse, fun _ => none, []⟩) s = q.1.m) ∧ (q.1.m.S.length + muS Bk q.1.m.S ≤ 128 ∧ q.1.m.O.length ≤ q.1.m.S.length)) (fun q => [(0, .slice BA Bk.length bc), (1, .int .i64 ed), (6, .pointer (some ⟨b6, 0, none⟩)), (7, .map (some lb)), (9, .pointer (some ⟨b9, 0, none⟩)), (10, .int .i64 (s : Nat)), (11, .bool q.2)]) (fun q => [cellB b9 [.slice q.1.hA q.1.m.S.reverse.length q.1.hc, .slice q.1.oA q.1.m.O.length q.1.oc] 77, roN w.heap.size (ownB 9 1 q.1.hA q.1.m.S.reverse.length q.1.hc (q.1.m.S.reverse.flatMap eS)), ownB 3 1 q.1.oA q.1.m.O.length q.1.oc (q.1.m.O.flatMap eI), cellB b6 [.slice none 0 0, .slice none 0 0] 77, lvI lb 4096 lv]) (fun q => 2 * muS Bk q.1.m.S + (if q.2 = true then 1 else 0)) (t0, true) ⟨fun _ => ⟨Bk.length + 1, by dsimp only; rw [hm0]; rfl, by have := muS_0 Bk t0.m.S; dsimp only; omega⟩, fun h => by (cases h), hc1, hc2⟩ ?_
  rintro ⟨t, mo⟩ ⟨hfu, hex, hd1, hd2⟩
  dsimp only at hfu hex hd1 hd2 ⊢
  refine s6 ?_
  refine J_ifb rfl (fun h30 => ?_) (fun h30 => ?_)
  ·refine s12 ?_
   refine J_dup (roN w.heap.size (ownB 9 1 t.hA t.m.S.reverse.length t.hc (t.m.S.reverse.flatMap eS))) ?_
   refine kJ [(0, _), (1, _), (6, _), (7, _), (9, _), (10, _), (12, _)] ?_
   refine s5 ?_
   refine xL (T := Nat × MkS) (fun q => q.1 ≤ Bk.length ∧ q.2.m = mkL Bk t.m (firL Bk lv ((s : Nat) : Int) ed t.m.S q.1) ∧ (q.2.m.S.length + muS Bk q.2.m.S ≤ 128 ∧ q.2.m.O.length ≤ q.2.m.S.length)) (fun q => [(0, .slice BA Bk.length bc), (1, .int .i64 ed), (6, .pointer (some ⟨b6, 0, none⟩)), (7, .map (some lb)), (9, .pointer (some ⟨b9, 0, none⟩)), (10, .int .i64 (s : Nat)), (12, .slice t.hA t.m.S.reverse.length t.hc), (13, .int .i64 (q.1 : Nat))]) (fun q => [roN w.heap.size (ownB 9 1 t.hA t.m.S.reverse.length t.hc (t.m.S.reverse.flatMap eS)), cellB b9 [.slice q.2.hA q.2.m.S.reverse.length q.2.hc, .slice q.2.oA q.2.m.O.length q.2.oc] 77, roN w.heap.size (ownB 9 1 q.2.hA q.2.m.S.reverse.length q.2.hc (q.2.m.S.reverse.flatMap eS)), ownB 3 1 q.2.oA q.2.m.O.length q.2.oc (q.2.m.O.flatMap eI), cellB b6 [.slice none 0 0, .slice none 0 0] 77, lvI lb 4096 lv]) (fun q => Bk.length - q.1) (0, t) ⟨Nat.zero_le _, rfl, hd1, hd2⟩ ?_
   rintro ⟨i, t1⟩ ⟨hi, hm1, he1, he2⟩
   dsimp only at hi hm1 he1 he2 ⊢
   refine s7 ?_
   refine JL_dec (fun h36 => ?_) (fun h36 => ?_)
   ·refine s8 ?_
    have hlt : i < Bk.length := by omega
    obtain ⟨bB, pB, rfl, hhB⟩ := hBA (by intro e; subst e; simp at hlt)
    obtain ⟨⟨cn, cf, ct, ⟨fA, fn, fc, fl⟩, ⟨uA, un, uc, ul⟩, th⟩, hc⟩ : ∃ c, Bk[i]'hlt = c := ⟨_, rfl⟩
    have hcm : (⟨cn, cf, ct, ⟨fA, fn, fc, fl⟩, ⟨uA, un, uc, ul⟩, th⟩ : Cl) ∈ Bk := by rw [← hc]; exact List.getElem_mem _
    obtain ⟨hfs, hus, hfk, huk, hnk, htk⟩ := hbk.cl _ hcm
    obtain rfl : fn = fl.length := dv_nc hfs
    obtain rfl : un = ul.length := dv_nc hus
    dsimp only [Dv.v] at hfs hus hfk huk hnk htk
    obtain ⟨hfb, hfA⟩ := arr_parts hfs
    obtain ⟨hub, huA⟩ := arr_parts hus
    refine kJ [(0, _), (1, _), (6, _), (7, _), (9, _), (10, _), (12, _), (13, _)] ?_
    refine s4 ?_
    refine aV (vHoldA (cs := [.string cn, .int .i64 cf, .int .i64 ct, .slice fA fl.length fc, .slice uA ul.length uc, .string th]) EC6 rfl rfl (fun h => h) hhB hlt (by rw [hc]; rfl)) ?_
    refine aW oA (fun b14 hb14 => ?_)
    refine s4 ?_
    refine kJ [(0, _), (1, _), (6, _), (7, _), (9, _), (10, _), (12, _), (13, _), (14, _)] ?_
    refine s4 ?_
    refine aV (rv_lookK KS LI64 th Und.h rfl rfl rfl (by repeat constructor) rfl htk) ?_
    refine s2 ?_
    refine JL_dec (fun h48 => ?_) (fun h48 => ?_)
    ·refine s4 ?_
     refine aCB (fun w hw => Fires20 ⟨cn, cf, ct, ⟨fA, fl.length, fc, fl⟩, ⟨uA, ul.length, uc, ul⟩, th⟩ ed t.m.S.reverse _ w ((hbk.cl _ hcm).up hw.bel) (ron_arr ES hw (by repeat constructor) (by rw [List.length_reverse]; omega))) ?_
     refine JL_bool (fun h53 => ?_) (fun h53 => ?_)
     ·refine s6 ?_
      refine aCB (fun w hw => Has22 t1.m.S.reverse th _ w (ron_arr ES hw (by repeat constructor) (by rw [List.length_reverse]; omega))) ?_
      refine JL_dec (fun h60 => ?_) (fun h60 => ?_)
      ·refine s8 ?_
       refine kJ [(0, _), (1, _), (6, _), (7, _), (9, _), (10, _), (12, _), (13, _)] ?_
       refine s5 ?_
       have hs1 := dk_no (lv := lv) (n := ((s : Nat) : Int)) (ed := ed) (m := t.m) hlt hc (fun h => h.2.2 (by rw [← hm1]; exact List.mem_reverse.1 h60))
       exact xR (i + 1, t1) ⟨by dsimp only; omega, by dsimp only; rw [hs1]; exact hm1, he1, he2⟩ (by dsimp only; omega) (hl := ⟨rfl, rfl, rfl, rfl, rfl, rfl, rfl, (congrArg some (by go_num)), trivial⟩)
      ·refine s5 ?_
       refine xC (T := Option Addr × Nat) (fun q => True) (fun q => [(0, .slice (some ⟨bB, pB, none⟩) Bk.length bc), (1, .int .i64 ed), (6, .pointer (some ⟨b6, 0, none⟩)), (7, .map (some lb)), (9, .pointer (some ⟨b9, 0, none⟩)), (10, .int .i64 (s : Nat)), (12, .slice t.hA t.m.S.reverse.length t.hc), (13, .int .i64 (i : Nat))]) (fun q => [ownB 9 1 q.1 ((([] : List ByteArray) ++ t1.m.S.reverse) ++ [th]).length q.2 (((([] : List ByteArray) ++ t1.m.S.reverse) ++ [th]).flatMap eS), cellB b9 [.slice q.1 ((([] : List ByteArray) ++ t1.m.S.reverse) ++ [th]).length q.2, .slice t1.oA t1.m.O.length t1.oc] 77, roN w.heap.size (ownB 9 1 t.hA t.m.S.reverse.length t.hc (t.m.S.reverse.flatMap eS)), ownB 3 1 t1.oA t1.m.O.length t1.oc (t1.m.O.flatMap eI), cellB b6 [.slice none 0 0, .slice none 0 0] 77, lvI lb 4096 lv]) ?_ ?_
       ·have hlr : (([] : List ByteArray) ++ t1.m.S.reverse).length ≤ 128 := by rw [List.nil_append, List.length_reverse]; omega
        refine kJ [(0, _), (1, _), (6, _), (7, _), (9, _), (10, _), (12, _), (13, _), (14, _)] ?_
        refine xDx [1, 2, 4, 5] [] [2, 5] [cellB b9 [.slice t1.hA t1.m.S.reverse.length t1.hc, .slice t1.oA t1.m.O.length t1.oc] 77, cellB b14 [.string cn, .int .i64 cf, .int .i64 ct, .slice fA fl.length fc, .slice uA ul.length uc, .string th] 40] ?_
        refine s4 ?_
        refine dPair (i := 0) (j := 6) (by kernel_rfl) ?_ ?_
        ·refine St1_mk rfl wAny (ow_slice0 (k := 1) (ty := 9) rfl rfl rfl (fun _ => by kernel_rfl)) (by first | exact trivial | exact ⟨by kernel_rfl, .inl (rfl : waitsB _ [] _ = true)⟩ | exact ⟨by kernel_rfl, .inr ⟨rfl, by repeat constructor⟩⟩) (fun b63 hb63 => ?_)
         refine dOA [] ?_
         refine dPair (i := 3) (j := 6) (by kernel_rfl) ?_ ?_
         ·refine St1_mk rfl wAny (oAppX (sl := 23) ES ([] : List ByteArray) t1.m.S.reverse (fun w hw => ron_arr ES hw (by repeat constructor) (by rw [List.length_reverse]; omega)) rfl (Nat.le_refl _) (hl := by rw [List.length_reverse, List.length_nil]; omega)) (by first | exact trivial | exact ⟨by kernel_rfl, .inl (rfl : waitsB _ [] _ = true)⟩ | exact ⟨by kernel_rfl, .inr ⟨rfl, by repeat constructor⟩⟩) (fun t _ => ?_)
          obtain ⟨A66, c66⟩ := t
          dsimp only
          refine dOA [6, 7, 8, 9] ?_
          refine dW rfl (ow_sliceC (vs := [_]) (ty := 9) rfl rfl (by rfl) rfl rfl (fun _ => by kernel_rfl)) (fun b69 hb69 => ?_)
          refine dS rfl (oApp (sl := 23) ES (th)) (fun A70 c70 => ?_)
          refine s1 ?_
          refine dW0 rfl wAnyS ?_ (hm := by exact ⟨by kernel_rfl, .inl (by kernel_rfl)⟩)
          refine s1 ?_
          exact xE (A70, c70) trivial
         ·refine St1_mk rfl wAny (ow_sliceC (vs := [_]) (ty := 9) rfl rfl (by rfl) rfl rfl (fun _ => by kernel_rfl)) (by first | exact trivial | exact ⟨by kernel_rfl, .inl (rfl : waitsB _ [] _ = true)⟩ | exact ⟨by kernel_rfl, .inr ⟨rfl, by repeat constructor⟩⟩) (fun b69 hb69 => ?_)
          refine dOA [3, 7, 8, 9] ?_
          refine dS rfl (oAppX (sl := 23) ES ([] : List ByteArray) t1.m.S.reverse (fun w hw => ron_arr ES hw (by repeat constructor) (by rw [List.length_reverse]; omega)) rfl (Nat.le_refl _) (hl := by rw [List.length_reverse, List.length_nil]; omega)) (fun A66 c66 => ?_)
          refine dS rfl (oApp (sl := 23) ES (th)) (fun A70 c70 => ?_)
          refine s1 ?_
          refine dW0 rfl wAnyS ?_ (hm := by exact ⟨by kernel_rfl, .inl (by kernel_rfl)⟩)
          refine s1 ?_
          exact xE (A70, c70) trivial
        ·refine St1_mk rfl wAny (ow_sliceC (vs := [_]) (ty := 9) rfl rfl (by rfl) rfl rfl (fun _ => by kernel_rfl)) (by first | exact trivial | exact ⟨by kernel_rfl, .inl (rfl : waitsB _ [] _ = true)⟩ | exact ⟨by kernel_rfl, .inr ⟨rfl, by repeat constructor⟩⟩) (fun b69 hb69 => ?_)
         refine dOA [0, 3, 7, 8, 9] ?_
         refine dW rfl (ow_slice0 (k := 1) (ty := 9) rfl rfl rfl (fun _ => by kernel_rfl)) (fun b63 hb63 => ?_)
         refine dS rfl (oAppX (sl := 23) ES ([] : List ByteArray) t1.m.S.reverse (fun w hw => ron_arr ES hw (by repeat constructor) (by rw [List.length_reverse]; omega)) rfl (Nat.le_refl _) (hl := by rw [List.length_reverse, List.length_nil]; omega)) (fun A66 c66 => ?_)
         refine dS rfl (oApp (sl := 23) ES (th)) (fun A70 c70 => ?_)
         refine s1 ?_
         refine dW0 rfl wAnyS ?_ (hm := by exact ⟨by kernel_rfl, .inl (by kernel_rfl)⟩)
         refine s1 ?_
         exact xE (A70, c70) trivial
       ·rintro ⟨A70, c70⟩ -
        dsimp only
        refine J_roN w.heap.size (ownB 9 1 A70 ((([] : List ByteArray) ++ t1.m.S.reverse) ++ [th]).length c70 (((([] : List ByteArray) ++ t1.m.S.reverse) ++ [th]).flatMap eS)) ?_
        refine s4 ?_
        refine aW (ow_sliceC (vs := [_]) (ty := 3) rfl rfl (by rfl) rfl rfl (fun _ => by kernel_rfl)) (fun b75 hb75 => ?_)
        refine aS (oApp (sl := 24) EI (((i : Nat) : Int))) (fun A76 c76 => ?_)
        refine s5 ?_
        refine kJ [(0, _), (1, _), (6, _), (7, _), (9, _), (10, _), (12, _), (13, _)] ?_
        refine s5 ?_
        have hth : th ∉ t1.m.S := fun h => h60 (List.mem_reverse.2 h)
        have hs1 := dk_yes hlt hc hm1 h48 (by rw [← firR_rev]; exact h53) hth
        have hrev : (th :: t1.m.S).reverse = (([] : List ByteArray) ++ t1.m.S.reverse) ++ [th] := by rw [List.reverse_cons, List.nil_append]
        exact xR (i + 1, ⟨⟨th :: t1.m.S, upd t1.m.R th ((i : Nat) : Int), t1.m.O ++ [((i : Nat) : Int)]⟩, A70, c70, A76, c76⟩) ⟨by dsimp only; omega, hs1.symm, by dsimp only [List.length_cons]; have := muS_lt (S := t1.m.S) (S' := th :: t1.m.S) (fun x hx => List.mem_cons_of_mem _ hx) hcm hth List.mem_cons_self; omega, by dsimp only; rw [List.length_append, List.length_cons]; simp; exact he2⟩ (by dsimp only; omega) (hl := ⟨rfl, rfl, rfl, rfl, rfl, rfl, rfl, (congrArg some (by go_num)), trivial⟩) (hH := by (try dsimp only); rw [hrev]; repeat constructor)
     ·refine s15 ?_
      refine kJ [(0, _), (1, _), (6, _), (7, _), (9, _), (10, _), (12, _), (13, _)] ?_
      refine s5 ?_
      have hs1 := dk_no (lv := lv) (n := ((s : Nat) : Int)) (ed := ed) (m := t.m) hlt hc (fun h => by have := h.2.1; rw [← firR_rev, h53] at this; cases this)
      exact xR (i + 1, t1) ⟨by dsimp only; omega, by dsimp only; rw [hs1]; exact hm1, he1, he2⟩ (by dsimp only; omega) (hl := ⟨rfl, rfl, rfl, rfl, rfl, rfl, rfl, (congrArg some (by go_num)), trivial⟩)
    ·refine s20 ?_
     refine kJ [(0, _), (1, _), (6, _), (7, _), (9, _), (10, _), (12, _), (13, _)] ?_
     refine s5 ?_
     have hs1 := dk_no (lv := lv) (n := ((s : Nat) : Int)) (ed := ed) (m := t.m) hlt hc (fun h => h48 h.1)
     exact xR (i + 1, t1) ⟨by dsimp only; omega, by dsimp only; rw [hs1]; exact hm1, he1, he2⟩ (by dsimp only; omega) (hl := ⟨rfl, rfl, rfl, rfl, rfl, rfl, rfl, (congrArg some (by go_num)), trivial⟩)
   ·refine s8 ?_
    refine kJ [(0, _), (1, _), (6, _), (7, _), (9, _), (10, _), (12, _)] ?_
    refine s10 ?_
    obtain rfl : i = Bk.length := by omega
    obtain ⟨j, hf1, hf2⟩ := hfu h30
    obtain ⟨j, rfl⟩ : ∃ i, j = i + 1 := ⟨j - 1, by omega⟩
    have hgt : decide (((t.m.S.reverse.length : Nat) : Int) < ((t1.m.S.reverse.length : Nat) : Int)) = true ↔ (firL Bk lv ((s : Nat) : Int) ed t.m.S Bk.length) ≠ [] := by
     rw [decide_eq_true_iff, Int.ofNat_lt, List.length_reverse, List.length_reverse, hm1]
     constructor
     ·intro h e; rw [e] at h; exact absurd h (Nat.lt_irrefl _)
     ·exact mkL_gt
    have hstep : (firL Bk lv ((s : Nat) : Int) ed t.m.S Bk.length) ≠ [] → muS Bk t1.m.S < muS Bk t.m.S := fun h => by rw [hm1]; exact mkL_dec h
    exact xR (t1, decide (((t.m.S.reverse.length : Nat) : Int) < ((t1.m.S.reverse.length : Nat) : Int))) ⟨fun h => ⟨j, by dsimp only; rw [hf1, hm1]; show (if _ then _ else _) = _; rw [if_neg (hgt.1 h)], by have := hstep (hgt.1 h); dsimp only; omega⟩, fun h => by (have hz : (firL Bk lv ((s : Nat) : Int) ed t.m.S Bk.length) = [] := Decidable.not_not.1 (fun hn => by rw [hgt.2 hn] at h; cases h)); dsimp only; rw [hf1, hm1]; unfold rndF; rw [if_pos hz, hz]; rfl, he1, he2⟩ (by dsimp only; rw [if_pos h30]; cases hb : decide (((t.m.S.reverse.length : Nat) : Int) < ((t1.m.S.reverse.length : Nat) : Int)) with | true => (have := hstep (hgt.1 hb); simp; omega) | false => (have : muS Bk t1.m.S ≤ muS Bk t.m.S := by rw [hm1]; exact muS_le (mkL_sub Bk _ t.m)); simp; omega)
  ·refine s11 ?_
   exact xR (s + 1, t) ⟨by dsimp only; omega, by dsimp only; rw [madF_s]; exact (hex h30).symm, hd1, hd2⟩ (by dsimp only; omega) (hl := ⟨rfl, rfl, rfl, rfl, rfl, (congrArg some (by go_num)), trivial⟩)
 ·refine s9 ?_
  refine kJ [(6, _), (9, _)] ?_
  refine s6 ?_
  refine JR_one rfl (rr_agg (cs := [_, _]) rfl Agg.h (Siz.h (k := 2)) (by repeat constructor) (by rfl)) ?_
  intro w' hw
  obtain rfl : s = Bk.length + 1 := by omega
  exact ⟨t0, ⟨by unfold hldM lvOf; rw [hm0, hlv]; rfl, hc1, hc2⟩, rfl, Wd.unRo (hw.pick (by repeat constructor)) (Nat.le_refl _) rfl⟩
end Go.Proofs.YtjkolebffbeeeaaGreatDoor
