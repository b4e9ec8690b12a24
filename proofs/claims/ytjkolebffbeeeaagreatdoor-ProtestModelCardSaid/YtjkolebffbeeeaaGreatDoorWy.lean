/- The document: Proves. -/
import Derived.Test.YtjkolebffbeeeaaGreatDoorWx
namespace Go.Proofs.YtjkolebffbeeeaaGreatDoor
open Go Go.RowKit Go.Proofs
attribute [local irreducible] J JQ JL JA JD

/-- Whether a step stands, with what is known ahead of it. -/
def okC (ed : Int) (S K : List ByteArray) (c : Cl) : Bool := decide (c.f ≤ ed ∧ ed ≤ c.t) && c.fs.l.all (fun x => decide (x ∈ K)) && c.us.l.all (fun x => !decide (x ∈ S))
/-- The first step that breaks a condition, if any, and what is known. -/
def prv (Bk : List Cl) (ed : Int) (S : List ByteArray) : List Int → Nat → List ByteArray → Option Nat × List ByteArray
 | [], _, K => (none, K)
 | i :: l, k, K => match Bk[i.toNat]? with
  | none => (none, K)
  | some c => if okC ed S K c = true then prv Bk ed S l (k + 1) (c.th :: K) else (some k, K)
theorem prv_s {Bk : List Cl} {ed : Int} {S K : List ByteArray} {l : List Int} {k i : Nat} {c : Cl} (h : k < l.length) (hi : i < Bk.length) (hy : l[k]'h = (i : Nat)) (hc : Bk[i]'hi = c) : prv Bk ed S (l.drop k) k K = if okC ed S K c = true then prv Bk ed S (l.drop (k + 1)) (k + 1) (c.th :: K) else (some k, K) := by
 rw [List.drop_eq_getElem_cons h, hy]
 show (match Bk[((i : Nat) : Int).toNat]? with | none => _ | some c => _) = _
 rw [Int.toNat_natCast, List.getElem?_eq_getElem hi, hc]
theorem okC_rev (ed : Int) (S K : List ByteArray) (c : Cl) : okC ed S.reverse K.reverse c = okC ed S K c := by unfold okC; simp only [List.mem_reverse]
def prvQ (Bk : List Cl) (ed : Int) (fl0 : List ByteArray) (x : ByteArray) (l : List Int) : Option (Int × Int) := match hldQ Bk ed fl0 with
 | some r => some r
 | none => if nameB x = true then (if l.all (inB Bk) = true then none else some (-1, 4)) else some (-1, 2)
def prvV (x : ByteArray) : Option Nat × List ByteArray → Value
 | (some k, _) => .tuple #[.bool false, .int .i64 (k : Nat), .int .i64 0]
 | (none, K) => .tuple #[.bool (decide (x ∈ K)), .int .i64 (-1), .int .i64 0]
def prvR (Bk : List Cl) (ed : Int) (fl0 : List ByteArray) (x : ByteArray) (l : List Int) : Value := match prvQ Bk ed fl0 x l with
 | some (_, n) => .tuple #[.bool false, .int .i64 (-1), .int .i64 n]
 | none => prvV x (prv Bk ed (hldM Bk ed fl0).S l 0 fl0.reverse)
theorem in_k {Bk : List Cl} {l : List Int} (h : l.all (inB Bk) = true) {y : Int} (hy : y ∈ l) : ∃ i : Nat, i < Bk.length ∧ y = i := by
 have := List.all_eq_true.1 h y hy
 unfold inB at this
 rw [decide_eq_true_eq] at this
 exact ⟨y.toNat, by omega, by omega⟩
set_option maxRecDepth 100000 in
set_option maxHeartbeats 4000000 in
theorem Proves13 (Bk : List Cl) (A : Option Addr) (c : Nat) (ed : Int) (fl0 : List ByteArray) (fA0 : Option Addr) (fc0 : Nat) (l : List Int) (lA : Option Addr) (lc : Nat) (x : ByteArray) (hok : ∀ s ∈ fl0, okS s) (w : World) (hbk : BkW w Bk A c) (hfl : Arr 1 eS w (.slice fA0 fl0.length fc0) fl0) (hl : Arr 1 eI w (.slice lA l.length lc) l) (hl1 : l.length ≤ 100) : Calls Tryz.prog 13 #[.slice A Bk.length c, .int .i64 ed, .slice fA0 fl0.length fc0, .slice lA l.length lc, .string x] w (Back (prvR Bk ed fl0 x l) w) := by
 obtain ⟨hBb, hBA⟩ := arr_partsC hbk.row
 obtain ⟨hlb, hlA⟩ := arr_partsI hl
 refine J_enter (fun _ => False) (vs := [.slice A Bk.length c, .int .i64 ed, .slice fA0 fl0.length fc0, .slice lA l.length lc, .string x]) (k := 100) (l := [(0, .slice A Bk.length c), (1, .int .i64 ed), (2, .slice fA0 fl0.length fc0), (3, .slice lA l.length lc), (4, .string x)]) Tryz.func13 rfl rfl Tryz.ntmps13 rfl rfl (Wd.start _) ?_
 refine s8 ?_
 obtain hq | ⟨a, n, hq⟩ := opt2 (hldQ Bk ed fl0)
 ·obtain ⟨hb, hak⟩ := hld_parts hq
  have h64 := bnd_64 hb
  have hf64 := ask_64 hak
  have hl128 := hld_len (ed := ed) h64 hf64
  refine s4 ?_
  refine aCB (fun w hw => asked_yes hok (hbk.up hw.bel) (hfl.up ES hw.bel) hq) ?_
  refine s5 ?_
  refine kJ [(0, _), (1, _), (2, _), (3, _), (4, _), (13, _)] ?_
  refine s3 ?_
  refine aDecF ?_ (by decide)
  refine s9 ?_
  refine aCB (fun w hw => Name46 x w) ?_
  refine JL_bool (fun h29 => ?_) (fun h29 => ?_)
  ·refine s8 ?_
   refine kJ [(0, _), (1, _), (2, _), (3, _), (4, _)] ?_
   refine s3 ?_
   refine aCB (fun w hw => indices47 Bk _ _ l _ _ w (by omega) (hl.up EI hw.bel)) ?_
   refine JL_bool (fun h33 => ?_) (fun h33 => ?_)
   ·refine s7 ?_
    refine kJ [(0, _), (1, _), (2, _), (3, _), (4, _)] ?_
    refine s4 ?_
    refine aW (oR (fun w hw => make_yes (hbk.up hw.bel) (hfl.up ES hw.bel) hq)) (fun t38 ht38 => ?_)
    obtain ⟨m38, sA, sc, rA, rc⟩ := t38
    obtain ⟨hm, hm1, hm2⟩ := ht38
    dsimp only [List.cons_append, List.nil_append] at hm hm1 hm2 ⊢
    subst hm
    refine aP (rp_run1 (f := fun u => Instr.field 77 u 0) (fun _ => rfl) rfl (fv_77_0 _ _)) ?_
    refine s4 ?_
    refine kJ [(0, _), (1, _), (2, _), (3, _), (4, _), (14, _)] ?_
    refine s1 ?_
    refine aW (ow_slice0 (k := 1) (ty := 9) rfl rfl rfl (fun _ => by kernel_rfl)) (fun b40 hb40 => ?_)
    refine s1 ?_
    refine aS (oAppX (sl := 23) ES ([] : List ByteArray) fl0 (fun w hw => hfl.up ES hw.bel) rfl (Nat.le_refl _) (hl := by rw [List.length_nil]; omega)) (fun A42 c42 => ?_)
    refine s5 ?_
    have hrev0 : (([] : List ByteArray) ++ fl0) = fl0.reverse.reverse := by rw [List.nil_append, List.reverse_reverse]
    rw [hrev0]
    refine kJ [(0, _), (1, _), (3, _), (4, _), (14, _), (15, _)] ?_
    refine s5 ?_
    refine xL (T := Nat × List ByteArray × Option Addr × Nat) (fun q => q.1 ≤ l.length ∧ prv Bk ed (hldM Bk ed fl0).S l 0 fl0.reverse = prv Bk ed (hldM Bk ed fl0).S (l.drop q.1) q.1 q.2.1 ∧ q.2.1.length ≤ 64 + q.1) (fun q => [(0, .slice A Bk.length c), (1, .int .i64 ed), (3, .slice lA l.length lc), (4, .string x), (14, .slice sA (hldM Bk ed fl0).S.reverse.length sc), (15, .slice q.2.2.1 q.2.1.reverse.length q.2.2.2), (16, .int .i64 (q.1 : Nat))]) (fun q => [ownB 9 1 q.2.2.1 q.2.1.reverse.length q.2.2.2 (q.2.1.reverse.flatMap eS), ownB 9 1 sA (hldM Bk ed fl0).S.reverse.length sc ((hldM Bk ed fl0).S.reverse.flatMap eS)]) (fun q => l.length - q.1) (0, fl0.reverse, A42, c42) ⟨Nat.zero_le _, rfl, by dsimp only; rw [List.length_reverse]; omega⟩ ?_
    rintro ⟨k, K, kA, kc⟩ ⟨hk, hpr, hKl⟩
    dsimp only at hk hpr hKl ⊢
    refine s7 ?_
    refine JL_dec (fun h46 => ?_) (fun h46 => ?_)
    ·refine s8 ?_
     have hlty : k < l.length := by omega
     obtain ⟨bqy, pqy, rfl, hhl⟩ := hlA (by intro e; subst e; simp at hlty)
     obtain ⟨y, hy⟩ : ∃ y, l[k]'hlty = y := ⟨_, rfl⟩
     have hmy : y ∈ l := by rw [← hy]; exact List.getElem_mem _
     obtain ⟨i, hil, rfl⟩ := in_k h33 hmy
     have hlt : i < Bk.length := hil
     obtain ⟨bB, pB, rfl, hhB⟩ := hBA (by intro e; subst e; simp at hlt)
     obtain ⟨⟨cn, cf, ct, ⟨fA, fn, fc, fl⟩, ⟨uA, un, uc, ul⟩, th⟩, hc⟩ : ∃ c, Bk[i]'hlt = c := ⟨_, rfl⟩
     have hcm : (⟨cn, cf, ct, ⟨fA, fn, fc, fl⟩, ⟨uA, un, uc, ul⟩, th⟩ : Cl) ∈ Bk := by rw [← hc]; exact List.getElem_mem _
     obtain ⟨hfs, hus, hfk, huk, hnk, htk⟩ := hbk.cl _ hcm
     obtain rfl : fn = fl.length := dv_nc hfs
     obtain rfl : un = ul.length := dv_nc hus
     dsimp only [Dv.v] at hfs hus hfk huk hnk htk
     obtain ⟨hfb, hfA⟩ := arr_parts hfs
     obtain ⟨hub, huA⟩ := arr_parts hus
     refine kJ [(0, _), (1, _), (3, _), (4, _), (14, _), (15, _), (16, _)] ?_
     refine s5 ?_
     refine aV (vHold rfl rfl (fun h => h) hhl hlty (by omega) (by rw [hy]; rfl)) ?_
     refine aP (pIdxI (i) rfl rfl rfl) ?_
     refine aV (vHoldA (cs := [.string cn, .int .i64 cf, .int .i64 ct, .slice fA fl.length fc, .slice uA ul.length uc, .string th]) EC6 rfl rfl (fun h => h) hhB hlt (by rw [hc]; rfl)) ?_
     refine aW oA (fun b17 hb17 => ?_)
     refine s4 ?_
     refine kJ [(0, _), (1, _), (3, _), (4, _), (14, _), (15, _), (16, _), (17, _)] ?_
     refine s3 ?_
     refine aCB (fun w hw => Stands23 ⟨cn, cf, ct, ⟨fA, fl.length, fc, fl⟩, ⟨uA, ul.length, uc, ul⟩, th⟩ ed w) ?_
     refine s10 ?_
     refine xL (T := Nat) (fun j => j ≤ fl.length) (fun j => [(1, .int .i64 ed), (4, .string x), (14, .slice sA (hldM Bk ed fl0).S.reverse.length sc), (0, .slice (some ⟨bB, pB, none⟩) Bk.length c), (3, .slice (some ⟨bqy, pqy, none⟩) l.length lc), (15, .slice kA K.reverse.length kc), (16, .int .i64 (k : Nat)), (17, .pointer (some ⟨b17, 0, none⟩)), (18, .bool (decide (cf ≤ ed ∧ ed ≤ ct) && (fl.take j).all (fun x => decide (x ∈ K.reverse)))), (19, .int .i64 (j : Nat))]) (fun j => [ownB 9 1 kA K.reverse.length kc (K.reverse.flatMap eS), ownB 9 1 sA (hldM Bk ed fl0).S.reverse.length sc ((hldM Bk ed fl0).S.reverse.flatMap eS), cellB b17 [.string cn, .int .i64 cf, .int .i64 ct, .slice fA fl.length fc, .slice uA ul.length uc, .string th] 40]) (fun j => fl.length - j) 0 (Nat.zero_le _) ?_ (hl := ⟨rfl, rfl, rfl, rfl, rfl, rfl, rfl, rfl, (congrArg (fun b => some (Value.bool b)) (Bool.and_true _).symm), rfl, trivial⟩)
     rintro j hj
     refine s8 ?_
     refine JL_dec (fun h63 => ?_) (fun h63 => ?_)
     ·refine s7 ?_
      cases hb : (decide (cf ≤ ed ∧ ed ≤ ct) && (fl.take j).all (fun x => decide (x ∈ K.reverse)))
      ·have hltz : j < fl.length := by omega
       obtain ⟨bqz, pqz, rfl, hhf⟩ := hfA (by intro e; subst e; simp at hltz)
       obtain ⟨z, hz⟩ : ∃ y, fl[j]'hltz = y := ⟨_, rfl⟩
       have hmz : z ∈ fl := by rw [← hz]; exact List.getElem_mem _
       refine kJ [(0, _), (1, _), (3, _), (4, _), (14, _), (15, _), (16, _), (17, _), (18, _), (19, _)] ?_
       refine s15 ?_
       refine kJ [(0, _), (1, _), (3, _), (4, _), (14, _), (15, _), (16, _), (17, _), (18, _), (19, _)] ?_
       refine s5 ?_
       have hs : (decide (cf ≤ ed ∧ ed ≤ ct) && (fl.take (j + 1)).all (fun x => decide (x ∈ K.reverse))) = ((decide (cf ≤ ed ∧ ed ≤ ct) && (fl.take j).all (fun x => decide (x ∈ K.reverse))) && decide (z ∈ K.reverse)) := by rw [List.take_succ_eq_append_getElem hltz, List.all_append, hz]; simp [Bool.and_assoc]
       rw [hb, Bool.false_and] at hs
       exact xR (j + 1) (by omega) (by omega) (hl := ⟨rfl, rfl, rfl, rfl, rfl, rfl, rfl, rfl, (by rw [hs]; rfl), (congrArg some (by go_num)), trivial⟩)
      ·have hltz : j < fl.length := by omega
       obtain ⟨bqz, pqz, rfl, hhf⟩ := hfA (by intro e; subst e; simp at hltz)
       obtain ⟨z, hz⟩ : ∃ y, fl[j]'hltz = y := ⟨_, rfl⟩
       have hmz : z ∈ fl := by rw [← hz]; exact List.getElem_mem _
       refine kJ [(0, _), (1, _), (3, _), (4, _), (14, _), (15, _), (16, _), (17, _), (18, _), (19, _)] ?_
       refine s8 ?_
       refine aV (vHold rfl rfl (fun h => h) hhf hltz (by omega) (by rw [hz]; rfl)) ?_
       refine aCB (fun w hw => Has22 K.reverse z _ w (own_arr ES hw (by repeat constructor) (by rw [List.length_reverse]; omega))) ?_
       refine s5 ?_
       refine kJ [(0, _), (1, _), (3, _), (4, _), (14, _), (15, _), (16, _), (17, _), (18, _), (19, _)] ?_
       refine s5 ?_
       have hs : (decide (cf ≤ ed ∧ ed ≤ ct) && (fl.take (j + 1)).all (fun x => decide (x ∈ K.reverse))) = ((decide (cf ≤ ed ∧ ed ≤ ct) && (fl.take j).all (fun x => decide (x ∈ K.reverse))) && decide (z ∈ K.reverse)) := by rw [List.take_succ_eq_append_getElem hltz, List.all_append, hz]; simp [Bool.and_assoc]
       rw [hb, Bool.true_and] at hs
       exact xR (j + 1) (by omega) (by omega) (hl := ⟨rfl, rfl, rfl, rfl, rfl, rfl, rfl, rfl, (by rw [hs]; rfl), (congrArg some (by go_num)), trivial⟩)
     ·refine s10 ?_
      obtain rfl : j = fl.length := by omega
      rw [List.take_length]
      refine kJ [(0, _), (1, _), (3, _), (4, _), (14, _), (15, _), (16, _), (17, _), (18, _)] ?_
      refine s5 ?_
      refine xL (T := Nat) (fun j => j ≤ ul.length) (fun j => [(1, .int .i64 ed), (4, .string x), (14, .slice sA (hldM Bk ed fl0).S.reverse.length sc), (0, .slice (some ⟨bB, pB, none⟩) Bk.length c), (3, .slice (some ⟨bqy, pqy, none⟩) l.length lc), (15, .slice kA K.reverse.length kc), (16, .int .i64 (k : Nat)), (17, .pointer (some ⟨b17, 0, none⟩)), (18, .bool ((decide (cf ≤ ed ∧ ed ≤ ct) && fl.all (fun x => decide (x ∈ K.reverse))) && (ul.take j).all (fun x => !decide (x ∈ (hldM Bk ed fl0).S.reverse)))), (20, .int .i64 (j : Nat))]) (fun j => [ownB 9 1 kA K.reverse.length kc (K.reverse.flatMap eS), ownB 9 1 sA (hldM Bk ed fl0).S.reverse.length sc ((hldM Bk ed fl0).S.reverse.flatMap eS), cellB b17 [.string cn, .int .i64 cf, .int .i64 ct, .slice fA fl.length fc, .slice uA ul.length uc, .string th] 40]) (fun j => ul.length - j) 0 (Nat.zero_le _) ?_ (hl := ⟨rfl, rfl, rfl, rfl, rfl, rfl, rfl, rfl, (congrArg (fun b => some (Value.bool b)) (Bool.and_true _).symm), rfl, trivial⟩)
      rintro j hj
      refine s8 ?_
      refine JL_dec (fun h80 => ?_) (fun h80 => ?_)
      ·refine s7 ?_
       cases hb : ((decide (cf ≤ ed ∧ ed ≤ ct) && fl.all (fun x => decide (x ∈ K.reverse))) && (ul.take j).all (fun x => !decide (x ∈ (hldM Bk ed fl0).S.reverse)))
       ·have hltz : j < ul.length := by omega
        obtain ⟨bqz, pqz, rfl, hhu⟩ := huA (by intro e; subst e; simp at hltz)
        obtain ⟨z, hz⟩ : ∃ y, ul[j]'hltz = y := ⟨_, rfl⟩
        have hmz : z ∈ ul := by rw [← hz]; exact List.getElem_mem _
        refine kJ [(0, _), (1, _), (3, _), (4, _), (14, _), (15, _), (16, _), (17, _), (18, _), (20, _)] ?_
        refine s16 ?_
        refine kJ [(0, _), (1, _), (3, _), (4, _), (14, _), (15, _), (16, _), (17, _), (18, _), (20, _)] ?_
        refine s5 ?_
        have hs : ((decide (cf ≤ ed ∧ ed ≤ ct) && fl.all (fun x => decide (x ∈ K.reverse))) && (ul.take (j + 1)).all (fun x => !decide (x ∈ (hldM Bk ed fl0).S.reverse))) = (((decide (cf ≤ ed ∧ ed ≤ ct) && fl.all (fun x => decide (x ∈ K.reverse))) && (ul.take j).all (fun x => !decide (x ∈ (hldM Bk ed fl0).S.reverse))) && !decide (z ∈ (hldM Bk ed fl0).S.reverse)) := by rw [List.take_succ_eq_append_getElem hltz, List.all_append, hz]; simp [Bool.and_assoc]
        rw [hb, Bool.false_and] at hs
        exact xR (j + 1) (by omega) (by omega) (hl := ⟨rfl, rfl, rfl, rfl, rfl, rfl, rfl, rfl, (by rw [hs]; rfl), (congrArg some (by go_num)), trivial⟩)
       ·have hltz : j < ul.length := by omega
        obtain ⟨bqz, pqz, rfl, hhu⟩ := huA (by intro e; subst e; simp at hltz)
        obtain ⟨z, hz⟩ : ∃ y, ul[j]'hltz = y := ⟨_, rfl⟩
        have hmz : z ∈ ul := by rw [← hz]; exact List.getElem_mem _
        refine kJ [(0, _), (1, _), (3, _), (4, _), (14, _), (15, _), (16, _), (17, _), (18, _), (20, _)] ?_
        refine s8 ?_
        refine aV (vHold rfl rfl (fun h => h) hhu hltz (by omega) (by rw [hz]; rfl)) ?_
        refine aCB (fun w hw => Has22 (hldM Bk ed fl0).S.reverse z _ w (own_arr ES hw (by repeat constructor) (by rw [List.length_reverse]; omega))) ?_
        refine s6 ?_
        refine kJ [(0, _), (1, _), (3, _), (4, _), (14, _), (15, _), (16, _), (17, _), (18, _), (20, _)] ?_
        refine s5 ?_
        have hs : ((decide (cf ≤ ed ∧ ed ≤ ct) && fl.all (fun x => decide (x ∈ K.reverse))) && (ul.take (j + 1)).all (fun x => !decide (x ∈ (hldM Bk ed fl0).S.reverse))) = (((decide (cf ≤ ed ∧ ed ≤ ct) && fl.all (fun x => decide (x ∈ K.reverse))) && (ul.take j).all (fun x => !decide (x ∈ (hldM Bk ed fl0).S.reverse))) && !decide (z ∈ (hldM Bk ed fl0).S.reverse)) := by rw [List.take_succ_eq_append_getElem hltz, List.all_append, hz]; simp [Bool.and_assoc]
        rw [hb, Bool.true_and] at hs
        exact xR (j + 1) (by omega) (by omega) (hl := ⟨rfl, rfl, rfl, rfl, rfl, rfl, rfl, rfl, (by rw [hs]; rfl), (congrArg some (by go_num)), trivial⟩)
      ·refine s10 ?_
       obtain rfl : j = ul.length := by omega
       have hokc : okC ed (hldM Bk ed fl0).S.reverse K.reverse ⟨cn, cf, ct, ⟨fA, fl.length, fc, fl⟩, ⟨uA, ul.length, uc, ul⟩, th⟩ = ((decide (cf ≤ ed ∧ ed ≤ ct) && fl.all (fun x => decide (x ∈ K.reverse))) && (ul.take ul.length).all (fun x => !decide (x ∈ (hldM Bk ed fl0).S.reverse))) := by unfold okC; rw [List.take_length]
       cases hb : ((decide (cf ≤ ed ∧ ed ≤ ct) && fl.all (fun x => decide (x ∈ K.reverse))) && (ul.take ul.length).all (fun x => !decide (x ∈ (hldM Bk ed fl0).S.reverse)))
       ·have hfin' := hokc.trans hb
        refine kJ [(0, _), (1, _), (3, _), (4, _), (14, _), (15, _), (16, _), (17, _), (18, _)] ?_
        refine s7 ?_
        refine kJ [(16, _)] ?_
        refine s14 ?_
        refine JR_three rfl (rr_tmp rfl) (rr_tmp rfl) (rr_tmp rfl) ?_
        intro w' hw
        exact ⟨by unfold prvR prvQ; rw [hq]; dsimp only; rw [if_pos h29, if_pos h33]; dsimp only; rw [hpr, prv_s hlty hlt hy hc, if_neg (by rw [← okC_rev]; intro h; rw [hfin'] at h; cases h)]; rfl, hw.bel⟩
       ·have hfin := hokc.trans hb
        refine kJ [(0, _), (1, _), (3, _), (4, _), (14, _), (15, _), (16, _), (17, _), (18, _)] ?_
        refine s8 ?_
        have hKl2 : K.reverse.length ≤ 200 := by rw [List.length_reverse]; omega
        refine s4 ?_
        refine aW (ow_sliceC (vs := [_]) (ty := 9) rfl rfl (by rfl) rfl rfl (fun _ => by kernel_rfl)) (fun b100 hb100 => ?_)
        refine aS (oApp (sl := 23) ES (th)) (fun A101 c101 => ?_)
        refine s4 ?_
        refine kJ [(0, _), (1, _), (3, _), (4, _), (14, _), (15, _), (16, _)] ?_
        refine s5 ?_
        have hrev : (th :: K).reverse = K.reverse ++ [th] := List.reverse_cons
        have hn : prv Bk ed (hldM Bk ed fl0).S l 0 fl0.reverse = prv Bk ed (hldM Bk ed fl0).S (l.drop (k + 1)) (k + 1) (th :: K) := by rw [hpr, prv_s hlty hlt hy hc, if_pos (by rw [← okC_rev]; exact hfin)]
        exact xR (k + 1, th :: K, A101, c101) ⟨by dsimp only; omega, hn, by dsimp only [List.length_cons]; omega⟩ (by dsimp only; omega) (hl := ⟨rfl, rfl, rfl, rfl, rfl, (by dsimp only; rw [hrev]; rfl), (congrArg some (by go_num)), trivial⟩) (hH := by (try dsimp only); rw [hrev]; repeat constructor)
    ·refine s9 ?_
     refine kJ [(4, _), (15, _)] ?_
     refine s3 ?_
     refine aCB (fun w hw => Has22 K.reverse x _ w (own_arr ES hw (by repeat constructor) (by rw [List.length_reverse]; omega))) ?_
     refine s6 ?_
     refine JR_three rfl (rr_tmp rfl) (rr_tmp rfl) (rr_tmp rfl) ?_
     intro w' hw
     obtain rfl : k = l.length := by omega
     exact ⟨by unfold prvR prvQ; rw [hq]; dsimp only; rw [if_pos h29, if_pos h33]; dsimp only; rw [hpr, List.drop_length]; unfold prv prvV; dsimp only; simp only [List.mem_reverse], hw.bel⟩
   ·refine s5 ?_
    refine kJ [] ?_
    refine s8 ?_
    refine JR_three rfl (rr_tmp rfl) (rr_tmp rfl) (rr_tmp rfl) ?_
    intro w' hw
    exact ⟨by unfold prvR prvQ; rw [hq]; dsimp only; rw [if_pos h29, if_neg (by rw [h33]; decide)], hw.bel⟩
  ·refine s5 ?_
   refine kJ [] ?_
   refine s8 ?_
   refine JR_three rfl (rr_tmp rfl) (rr_tmp rfl) (rr_tmp rfl) ?_
   intro w' hw
   exact ⟨by unfold prvR prvQ; rw [hq]; dsimp only; rw [if_neg (by rw [h29]; decide)], hw.bel⟩
 ·refine s4 ?_
  refine aCB (fun w hw => asked_no hok (hbk.up hw.bel) (hfl.up ES hw.bel) hq) ?_
  refine s5 ?_
  refine kJ [(0, _), (1, _), (2, _), (3, _), (4, _), (13, _)] ?_
  refine s3 ?_
  refine aDecT ?_ (by exact hld_ne hq)
  refine s4 ?_
  refine kJ [(13, _)] ?_
  refine s9 ?_
  refine JR_three rfl (rr_tmp rfl) (rr_tmp rfl) (rr_tmp rfl) ?_
  intro w' hw
  exact ⟨by unfold prvR prvQ; rw [hq], hw.bel⟩
end Go.Proofs.YtjkolebffbeeeaaGreatDoor
