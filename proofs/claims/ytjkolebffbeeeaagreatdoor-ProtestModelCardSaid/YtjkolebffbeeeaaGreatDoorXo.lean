/- The law: Model. -/
import Derived.Test.YtjkolebffbeeeaaGreatDoorXn
namespace Go.Proofs.YtjkolebffbeeeaaGreatDoor
open Go Go.RowKit Go.Proofs
attribute [local irreducible] J JQ JL JA JD

theorem pConv8 {P : Program} {n : Nat} {l : Sl} {o : Oper} {s d : TypeId} {x : Operand} {a : Int} [us : Und P s (.int .u8)] [ud : Und P d (.int .i64)] (ho : o.op = .convert s d x) (hx : evl l x = some (.int .u8 a)) (ha : U8 a) : RP P n l o (.int .i64 a) := rp1 hx (fun _ h1 _ => ex_conv8 ho h1 ha)
theorem pNeqB {P : Program} {n : Nat} {l : Sl} {o : Oper} {t ty : TypeId} {x y : Operand} {a b : Bool} [u : Und P t .bool] (ho : o.op = .binOp .neq t x y ty) (hx : evl l x = some (.bool a)) (hy : evl l y = some (.bool b)) : RP P n l o (.bool (decide (a ≠ b))) := rp2 hx hy (fun ρ h1 h2 w => by
 have e : decide (a ≠ b) = !(a == b) := by cases a <;> cases b <;> rfl
 rw [e]
 unfold execOp
 simp only [ho, h1, h2]
 have hu := u.h
 go_simp)
theorem JD_fact {ord : List Nat} {P : Program} {n : Nat} {B : Bs} {ops : Array Oper} {Q : Exit → Act → World → Prop} {ld : List Nat} {H0 : List It} {lx : List Nat} {Hx : List It} {fuel : Nat} {listed : Array Bool} {l : Sl} {H : List It} (h : (∃ w, Wd B H w) → JD ord P n B ops Q ld H0 lx Hx fuel listed l H) : JD ord P n B ops Q ld H0 lx Hx fuel listed l H := by
 unfold JD at h ⊢; exact JA_fact h
theorem sop_self {S L : List ByteArray} (h : SoP S L) : risF L = L := up_uniq (sop_ris L).up h.up (fun x => (sop_ris L).mem x)
theorem fct_in {Bk : List Cl} {ed : Int} {fl0 : List ByteArray} {x : ByteArray} (h : x ∈ fl0) : x ∈ (hldM Bk ed fl0).S := by
 obtain ⟨P, hm⟩ := hld_MI (Bk := Bk) (ed := ed) (fl0 := fl0)
 rw [hm.s]; exact knO_mem.2 (.inr h)
/-- What one round makes. -/
def madL (ed : Int) (L : List ByteArray) (l : List Cl) : List ByteArray := (l.filter (fun c => firR ed L c)).map (fun c => c.th)
theorem madL_s {ed : Int} {L : List ByteArray} {l : List Cl} {k : Nat} {c : Cl} (h : k < l.length) (hc : l[k]'h = c) : madL ed L (l.take (k + 1)) = if firR ed L c = true then madL ed L (l.take k) ++ [c.th] else madL ed L (l.take k) := by
 unfold madL; rw [List.take_succ_eq_append_getElem h, List.filter_append, hc]
 by_cases e : firR ed L c = true
 ·rw [if_pos e, List.filter_cons, if_pos e]; simp
 ·rw [if_neg e, List.filter_cons, if_neg e]; simp
theorem madL_len (ed : Int) (L : List ByteArray) (l : List Cl) (k : Nat) : (madL ed L (l.take k)).length ≤ k := by
 unfold madL; rw [List.length_map]; exact Nat.le_trans (List.length_filter_le _ _) (List.length_take_le _ _)
theorem madL_mem {ed : Int} {L : List ByteArray} {l : List Cl} {x : ByteArray} : x ∈ madL ed L l ↔ ∃ c ∈ l, firR ed L c = true ∧ c.th = x := by
 unfold madL; simp only [List.mem_map, List.mem_filter]
 exact ⟨fun ⟨c, ⟨h1, h2⟩, h3⟩ => ⟨c, h1, h2, h3⟩, fun ⟨c, h1, h2, h3⟩ => ⟨c, ⟨h1, h2⟩, h3⟩⟩
theorem firR_same {ed : Int} {L S : List ByteArray} (h : ∀ x, x ∈ L ↔ x ∈ S) (c : Cl) : firR ed L c = firR ed S c := by
 unfold firR; simp only [h]
theorem mad_in {Bk : List Cl} {ed : Int} {fl0 L : List ByteArray} (hb : bndF Bk = none) (hL : SoP (hldM Bk ed fl0).S L) : ∀ x ∈ madL ed L Bk, x ∈ L := fun x hx => by
 obtain ⟨c, h1, h2, rfl⟩ := madL_mem.1 hx
 rw [firR_same hL.mem] at h2
 exact (hL.mem _).2 (hld_closed hb h1 h2)
theorem all_in {Bk : List Cl} {ed : Int} {fl0 L : List ByteArray} (hb : bndF Bk = none) (hL : SoP (hldM Bk ed fl0).S L) : ∀ x ∈ L, x ∈ fl0 ++ madL ed L Bk := fun x hx => by
 have hS := (hL.mem x).1 hx
 obtain ⟨P, hm⟩ := hld_MI (Bk := Bk) (ed := ed) (fl0 := fl0)
 rw [hm.s] at hS
 rcases knO_mem.1 hS with ⟨i, hi, rfl⟩ | h
 ·obtain ⟨j, c, rfl, hj, hf⟩ := hld_fir (ed := ed) (fl0 := fl0) hb i (by rw [hm.o]; exact List.mem_reverse.2 hi)
  rw [thO_j hj]
  exact List.mem_append_right _ (madL_mem.2 ⟨c, List.mem_of_getElem? hj, by rw [firR_same hL.mem]; exact hf, rfl⟩)
 ·exact List.mem_append_left _ h
theorem les_nil {l m : List ByteArray} (h : ∀ x ∈ l, x ∈ m) : lesL l m = [] := by
 unfold lesL
 rw [List.filter_eq_nil_iff]
 intro x hx
 rw [decide_eq_true (h x hx)]; decide
theorem hld_nm {Bk : List Cl} {ed : Int} {fl0 : List ByteArray} (hb : bndF Bk = none) (hk : askB ed fl0 = true) {x : ByteArray} (hx : x ∈ (hldM Bk ed fl0).S) : nameB x = true := by
 rcases madF_mem _ _ _ _ _ x hx with h | ⟨c, hc, rfl⟩
 ·unfold askB at hk; rw [Bool.and_eq_true] at hk
  have h2 := hk.2; unfold namesB at h2; rw [Bool.and_eq_true] at h2
  exact ris_nm h2.1 x (List.mem_reverse.1 h)
 ·have := bnd_cl hb c hc
  unfold clB at this
  simp only [Bool.and_eq_true] at this
  exact this.1.1.1.1.1.2
theorem hld_len2 {Bk : List Cl} {ed : Int} {fl0 : List ByteArray} : (hldM Bk ed fl0).S.length ≤ Bk.length + fl0.length := by
 have key : ∀ k, (madF Bk (lvOf Bk) ed k ⟨fl0.reverse, fun _ => none, []⟩).S.length + muS Bk (madF Bk (lvOf Bk) ed k ⟨fl0.reverse, fun _ => none, []⟩).S ≤ Bk.length + fl0.length := by
  intro k
  induction k with
  | zero => have := muS_0 Bk fl0.reverse; show fl0.reverse.length + muS Bk fl0.reverse ≤ _; rw [List.length_reverse]; omega
  | succ k ih =>
   rw [madF_s]; unfold levF
   have hr : ∀ (j : Nat) (m : MS), (rndF Bk (lvOf Bk) k ed j m).S.length + muS Bk (rndF Bk (lvOf Bk) k ed j m).S ≤ m.S.length + muS Bk m.S := by
    intro j
    induction j with
    | zero => intro m; exact Nat.le_refl _
    | succ j ihj =>
     intro m; unfold rndF; split
     ·exact Nat.le_refl _
     ·exact Nat.le_trans (ihj _) (mkL_cnt _ _)
   exact Nat.le_trans (hr _ _) ih
 have := key (Bk.length + 1)
 unfold hldM; omega
theorem why_len2 (Bk : List Cl) (ed : Int) (fl0 : List ByteArray) (x : ByteArray) : (whyP Bk (hldM Bk ed fl0) x).length ≤ Bk.length := by
 have h1 : (whyP Bk (hldM Bk ed fl0) x).length ≤ (hldM Bk ed fl0).O.length := List.length_filter_le _ _
 obtain ⟨P, h⟩ := hld_MI (Bk := Bk) (ed := ed) (fl0 := fl0)
 have h2 := hld_len2 (Bk := Bk) (ed := ed) (fl0 := fl0)
 rw [h.s] at h2
 rw [h.o, List.length_reverse] at h1
 unfold knO at h2
 rw [List.length_append, List.length_map, List.length_reverse] at h2
 omega
theorem why_inB {Bk : List Cl} {ed : Int} {fl0 : List ByteArray} {x : ByteArray} {l : List Int} (h : ∀ i ∈ l, i ∈ whyP Bk (hldM Bk ed fl0) x) : l.all (inB Bk) = true := by
 rw [List.all_eq_true]
 intro i hi
 obtain ⟨j, hj, rfl⟩ := hld_O Bk ed fl0 i (List.mem_filter.1 (h i hi)).1
 unfold inB; rw [decide_eq_true_eq]; omega
theorem prvQ_none {Bk : List Cl} {ed : Int} {fl0 : List ByteArray} {x : ByteArray} {l : List Int} (hk : hldQ Bk ed fl0 = none) (hx : nameB x = true) (hl : l.all (inB Bk) = true) : prvQ Bk ed fl0 x l = none := by
 unfold prvQ; rw [hk]; dsimp only; rw [if_pos hx, if_pos hl]
/-- A derivation proves its claim. -/
theorem why_pr {Bk : List Cl} {ed : Int} {fl0 : List ByteArray} {x : ByteArray} (hk : hldQ Bk ed fl0 = none) (hx : x ∈ (hldM Bk ed fl0).S) : prvR Bk ed fl0 x (whyP Bk (hldM Bk ed fl0) x) = .tuple #[.bool true, .int .i64 (-1), .int .i64 0] := by
 obtain ⟨hb, hak⟩ := hld_parts hk
 obtain ⟨K, h1, h2⟩ := why_prv hb hx
 unfold prvR
 rw [prvQ_none hk (hld_nm hb hak hx) (why_inB (fun _ h => h))]
 dsimp only
 rw [h1]
 show Value.tuple #[.bool (decide (x ∈ K)), .int .i64 (-1), .int .i64 0] = _
 rw [decide_eq_true h2]
/-- No step can be left out. -/
theorem why_sh {Bk : List Cl} {ed : Int} {fl0 : List ByteArray} {x : ByteArray} {k : Nat} (hk : hldQ Bk ed fl0 = none) (hx : x ∈ (hldM Bk ed fl0).S) (hl : k < (whyP Bk (hldM Bk ed fl0) x).length) : ∃ b, prvR Bk ed fl0 x ((whyP Bk (hldM Bk ed fl0) x).take k ++ (whyP Bk (hldM Bk ed fl0) x).drop (k + 1)) = .tuple #[.bool false, .int .i64 b, .int .i64 0] := by
 obtain ⟨hb, hak⟩ := hld_parts hk
 unfold prvR
 rw [prvQ_none hk (hld_nm hb hak hx) (why_inB (fun i hi => by
  rcases List.mem_append.1 hi with h | h
  ·exact List.mem_of_mem_take h
  ·exact List.mem_of_mem_drop h))]
 dsimp only
 cases hp : prv Bk ed (hldM Bk ed fl0).S ((whyP Bk (hldM Bk ed fl0) x).take k ++ (whyP Bk (hldM Bk ed fl0) x).drop (k + 1)) 0 fl0.reverse with
 | mk r K =>
  cases r with
  | some j => exact ⟨_, rfl⟩
  | none =>
   have h := why_min hl hp
   refine ⟨-1, ?_⟩
   show Value.tuple #[.bool (decide (x ∈ K)), .int .i64 (-1), .int .i64 0] = _
   rw [decide_eq_false h]
theorem mod_nat (a : Int) {n : Nat} (h : 0 < n) : ∃ r : Nat, a % ((n : Nat) : Int) = (r : Nat) ∧ r < n := by
 have h1 := Int.emod_nonneg a (b := ((n : Nat) : Int)) (by omega)
 have h2 := Int.emod_lt_of_pos a (b := ((n : Nat) : Int)) (by omega)
 exact ⟨(a % ((n : Nat) : Int)).toNat, by omega, by omega⟩
set_option maxRecDepth 100000 in
set_option maxHeartbeats 4000000 in
theorem Model_law (Bk : List Cl) (A : Option Addr) (c : Nat) (ed : Int) (fl0 : List ByteArray) (fA0 : Option Addr) (fc0 : Nat) (wh le : Int) (w : World) (hbk : BkW w Bk A c) (hfl : Arr 1 eS w (.slice fA0 fl0.length fc0) fl0) (hwh : U8 wh) (hle8 : U8 le) : Calls Tryz.prog 4 #[.slice A Bk.length c, .int .i64 ed, .slice fA0 fl0.length fc0, .int .u8 wh, .int .u8 le] w (Back (.bool true) w) := by
 obtain ⟨hBb, hBA⟩ := arr_partsC hbk.row
 refine J_enter (fun _ => False) (vs := [.slice A Bk.length c, .int .i64 ed, .slice fA0 fl0.length fc0, .int .u8 wh, .int .u8 le]) (k := 177) (l := [(0, .slice A Bk.length c), (1, .int .i64 ed), (2, .slice fA0 fl0.length fc0), (3, .int .u8 wh), (4, .int .u8 le)]) Tryz.func4 rfl rfl Tryz.ntmps4 rfl rfl (Wd.start _) ?_
 refine s7 ?_
 rcases Bool.eq_false_or_eq_true (greB Bk fl0) with hgr | hgr
 ·refine s3 ?_
  refine aCB (fun w hw => great10 Bk A c fl0 fA0 fc0 w (hbk.up hw.bel).row (hbk.up hw.bel).cl (hfl.up ES hw.bel)) ?_
  refine aBoolT ?_ hgr
  refine s4 ?_
  refine kJ [] ?_
  refine s1 ?_
  refine aCB (fun w hw => awake11 w) ?_
  refine s5 ?_
  refine JR_one rfl (rr_tmp rfl) ?_
  intro w' hw
  exact ⟨rfl, hw.bel⟩
 ·obtain ⟨hB70, hf70, hs100⟩ := gre_parts hgr
  have hok := ok_100 hs100
  refine s3 ?_
  refine aCB (fun w hw => great10 Bk A c fl0 fA0 fc0 w (hbk.up hw.bel).row (hbk.up hw.bel).cl (hfl.up ES hw.bel)) ?_
  refine aBoolF ?_ hgr
  refine s6 ?_
  obtain hhq | ⟨ha, hn, hhq⟩ := opt2 (hldQ Bk ed fl0)
  ·obtain ⟨hb, hak⟩ := hld_parts hhq
   have h64 := bnd_64 hb
   have hf64 := ask_64 hak
   have hl128 := hld_len (ed := ed) h64 hf64
   refine kJ [(0, _), (1, _), (2, _), (3, _), (4, _)] ?_
   refine s4 ?_
   refine aW (oR (fun w hw => hld16_yes hok (hbk.up hw.bel) (hfl.up ES hw.bel) hhq)) (fun t31 ht31 => ?_)
   obtain ⟨L31, A31, c31⟩ := t31
   dsimp only [List.cons_append, List.nil_append]
   dsimp only at ht31
   have hl31 := ht31.len
   refine s9 ?_
   refine kJ [(0, _), (1, _), (2, _), (3, _), (4, _), (11, _), (12, _)] ?_
   refine s3 ?_
   refine aDecF ?_ (by decide)
   refine s9 ?_
   refine aS (oS (fun w hw => Rising18 L31 A31 c31 w (own_arr (A := A31) (c := c31) (L := L31) ES hw (by repeat constructor) (by omega)) (by omega))) (fun A43 c43 => ?_)
   rw [sop_self ht31]
   refine s1 ?_
   refine aCB (fun w hw => Same17 L31 L31 _ _ w (own_arr (A := A43) (c := c43) (L := L31) ES hw (by repeat constructor) (by omega)) (own_arr (A := A31) (c := c31) (L := L31) ES hw (by repeat constructor) (by omega))) ?_
   refine aDecT ?_ rfl
   refine s4 ?_
   refine aS (oS (fun w hw => Less19 fl0 L31 fA0 fc0 _ w (hfl.up ES hw.bel) (own_arr (A := A31) (c := c31) (L := L31) ES hw (by repeat constructor) (by omega)) (by omega))) (fun A50 c50 => ?_)
   have hl50 : lesL fl0 L31 = [] := les_nil (fun s hs => (ht31.mem s).2 (fct_in hs))
   refine s2 ?_
   refine aDecF ?_ (by rw [hl50]; decide)
   refine s7 ?_
   refine kJ [(0, _), (1, _), (2, _), (3, _), (4, _), (11, _)] ?_
   refine s6 ?_
   refine J_own0 9 1 ?_
   refine s5 ?_
   refine xL (T := Nat × Option Addr × Nat) (fun q => q.1 ≤ Bk.length) (fun q => [(0, .slice A Bk.length c), (1, .int .i64 ed), (2, .slice fA0 fl0.length fc0), (3, .int .u8 wh), (4, .int .u8 le), (11, .slice A31 L31.length c31), (13, .slice q.2.1 (madL ed L31 (Bk.take q.1)).length q.2.2), (14, .int .i64 (q.1 : Nat))]) (fun q => [ownB 9 1 q.2.1 (madL ed L31 (Bk.take q.1)).length q.2.2 ((madL ed L31 (Bk.take q.1)).flatMap eS), ownB 9 1 A31 (L31).length c31 ((L31).flatMap eS)]) (fun q => Bk.length - q.1) (0, none, 0) (Nat.zero_le _) ?_
   rintro ⟨k, mdA, mdc⟩ hk
   dsimp only at hk ⊢
   have hml := madL_len ed L31 Bk k
   refine s7 ?_
   refine JL_dec (fun h57 => ?_) (fun h57 => ?_)
   ·refine s8 ?_
    have hlt : k < Bk.length := by omega
    obtain ⟨bB, pB, rfl, hhB⟩ := hBA (by intro e; subst e; simp at hlt)
    obtain ⟨⟨cn, cf, ct, ⟨fA, fn, fc, fl⟩, ⟨uA, un, uc, ul⟩, th⟩, hc⟩ : ∃ c, Bk[k]'hlt = c := ⟨_, rfl⟩
    have hcm : (⟨cn, cf, ct, ⟨fA, fn, fc, fl⟩, ⟨uA, un, uc, ul⟩, th⟩ : Cl) ∈ Bk := by rw [← hc]; exact List.getElem_mem _
    obtain ⟨hfs, hus, hfk, huk, hnk, htk⟩ := hbk.cl _ hcm
    obtain rfl : fn = fl.length := dv_nc hfs
    obtain rfl : un = ul.length := dv_nc hus
    dsimp only [Dv.v] at hfs hus hfk huk hnk htk
    obtain ⟨hfb, hfA⟩ := arr_parts hfs
    obtain ⟨hub, huA⟩ := arr_parts hus
    refine kJ [(0, _), (1, _), (2, _), (3, _), (4, _), (11, _), (13, _), (14, _)] ?_
    refine s4 ?_
    refine aV (vHoldA (cs := [.string cn, .int .i64 cf, .int .i64 ct, .slice fA fl.length fc, .slice uA ul.length uc, .string th]) EC6 rfl rfl (fun h => h) hhB hlt (by rw [hc]; rfl)) ?_
    refine s2 ?_
    refine aCB (fun w hw => Fires20 (⟨cn, cf, ct, ⟨fA, fl.length, fc, fl⟩, ⟨uA, ul.length, uc, ul⟩, th⟩ : Cl) ed L31 _ w ((hbk.cl _ hcm).up hw.bel) (own_arr (A := A31) (c := c31) (L := L31) ES hw (by repeat constructor) (by omega))) ?_
    refine JL_bool (fun h66 => ?_) (fun h66 => ?_)
    ·refine s3 ?_
     refine kJ [(0, _), (1, _), (2, _), (3, _), (4, _), (11, _), (13, _), (14, _)] ?_
     refine s6 ?_
     refine aV (vHold (v := .string th) rfl rfl (fun h => h) hhB hlt (by omega) (by rw [hc]; rfl)) ?_
     refine aW (ow_sliceC (vs := [_]) (ty := 9) rfl rfl (by rfl) rfl rfl (fun _ => by kernel_rfl)) (fun b73 hb73 => ?_)
     refine aS (oApp (sl := 23) ES (th)) (fun A74 c74 => ?_)
     refine s4 ?_
     refine kJ [(0, _), (1, _), (2, _), (3, _), (4, _), (11, _), (13, _), (14, _)] ?_
     refine s5 ?_
     have hs : madL ed L31 (Bk.take (k + 1)) = madL ed L31 (Bk.take k) ++ [th] := by rw [madL_s hlt hc, if_pos h66]
     exact xR (k + 1, A74, c74) (by dsimp only; omega) (by dsimp only; omega) (hl := ⟨rfl, rfl, rfl, rfl, rfl, rfl, (by dsimp only; rw [hs]; rfl), (congrArg some (by go_num)), trivial⟩) (hH := by (try dsimp only); rw [hs]; repeat constructor)
    ·refine s6 ?_
     refine kJ [(0, _), (1, _), (2, _), (3, _), (4, _), (11, _), (13, _), (14, _)] ?_
     refine s5 ?_
     have hs : madL ed L31 (Bk.take (k + 1)) = madL ed L31 (Bk.take k) := by rw [madL_s hlt hc, if_neg (by rw [h66]; decide)]
     exact xR (k + 1, mdA, mdc) (by dsimp only; omega) (by dsimp only; omega) (hl := ⟨rfl, rfl, rfl, rfl, rfl, rfl, (by dsimp only; rw [hs]; rfl), (congrArg some (by go_num)), trivial⟩) (hH := by (try dsimp only); rw [hs]; repeat constructor)
   ·refine s10 ?_
    obtain rfl : k = Bk.length := by omega
    rw [List.take_length]
    rw [List.take_length] at hml
    refine kJ [(0, _), (1, _), (2, _), (3, _), (4, _), (11, _), (13, _)] ?_
    refine s3 ?_
    refine aS (oS (fun w hw => Less19 (madL ed L31 Bk) L31 _ _ _ w (own_arr (A := mdA) (c := mdc) (L := (madL ed L31 Bk)) ES hw (by repeat constructor) (by omega)) (own_arr (A := A31) (c := c31) (L := L31) ES hw (by repeat constructor) (by omega)) (by omega))) (fun A77 c77 => ?_)
    have hl77 : lesL (madL ed L31 Bk) L31 = [] := les_nil (mad_in hb ht31)
    refine s2 ?_
    refine aDecF ?_ (by rw [hl77]; decide)
    refine s2 ?_
    refine aW (ow_slice0 (k := 1) (ty := 9) rfl rfl rfl (fun _ => by kernel_rfl)) (fun b82 hb82 => ?_)
    refine s1 ?_
    refine aS (oAppX (sl := 23) ES ([] : List ByteArray) fl0 (fun w hw => hfl.up ES hw.bel) rfl (Nat.le_refl _) (hl := by rw [List.length_nil]; omega)) (fun A84 c84 => ?_)
    rw [List.nil_append]
    refine JL_fact (fun hw => ?_)
    have hc84 := (own_cn hw (ty := 9) (k := 1) (m := fl0.length) (c := c84) (A := A84) (xs := fl0.flatMap eS) (by repeat constructor)).1.1
    clear hw
    refine s1 ?_
    refine aS (oAppX (sl := 23) ES fl0 (madL ed L31 Bk) (fun w hw => own_arr (A := mdA) (c := mdc) ES hw (by repeat constructor) (by omega)) rfl hc84 (hl := by omega)) (fun A86 c86 => ?_)
    refine aS (oS (fun w hw => Less19 L31 (fl0 ++ (madL ed L31 Bk)) _ _ _ w (own_arr (A := A31) (c := c31) (L := L31) ES hw (by repeat constructor) (by omega)) (own_arr (A := A86) (c := c86) ES hw (by repeat constructor) (by rw [List.length_append]; omega)) (by omega))) (fun A87 c87 => ?_)
    have hl87 : lesL L31 (fl0 ++ (madL ed L31 Bk)) = [] := les_nil (all_in hb ht31)
    refine s2 ?_
    refine aDecF ?_ (by rw [hl87]; decide)
    refine s8 ?_
    refine kJ [(0, _), (1, _), (2, _), (3, _), (4, _), (11, _)] ?_
    refine s4 ?_
    refine JL_dec (fun h93 => ?_) (fun h93 => ?_)
    ·refine s4 ?_
     refine kJ [] ?_
     refine s1 ?_
     refine aCB (fun w hw => awake11 w) ?_
     refine s5 ?_
     refine JR_one rfl (rr_tmp rfl) ?_
     intro w' hw
     exact ⟨rfl, hw.bel⟩
    ·refine s6 ?_
     have hLp : 0 < L31.length := by omega
     obtain ⟨r1, hm1, hr1⟩ := mod_nat wh hLp
     obtain ⟨x, hx1⟩ : ∃ x, L31[r1]'hr1 = x := ⟨_, rfl⟩
     have hxL : x ∈ L31 := by rw [← hx1]; exact List.getElem_mem _
     have hxS := (ht31.mem x).1 hxL
     have hxk : okS x := hld_ok (fun c hc => (hbk.cl c hc).tk) hok x hxS
     have hnm := hld_nm hb hak hxS
     have hwq : whyQ Bk ed fl0 x = none := by rw [why_of hhq hnm, if_pos hxS]
     have hwl := why_len2 Bk ed fl0 x
     refine J_fact (fun hw => ?_)
     obtain ⟨ob, rfl⟩ := own_some hw (ty := 9) (k := 1) (m := L31.length) (c := c31) (A := A31) (xs := L31.flatMap eS) (by repeat constructor) hLp
     clear hw
     refine s3 ?_
     refine aP (pConv8 rfl rfl hwh) ?_
     refine s2 ?_
     refine aP (pRem rfl rfl rfl (by unfold U8 at hwh; omega) (by omega)) ?_
     rw [hm1]
     refine aP (pIdxI (r1) rfl rfl rfl) ?_
     refine aV (vOwn ES rfl rfl (by repeat constructor) hr1 (by omega) (by rw [hx1]; rfl)) ?_
     refine s4 ?_
     refine kJ [(0, _), (1, _), (2, _), (4, _), (15, _)] ?_
     refine s5 ?_
     refine aW (oR (fun w hw => why21_yes hxk hok (hbk.up hw.bel) (hfl.up ES hw.bel) hwq)) (fun t108 _ => ?_)
     dsimp only [List.cons_append, List.nil_append]
     refine s8 ?_
     refine kJ [(0, _), (1, _), (2, _), (4, _), (15, _), (16, _), (17, _)] ?_
     refine s6 ?_
     refine aCB (fun w hw => (Proves12 Bk A c ed fl0 fA0 fc0 (whyP Bk (hldM Bk ed fl0) x) t108.1 t108.2 x hok hxk w (hbk.up hw.bel) (hfl.up ES hw.bel) (own_arr (A := t108.1) (c := t108.2) (L := (whyP Bk (hldM Bk ed fl0) x)) EI hw (by repeat constructor) (by omega)) (by omega)).mono (fun _ _ h => by rw [why_pr hhq hxS] at h; exact h)) ?_
     refine s11 ?_
     by_cases hxf : x ∈ fl0
     ·have hwn : (whyP Bk (hldM Bk ed fl0) x) = [] := (why_nil hxS).2 hxf
      refine kJ [(0, _), (1, _), (2, _), (4, _), (15, _), (16, _), (17, _), (18, _), (19, _), (20, _)] ?_
      refine s3 ?_
      refine aDecF ?_ (by decide)
      refine s3 ?_
      refine aDecF ?_ (by decide)
      refine s8 ?_
      refine aDecF ?_ (by decide)
      refine s5 ?_
      refine aDecT ?_ (by rw [hwn]; rfl)
      refine s2 ?_
      refine aCB (fun w hw => Has22 fl0 x _ w (hfl.up ES hw.bel)) ?_
      refine aDecT ?_ hxf
      refine aP (pNeqB rfl rfl rfl) ?_
      refine aDecF ?_ (by decide)
      refine s8 ?_
      refine kJ [(0, _), (1, _), (2, _), (4, _), (15, _), (16, _)] ?_
      refine s4 ?_
      refine aDecT ?_ (by rw [hwn]; rfl)
      refine s4 ?_
      refine kJ [] ?_
      refine s1 ?_
      refine aCB (fun w hw => awake11 w) ?_
      refine s5 ?_
      refine JR_one rfl (rr_tmp rfl) ?_
      intro w' hw
      exact ⟨rfl, hw.bel⟩
     ·have hwn : (whyP Bk (hldM Bk ed fl0) x).length ≠ 0 := fun e => hxf ((why_nil hxS).1 (List.length_eq_zero_iff.1 e))
      refine kJ [(0, _), (1, _), (2, _), (4, _), (15, _), (16, _), (17, _), (18, _), (19, _), (20, _)] ?_
      refine s3 ?_
      refine aDecF ?_ (by decide)
      refine s3 ?_
      refine aDecF ?_ (by decide)
      refine s8 ?_
      refine aDecF ?_ (by decide)
      refine s5 ?_
      refine aDecF ?_ (by omega)
      refine s2 ?_
      refine aCB (fun w hw => Has22 fl0 x _ w (hfl.up ES hw.bel)) ?_
      refine aDecF ?_ hxf
      refine aP (pNeqB rfl rfl rfl) ?_
      refine aDecF ?_ (by decide)
      refine s8 ?_
      refine kJ [(0, _), (1, _), (2, _), (4, _), (15, _), (16, _)] ?_
      refine s4 ?_
      refine aDecF ?_ (by omega)
      refine s6 ?_
      obtain ⟨r2, hm2, hr2⟩ := mod_nat le (show 0 < (whyP Bk (hldM Bk ed fl0) x).length by omega)
      obtain ⟨pb2, hp2⟩ := why_sh hhq hxS hr2
      have hw2 : (((whyP Bk (hldM Bk ed fl0) x).take r2) ++ ((whyP Bk (hldM Bk ed fl0) x).drop (r2 + 1))).length ≤ Bk.length := by rw [List.length_append, List.length_take, List.length_drop]; omega
      refine J_fact (fun hw => ?_)
      have hwc := (own_cn hw (ty := 3) (k := 1) (m := (whyP Bk (hldM Bk ed fl0) x).length) (c := t108.2) (A := t108.1) (xs := (whyP Bk (hldM Bk ed fl0) x).flatMap eI) (by repeat constructor)).1
      clear hw
      refine s2 ?_
      refine aP (pConv8 rfl rfl hle8) ?_
      refine s2 ?_
      refine aP (pRem rfl rfl rfl (by unfold U8 at hle8; omega) (by omega)) ?_
      rw [hm2]
      refine s4 ?_
      refine kJ [(0, _), (1, _), (2, _), (15, _), (16, _), (21, _)] ?_
      refine xD [1, 2, 3, 5, 6, 7, 8, 0, 4, 9, 10] [] ?_
      refine s2 ?_
      refine dP rfl (rp_sliceTo (k := r2) rfl rfl rfl Und.h Siz.h rfl (by omega)) ?_
      refine s3 ?_
      refine dP rfl (rp_sliceFrom (k := r2 + 1) rfl rfl rfl Und.h Siz.h (by go_num) (by omega)) ?_
      refine dW rfl (ow_slice0 (k := 1) (ty := 3) rfl rfl rfl (fun _ => by kernel_rfl)) (fun b153 hb153 => ?_)
      refine dS rfl (oAppX (sl := 24) EI ([] : List Int) ((whyP Bk (hldM Bk ed fl0) x).take r2) (fun w hw => (own_arr (A := t108.1) (c := t108.2) (L := (whyP Bk (hldM Bk ed fl0) x)) EI hw (by repeat constructor) (by omega)).takeC (by omega)) (by rw [List.length_take]; omega) (Nat.le_refl _) (hl := by rw [List.length_take, List.length_nil]; omega)) (fun A157 c157 => ?_)
      rw [List.nil_append]
      refine JD_fact (fun hw => ?_)
      have hc157 := (own_cn hw (ty := 3) (k := 1) (m := ((whyP Bk (hldM Bk ed fl0) x).take r2).length) (c := c157) (A := A157) (xs := ((whyP Bk (hldM Bk ed fl0) x).take r2).flatMap eI) (by repeat constructor)).1.1
      clear hw
      refine dS rfl (oAppX (sl := 24) EI ((whyP Bk (hldM Bk ed fl0) x).take r2) ((whyP Bk (hldM Bk ed fl0) x).drop (r2 + 1)) (fun w hw => (own_arr (A := t108.1) (c := t108.2) (L := (whyP Bk (hldM Bk ed fl0) x)) EI hw (by repeat constructor) (by omega)).drop (by omega)) (by rw [List.length_drop]) hc157 (hl := by rw [List.length_take, List.length_drop]; omega)) (fun A162 c162 => ?_)
      refine s4 ?_
      refine kJ [(0, _), (1, _), (2, _), (15, _), (22, _)] ?_
      refine s6 ?_
      refine aCB (fun w hw => (Proves12 Bk A c ed fl0 fA0 fc0 ((whyP Bk (hldM Bk ed fl0) x).take r2 ++ (whyP Bk (hldM Bk ed fl0) x).drop (r2 + 1)) A162 c162 x hok hxk w (hbk.up hw.bel) (hfl.up ES hw.bel) (own_arr (A := A162) (c := c162) (L := ((whyP Bk (hldM Bk ed fl0) x).take r2 ++ (whyP Bk (hldM Bk ed fl0) x).drop (r2 + 1))) EI hw (by repeat constructor) (by omega)) (by omega)).mono (fun _ _ h => by rw [hp2] at h; exact h)) ?_
      refine s9 ?_
      refine kJ [(18, _), (20, _)] ?_
      refine s6 ?_
      refine aDecT ?_ rfl
      refine s2 ?_
      refine aCB (fun w hw => awake11 w) ?_
      refine s5 ?_
      refine JR_one rfl (rr_tmp rfl) ?_
      intro w' hw
      exact ⟨rfl, hw.bel⟩
  ·refine kJ [(0, _), (1, _), (2, _), (3, _), (4, _)] ?_
   refine s4 ?_
   refine aCB (fun w hw => hld16_no hok (hbk.up hw.bel) (hfl.up ES hw.bel) hhq) ?_
   refine s9 ?_
   refine kJ [(0, _), (1, _), (2, _), (3, _), (4, _), (11, _), (12, _)] ?_
   refine s3 ?_
   refine aDecT ?_ (hld_ne hhq)
   refine s4 ?_
   refine kJ [(11, _)] ?_
   refine s4 ?_
   refine aDecT ?_ rfl
   refine s1 ?_
   refine aCB (fun w hw => awake11 w) ?_
   refine s6 ?_
   refine JR_one rfl (rr_tmp rfl) ?_
   intro w' hw
   exact ⟨rfl, hw.bel⟩
end Go.Proofs.YtjkolebffbeeeaaGreatDoor
