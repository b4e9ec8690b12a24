/- The document: Holds, Changed, Why. -/
import Derived.Test.YtjkolebffbeeeaaGreatDoorPa
namespace Go.Proofs.YtjkolebffbeeeaaGreatDoor
open Go Go.RowKit Go.Proofs
attribute [local irreducible] J JQ JL JA JD

theorem hld_ne {Bk : List Cl} {ed : Int} {fl0 : List ByteArray} {a n : Int} (h : hldQ Bk ed fl0 = some (a, n)) : n ≠ 0 := by
 unfold hldQ at h
 cases hb : bndF Bk with
 | some r => rw [hb] at h; obtain ⟨x, y⟩ := r; cases h; exact bnd_ne hb
 | none => rw [hb] at h; dsimp only at h; split at h <;> cases h; decide
theorem hld_parts {Bk : List Cl} {ed : Int} {fl0 : List ByteArray} (h : hldQ Bk ed fl0 = none) : bndF Bk = none ∧ askB ed fl0 = true := by
 unfold hldQ at h
 cases hb : bndF Bk with
 | some r => rw [hb] at h; cases h
 | none => rw [hb] at h; refine ⟨rfl, ?_⟩; cases hk : askB ed fl0; simp [hk] at h; rfl
theorem ask_64 {ed : Int} {fl0 : List ByteArray} (h : askB ed fl0 = true) : fl0.length ≤ 64 := by
 unfold askB at h; rw [Bool.and_eq_true] at h; have := namesB_len h.2; omega
theorem asked_no {Bk : List Cl} {A : Option Addr} {c : Nat} {ed : Int} {fl0 : List ByteArray} {fA0 : Option Addr} {fc0 : Nat} {a n : Int} (hok : ∀ s ∈ fl0, okS s) {w : World} (hbk : BkW w Bk A c) (hfl : Arr 1 eS w (.slice fA0 fl0.length fc0) fl0) (hq : hldQ Bk ed fl0 = some (a, n)) : Calls Tryz.prog 45 #[.slice A Bk.length c, .int .i64 ed, .slice fA0 fl0.length fc0] w  (Back (.int .i64 n) w) := by
 have := asked45 Bk A c ed fl0 fA0 fc0 hok w hbk hfl
 unfold askR at this; rw [hq] at this; exact this
theorem asked_yes {Bk : List Cl} {A : Option Addr} {c : Nat} {ed : Int} {fl0 : List ByteArray} {fA0 : Option Addr} {fc0 : Nat} (hok : ∀ s ∈ fl0, okS s) {w : World} (hbk : BkW w Bk A c) (hfl : Arr 1 eS w (.slice fA0 fl0.length fc0) fl0) (hq : hldQ Bk ed fl0 = none) : Calls Tryz.prog 45 #[.slice A Bk.length c, .int .i64 ed, .slice fA0 fl0.length fc0] w  (Back (.int .i64 0) w) := by
 have := asked45 Bk A c ed fl0 fA0 fc0 hok w hbk hfl
 unfold askR at this; rw [hq] at this; exact this
theorem make_yes {Bk : List Cl} {A : Option Addr} {c : Nat} {ed : Int} {fl0 : List ByteArray} {fA0 : Option Addr} {fc0 : Nat} {w : World} (hbk : BkW w Bk A c) (hfl : Arr 1 eS w (.slice fA0 fl0.length fc0) fl0) (hq : hldQ Bk ed fl0 = none) : Calls Tryz.prog 48 #[.slice A Bk.length c, .int .i64 ed, .slice fA0 fl0.length fc0] w (Ret w (fun t : MkS => t.m = hldM Bk ed fl0 ∧ t.m.S.length + muS Bk t.m.S ≤ 128 ∧ t.m.O.length ≤ t.m.S.length) (fun t => .agg #[.slice t.hA t.m.S.reverse.length t.hc, .slice t.oA t.m.O.length t.oc]) (fun t => [ownB 9 1 t.hA t.m.S.reverse.length t.hc (t.m.S.reverse.flatMap eS), ownB 3 1 t.oA t.m.O.length t.oc (t.m.O.flatMap eI)])) := by
 obtain ⟨hb, hak⟩ := hld_parts hq
 obtain ⟨lv, hlv⟩ := bnd_lv hb
 exact make48 Bk A c ed fl0 fA0 fc0 lv hlv (bnd_64 hb) (ask_64 hak) w hbk hfl
theorem hld_len {Bk : List Cl} {ed : Int} {fl0 : List ByteArray} (h64 : Bk.length ≤ 64) (hf : fl0.length ≤ 64) : (hldM Bk ed fl0).S.length ≤ 128 := by
 have key : ∀ k, (madF Bk (lvOf Bk) ed k ⟨fl0.reverse, fun _ => none, []⟩).S.length + muS Bk (madF Bk (lvOf Bk) ed k ⟨fl0.reverse, fun _ => none, []⟩).S ≤ 128 := by
  intro k
  induction k with
  | zero => have := muS_0 Bk fl0.reverse; show fl0.reverse.length + muS Bk fl0.reverse ≤ 128; rw [List.length_reverse]; omega
  | succ k ih =>
   rw [madF_s]; unfold levF
   have hr : ∀ (j : Nat) (m : MS), (rndF Bk (lvOf Bk) k ed j m).S.length + muS Bk (rndF Bk (lvOf Bk) k ed j m).S ≤ m.S.length + muS Bk m.S := by
    intro j
    induction j with
    | zero => intro m; exact Nat.le_refl _
    | succ j ihj =>
     intro m; unfold rndF; split
     ·exact Nat.le_refl _
     ·exact Nat.le_trans (ihj _) (mkL_cnt _ _)
   exact Nat.le_trans (hr _ _) ih
 have := key (Bk.length + 1)
 unfold hldM; omega
set_option maxRecDepth 100000 in
set_option maxHeartbeats 4000000 in
theorem Holds30 (Bk : List Cl) (A : Option Addr) (c : Nat) (ed : Int) (fl0 : List ByteArray) (fA0 : Option Addr) (fc0 : Nat) (hok : ∀ s ∈ fl0, okS s) (w : World) (hbk : BkW w Bk A c) (hfl : Arr 1 eS w (.slice fA0 fl0.length fc0) fl0) : Calls Tryz.prog 30 #[.slice A Bk.length c, .int .i64 ed, .slice fA0 fl0.length fc0] w (RetHd Bk ed fl0 w) := by
 refine J_enter (fun _ => False) (vs := [.slice A Bk.length c, .int .i64 ed, .slice fA0 fl0.length fc0]) (k := 19) (l := [(0, .slice A Bk.length c), (1, .int .i64 ed), (2, .slice fA0 fl0.length fc0)]) Tryz.func30 rfl rfl Tryz.ntmps30 rfl rfl (Wd.start _) ?_
 refine s7 ?_
 obtain hq | ⟨a, n, hq⟩ := opt2 (hldQ Bk ed fl0)
 ·obtain ⟨hb, hak⟩ := hld_parts hq
  have h64 := bnd_64 hb
  have hf64 := ask_64 hak
  have hl128 := hld_len (ed := ed) h64 hf64
  refine s4 ?_
  refine aCB (fun w hw => asked_yes hok (hbk.up hw.bel) (hfl.up ES hw.bel) hq) ?_
  refine s5 ?_
  refine kJ [(0, _), (1, _), (2, _), (8, _)] ?_
  refine s3 ?_
  refine aDecF ?_ (by decide)
  refine s10 ?_
  refine aW (oR (fun w hw => make_yes (hbk.up hw.bel) (hfl.up ES hw.bel) hq)) (fun t19 ht19 => ?_)
  obtain ⟨m19, hA, hc, oA, oc⟩ := t19
  obtain ⟨hm, hm1, hm2⟩ := ht19
  dsimp only [List.cons_append, List.nil_append] at hm hm1 hm2 ⊢
  subst hm
  refine aP (rp_run1 (f := fun u => Instr.field 77 u 0) (fun _ => rfl) rfl (fv_77_0 _ _)) ?_
  refine aS (oS (fun w hw => Rising18 (hldM Bk ed fl0).S.reverse _ _ w (own_arr ES hw (by repeat constructor) (by rw [List.length_reverse]; omega)) (by rw [List.length_reverse]; omega))) (fun A21 c21 => ?_)
  refine s5 ?_
  refine JR_two rfl (rr_tmp rfl) (rr_tmp rfl) ?_
  intro w' hw
  unfold RetHd; rw [hq]; exact ⟨⟨_, A21, c21⟩, sop_rev _, rfl, hw.pick (by repeat constructor)⟩
 ·refine s4 ?_
  refine aCB (fun w hw => asked_no hok (hbk.up hw.bel) (hfl.up ES hw.bel) hq) ?_
  refine s5 ?_
  refine kJ [(0, _), (1, _), (2, _), (8, _)] ?_
  refine s3 ?_
  refine aDecT ?_ (by exact hld_ne hq)
  refine s4 ?_
  refine kJ [(8, _)] ?_
  refine s8 ?_
  refine JR_two rfl (rr_tmp rfl) (rr_tmp rfl) ?_
  intro w' hw
  unfold RetHd; rw [hq]; exact ⟨rfl, hw.bel⟩
theorem hld30_no {Bk : List Cl} {A : Option Addr} {c : Nat} {ed : Int} {fl0 : List ByteArray} {fA0 : Option Addr} {fc0 : Nat} (hok : ∀ s ∈ fl0, okS s) {w : World} (hbk : BkW w Bk A c) (hfl : Arr 1 eS w (.slice fA0 fl0.length fc0) fl0) {a n : Int} (hq : hldQ Bk ed fl0 = some (a, n)) : Calls Tryz.prog 30 #[.slice A Bk.length c, .int .i64 ed, .slice fA0 fl0.length fc0] w  (Back (.tuple #[.slice none 0 0, .int .i64 n]) w) := by
 have := Holds30 Bk A c ed fl0 fA0 fc0 hok w hbk hfl
 unfold RetHd at this; rw [hq] at this; exact this
theorem hld30_yes {Bk : List Cl} {A : Option Addr} {c : Nat} {ed : Int} {fl0 : List ByteArray} {fA0 : Option Addr} {fc0 : Nat} (hok : ∀ s ∈ fl0, okS s) {w : World} (hbk : BkW w Bk A c) (hfl : Arr 1 eS w (.slice fA0 fl0.length fc0) fl0) (hq : hldQ Bk ed fl0 = none) : Calls Tryz.prog 30 #[.slice A Bk.length c, .int .i64 ed, .slice fA0 fl0.length fc0] w  (Ret w (fun t : SoT => SoP (hldM Bk ed fl0).S t.L) (fun t => .tuple #[.slice t.A t.L.length t.c, .int .i64 0]) (fun t => [ownB 9 1 t.A t.L.length t.c (t.L.flatMap eS)])) := by
 have := Holds30 Bk A c ed fl0 fA0 fc0 hok w hbk hfl
 unfold RetHd at this; rw [hq] at this; exact this
/-- What changes from one edition to another one. -/
def RetCh (Bk : List Cl) (e1 e2 : Int) (fl0 : List ByteArray) (w : World) (e : Ending) (w' : World) : Prop := match hldQ Bk e1 fl0 with
 | some (_, n) => Back (.tuple #[.slice none 0 0, .slice none 0 0, .int .i64 n]) w e w'
 | none => match hldQ Bk e2 fl0 with
  | some (_, n) => Back (.tuple #[.slice none 0 0, .slice none 0 0, .int .i64 n]) w e w'
  | none => Ret w (fun t : SoT × SoT => ∃ L M, SoP (hldM Bk e1 fl0).S L ∧ SoP (hldM Bk e2 fl0).S M ∧ t.1.L = lesL L M ∧ t.2.L = lesL M L) (fun t => .tuple #[.slice t.1.A t.1.L.length t.1.c, .slice t.2.A t.2.L.length t.2.c, .int .i64 0]) (fun t => [ownB 9 1 t.1.A t.1.L.length t.1.c (t.1.L.flatMap eS), ownB 9 1 t.2.A t.2.L.length t.2.c (t.2.L.flatMap eS)]) e w'
set_option maxRecDepth 100000 in
set_option maxHeartbeats 4000000 in
theorem Changed33 (Bk : List Cl) (A : Option Addr) (c : Nat) (e1 e2 : Int) (fl0 : List ByteArray) (fA0 : Option Addr) (fc0 : Nat) (hok : ∀ s ∈ fl0, okS s) (w : World) (hbk : BkW w Bk A c) (hfl : Arr 1 eS w (.slice fA0 fl0.length fc0) fl0) : Calls Tryz.prog 33 #[.slice A Bk.length c, .int .i64 e1, .int .i64 e2, .slice fA0 fl0.length fc0] w (RetCh Bk e1 e2 fl0 w) := by
 refine J_enter (fun _ => False) (vs := [.slice A Bk.length c, .int .i64 e1, .int .i64 e2, .slice fA0 fl0.length fc0]) (k := 37) (l := [(0, .slice A Bk.length c), (1, .int .i64 e1), (2, .int .i64 e2), (3, .slice fA0 fl0.length fc0)]) Tryz.func33 rfl rfl Tryz.ntmps33 rfl rfl (Wd.start _) ?_
 refine s8 ?_
 obtain hq1 | ⟨aa1, nn1, hq1⟩ := opt2 (hldQ Bk e1 fl0)
 ·have hp1 := hld_parts hq1
  have hl1 := hld_len (ed := e1) (bnd_64 hp1.1) (ask_64 hp1.2)
  refine s4 ?_
  refine aW (oR (fun w hw => hld30_yes hok (hbk.up hw.bel) (hfl.up ES hw.bel) hq1)) (fun t19 ht19 => ?_)
  obtain ⟨L1, A19, c19⟩ := t19
  dsimp only [List.cons_append, List.nil_append] at ht19 ⊢
  have hn1 := ht19.len
  refine s8 ?_
  obtain hq2 | ⟨aa2, nn2, hq2⟩ := opt2 (hldQ Bk e2 fl0)
  ·have hp2 := hld_parts hq2
   have hl2 := hld_len (ed := e2) (bnd_64 hp2.1) (ask_64 hp2.2)
   refine kJ [(0, _), (2, _), (3, _), (11, _), (12, _)] ?_
   refine s4 ?_
   refine aW (oR (fun w hw => hld30_yes hok (hbk.up hw.bel) (hfl.up ES hw.bel) hq2)) (fun t26 ht26 => ?_)
   obtain ⟨L2, A26, c26⟩ := t26
   dsimp only [List.cons_append, List.nil_append] at ht26 ⊢
   have hn2 := ht26.len
   refine s9 ?_
   refine kJ [(11, _), (12, _), (13, _), (14, _)] ?_
   refine s3 ?_
   refine aDecF ?_ (by decide)
   refine s10 ?_
   refine aDecF ?_ (by decide)
   refine s6 ?_
   refine kJ [(11, _), (13, _)] ?_
   refine s3 ?_
   refine aS (oS (fun w hw => Less19 L1 L2 _ _ _ w (own_arr ES hw (by repeat constructor) (by omega)) (own_arr (A := A26) (c := c26) ES hw (by repeat constructor) (by omega)) (by omega))) (fun A37 c37 => ?_)
   refine s2 ?_
   refine aS (oS (fun w hw => Less19 L2 L1 _ _ _ w (own_arr ES hw (by repeat constructor) (by omega)) (own_arr (A := A19) (c := c19) ES hw (by repeat constructor) (by omega)) (by omega))) (fun A40 c40 => ?_)
   refine s6 ?_
   refine JR_three rfl (rr_tmp rfl) (rr_tmp rfl) (rr_tmp rfl) ?_
   intro w' hw
   unfold RetCh; rw [hq1, hq2]; exact ⟨(⟨_, A37, c37⟩, ⟨_, A40, c40⟩), ⟨L1, L2, ht19, ht26, rfl, rfl⟩, rfl, hw.pick (by repeat constructor)⟩
  ·refine kJ [(0, _), (2, _), (3, _), (11, _), (12, _)] ?_
   refine s4 ?_
   refine aCB (fun w hw => hld30_no hok (hbk.up hw.bel) (hfl.up ES hw.bel) hq2) ?_
   refine s9 ?_
   refine kJ [(11, _), (12, _), (13, _), (14, _)] ?_
   refine s3 ?_
   refine aDecF ?_ (by decide)
   refine s10 ?_
   refine aDecT ?_ (by exact hld_ne hq2)
   refine s4 ?_
   refine kJ [(14, _)] ?_
   refine s9 ?_
   refine JR_three rfl (rr_tmp rfl) (rr_tmp rfl) (rr_tmp rfl) ?_
   intro w' hw
   unfold RetCh; rw [hq1, hq2]; exact ⟨rfl, hw.bel⟩
 ·refine s4 ?_
  refine aCB (fun w hw => hld30_no hok (hbk.up hw.bel) (hfl.up ES hw.bel) hq1) ?_
  refine s8 ?_
  obtain hq2 | ⟨aa2, nn2, hq2⟩ := opt2 (hldQ Bk e2 fl0)
  ·have hp2 := hld_parts hq2
   have hl2 := hld_len (ed := e2) (bnd_64 hp2.1) (ask_64 hp2.2)
   refine kJ [(0, _), (2, _), (3, _), (11, _), (12, _)] ?_
   refine s4 ?_
   refine aW (oR (fun w hw => hld30_yes hok (hbk.up hw.bel) (hfl.up ES hw.bel) hq2)) (fun t26 ht26 => ?_)
   obtain ⟨L2, A26, c26⟩ := t26
   dsimp only [List.cons_append, List.nil_append] at ht26 ⊢
   have hn2 := ht26.len
   refine s9 ?_
   refine kJ [(11, _), (12, _), (13, _), (14, _)] ?_
   refine s3 ?_
   refine aDecT ?_ (by exact hld_ne hq1)
   refine s4 ?_
   refine kJ [(12, _)] ?_
   refine s9 ?_
   refine JR_three rfl (rr_tmp rfl) (rr_tmp rfl) (rr_tmp rfl) ?_
   intro w' hw
   unfold RetCh; rw [hq1]; exact ⟨rfl, hw.bel⟩
  ·refine kJ [(0, _), (2, _), (3, _), (11, _), (12, _)] ?_
   refine s4 ?_
   refine aCB (fun w hw => hld30_no hok (hbk.up hw.bel) (hfl.up ES hw.bel) hq2) ?_
   refine s9 ?_
   refine kJ [(11, _), (12, _), (13, _), (14, _)] ?_
   refine s3 ?_
   refine aDecT ?_ (by exact hld_ne hq1)
   refine s4 ?_
   refine kJ [(12, _)] ?_
   refine s9 ?_
   refine JR_three rfl (rr_tmp rfl) (rr_tmp rfl) (rr_tmp rfl) ?_
   intro w' hw
   unfold RetCh; rw [hq1]; exact ⟨rfl, hw.bel⟩
end Go.Proofs.YtjkolebffbeeeaaGreatDoor
