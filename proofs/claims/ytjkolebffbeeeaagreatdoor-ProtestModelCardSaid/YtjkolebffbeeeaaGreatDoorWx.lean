/- The document: Why. -/
import Derived.Test.YtjkolebffbeeeaaGreatDoorWw
namespace Go.Proofs.YtjkolebffbeeeaaGreatDoor
open Go Go.RowKit Go.Proofs
attribute [local irreducible] J JQ JL JA JD

theorem fst_cl : ∀ {l : List Cl} {k : Nat}, fstBad l k = none → ∀ c ∈ l, clB c = true
 | [], _, _, _, h => (by cases h)
 | x :: l, k, h, c, hc => by
  unfold fstBad at h
  cases hx : clB x with
  | true =>
   rw [hx] at h
   rcases List.mem_cons.1 hc with rfl | hc
   ·exact hx
   ·exact fst_cl h c hc
  | false => rw [hx] at h; cases h
/-- The clauses of a sound book are valid. -/
theorem bnd_cl {Bk : List Cl} (hb : bndF Bk = none) : ∀ c ∈ Bk, clB c = true := by
 unfold bndF at hb; split at hb
 ·cases hb
 ·split at hb
  ·cases hb
  ·rename_i h; exact fst_cl h
theorem cl_parts {c : Cl} (h : clB c = true) : c.fs.l.length ≤ 8 ∧ c.us.l.length ≤ 8 := by
 unfold clB at h
 simp only [Bool.and_eq_true] at h
 have h1 := namesB_len h.1.1.2
 have h2 := namesB_len h.1.2
 omega
/-- Reasons are indices. -/
theorem mkL_O {Bk : List Cl} {p : Int → Prop} (hp : ∀ i : Nat, i < Bk.length → p i) : ∀ (l : List Nat) (m : MS), (∀ x ∈ m.O, p x) → ∀ x ∈ (mkL Bk m l).O, p x
 | [], _, h => h
 | i :: l, m, h => mkL_O hp l (mkC Bk m i) (fun x hx => by
  unfold mkC at hx
  split at hx
  ·exact h x hx
  ·rename_i c hc
   split at hx
   ·exact h x hx
   ·rcases List.mem_append.1 hx with hx | hx
    ·exact h x hx
    ·rw [List.mem_singleton.1 hx]; exact hp i (List.getElem?_eq_some_iff.1 hc).1)
theorem hld_O (Bk : List Cl) (ed : Int) (fl0 : List ByteArray) : ∀ x ∈ (hldM Bk ed fl0).O, ∃ i : Nat, i < Bk.length ∧ x = i := by
 have hr : ∀ (n : Nat) (j : Nat) (m : MS), (∀ x ∈ m.O, ∃ i : Nat, i < Bk.length ∧ x = i) → ∀ x ∈ (rndF Bk (lvOf Bk) n ed j m).O, ∃ i : Nat, i < Bk.length ∧ x = i := by
  intro n j
  induction j with
  | zero => intro m h; exact h
  | succ j ih =>
   intro m h; unfold rndF; split
   ·exact h
   ·exact ih _ (mkL_O (p := fun x => ∃ i : Nat, i < Bk.length ∧ x = i) (fun i hi => ⟨i, hi, rfl⟩) _ m h)
 have key : ∀ k, ∀ x ∈ (madF Bk (lvOf Bk) ed k ⟨fl0.reverse, fun _ => none, []⟩).O, ∃ i : Nat, i < Bk.length ∧ x = i := by
  intro k
  induction k with
  | zero => intro x hx; cases hx
  | succ k ih => rw [madF_s]; unfold levF; exact hr _ _ _ ih
 exact key _
/-- The reasons backwards, of what is still wanted. -/
def bwC (Bk : List Cl) (s : List ByteArray × List Int) (i : Int) : List ByteArray × List Int := match Bk[i.toNat]? with
 | none => s
 | some c => if c.th ∈ s.1 then (s.1 ++ c.fs.l, [i] ++ s.2) else s
def bwF (Bk : List Cl) (claim : ByteArray) (O : List Int) : List ByteArray × List Int := O.reverse.foldl (bwC Bk) ([claim], [])
theorem bwF_s {Bk : List Cl} {claim : ByteArray} {O : List Int} {i k : Nat} {c : Cl} (h : i < O.length) (hk : k < Bk.length) (hy : O[i]'h = (k : Nat)) (hc : Bk[k]'hk = c) : bwF Bk claim (O.drop i) = if c.th ∈ (bwF Bk claim (O.drop (i + 1))).1 then ((bwF Bk claim (O.drop (i + 1))).1 ++ c.fs.l, [((k : Nat) : Int)] ++ (bwF Bk claim (O.drop (i + 1))).2) else bwF Bk claim (O.drop (i + 1)) := by
 unfold bwF
 rw [List.drop_eq_getElem_cons h, List.reverse_cons, List.foldl_append]
 show bwC Bk _ _ = _
 unfold bwC
 rw [hy, Int.toNat_natCast, List.getElem?_eq_getElem hk, hc]
theorem bwF_len {Bk : List Cl} (claim : ByteArray) (hcl : ∀ c ∈ Bk, c.fs.l.length ≤ 8) : ∀ O : List Int, (bwF Bk claim O).1.length ≤ 1 + 8 * O.length ∧ (bwF Bk claim O).2.length ≤ O.length
 | [] => ⟨Nat.le_refl _, Nat.le_refl _⟩
 | i :: O => by
  obtain ⟨h1, h2⟩ := bwF_len claim hcl O
  have e : bwF Bk claim (i :: O) = bwC Bk (bwF Bk claim O) i := by unfold bwF; rw [List.reverse_cons, List.foldl_append]; rfl
  rw [e, List.length_cons]
  unfold bwC
  split
  ·omega
  ·rename_i c hc
   have := hcl c (List.mem_of_getElem? hc)
   split
   ·dsimp only; rw [List.length_append, List.length_append, List.length_singleton]; omega
   ·omega
def whyQ (Bk : List Cl) (ed : Int) (fl0 : List ByteArray) (x : ByteArray) : Option (Int × Int) := match hldQ Bk ed fl0 with
 | some r => some r
 | none => if nameB x = true then (if x ∈ (hldM Bk ed fl0).S then none else some (-1, 7)) else some (-1, 2)
/-- The derivation of a claim, or why there is none. -/
def RetWy (f : MS → List Int) (Bk : List Cl) (ed : Int) (fl0 : List ByteArray) (x : ByteArray) (w : World) (e : Ending) (w' : World) : Prop := match whyQ Bk ed fl0 x with
 | some (_, n) => Back (.tuple #[.slice none 0 0, .int .i64 n]) w e w'
 | none => Ret w (fun _ : Option Addr × Nat => True) (fun t => .tuple #[.slice t.1 (f (hldM Bk ed fl0)).length t.2, .int .i64 0]) (fun t => [ownB 3 1 t.1 (f (hldM Bk ed fl0)).length t.2 ((f (hldM Bk ed fl0)).flatMap eI)]) e w'
set_option maxRecDepth 100000 in
set_option maxHeartbeats 4000000 in
theorem Why31 (Bk : List Cl) (A : Option Addr) (c : Nat) (ed : Int) (fl0 : List ByteArray) (fA0 : Option Addr) (fc0 : Nat) (x : ByteArray) (hok : ∀ s ∈ fl0, okS s) (w : World) (hbk : BkW w Bk A c) (hfl : Arr 1 eS w (.slice fA0 fl0.length fc0) fl0) : Calls Tryz.prog 31 #[.slice A Bk.length c, .int .i64 ed, .slice fA0 fl0.length fc0, .string x] w (RetWy (fun m => (bwF Bk x m.O).2) Bk ed fl0 x w) := by
 obtain ⟨hBb, hBA⟩ := arr_partsC hbk.row
 refine J_enter (fun _ => False) (vs := [.slice A Bk.length c, .int .i64 ed, .slice fA0 fl0.length fc0, .string x]) (k := 66) (l := [(0, .slice A Bk.length c), (1, .int .i64 ed), (2, .slice fA0 fl0.length fc0), (3, .string x)]) Tryz.func31 rfl rfl Tryz.ntmps31 rfl rfl (Wd.start _) ?_
 refine s7 ?_
 obtain hq | ⟨a, n, hq⟩ := opt2 (hldQ Bk ed fl0)
 ·obtain ⟨hb, hak⟩ := hld_parts hq
  have h64 := bnd_64 hb
  have hf64 := ask_64 hak
  have hl128 := hld_len (ed := ed) h64 hf64
  refine s4 ?_
  refine aCB (fun w hw => asked_yes hok (hbk.up hw.bel) (hfl.up ES hw.bel) hq) ?_
  refine s5 ?_
  refine kJ [(0, _), (1, _), (2, _), (3, _), (10, _)] ?_
  refine s3 ?_
  refine aDecF ?_ (by decide)
  refine s9 ?_
  refine aCB (fun w hw => Name46 x w) ?_
  refine JL_bool (fun h24 => ?_) (fun h24 => ?_)
  ·refine s7 ?_
   refine kJ [(0, _), (1, _), (2, _), (3, _)] ?_
   refine s4 ?_
   refine aW (oR (fun w hw => make_yes (hbk.up hw.bel) (hfl.up ES hw.bel) hq)) (fun t29 ht29 => ?_)
   obtain ⟨m29, sA, sc, rA, rc⟩ := t29
   obtain ⟨hm, hm1, hm2⟩ := ht29
   dsimp only [List.cons_append, List.nil_append] at hm hm1 hm2 ⊢
   subst hm
   refine aW oA (fun b11 hb11 => ?_)
   refine s5 ?_
   refine kJ [(0, _), (3, _), (11, _)] ?_
   refine s4 ?_
   refine aCB (fun w hw => Has22 (hldM Bk ed fl0).S.reverse x _ w (own_arr ES hw (by repeat constructor) (by rw [List.length_reverse]; omega))) ?_
   refine JL_dec (fun h33 => ?_) (fun h33 => ?_)
   ·refine s7 ?_
    refine kJ [(0, _), (3, _), (11, _)] ?_
    refine s2 ?_
    refine aW (ow_sliceC (vs := [_]) (ty := 9) rfl rfl (by rfl) rfl rfl (fun _ => by kernel_rfl)) (fun b36 hb36 => ?_)
    refine JL_asOwn (b := b36) (ty := 9) (kk := 1) (m := 1) (by repeat constructor) rfl (by omega) ?_
    refine s10 ?_
    refine J_own0 3 1 ?_
    refine s9 ?_
    have h0 : bwF Bk x ((hldM Bk ed fl0).O.drop (hldM Bk ed fl0).O.length) = ([x], []) := by rw [List.drop_length]; rfl
    refine xL (T := Nat × (Option Addr × Nat) × (Option Addr × Nat)) (fun q => q.1 ≤ (hldM Bk ed fl0).O.length) (fun q => [(0, .slice A Bk.length c), (11, .pointer (some ⟨b11, 0, none⟩)), (12, .slice q.2.1.1 (bwF Bk x ((hldM Bk ed fl0).O.drop q.1)).1.length q.2.1.2), (13, .slice q.2.2.1 (bwF Bk x ((hldM Bk ed fl0).O.drop q.1)).2.length q.2.2.2), (14, .int .i64 ((q.1 : Nat) - 1))]) (fun q => [ownB 9 1 q.2.1.1 (bwF Bk x ((hldM Bk ed fl0).O.drop q.1)).1.length q.2.1.2 ((bwF Bk x ((hldM Bk ed fl0).O.drop q.1)).1.flatMap eS), ownB 3 1 q.2.2.1 (bwF Bk x ((hldM Bk ed fl0).O.drop q.1)).2.length q.2.2.2 ((bwF Bk x ((hldM Bk ed fl0).O.drop q.1)).2.flatMap eI), cellB b11 [.slice sA (hldM Bk ed fl0).S.reverse.length sc, .slice rA (hldM Bk ed fl0).O.length rc] 77, ownB 3 1 rA (hldM Bk ed fl0).O.length rc ((hldM Bk ed fl0).O.flatMap eI)]) (fun q => q.1) ((hldM Bk ed fl0).O.length, (some ⟨b36, 0, none⟩, 1), (none, 0)) (Nat.le_refl _) ?_ (hl := ⟨rfl, rfl, (by dsimp only; rw [h0]; rfl), (by dsimp only; rw [h0]; rfl), rfl, trivial⟩) (hH := by (try dsimp only); rw [h0]; repeat constructor)
    rintro ⟨j, ⟨wA, wc⟩, vA, vc⟩ hj
    dsimp only at hj ⊢
    obtain ⟨hwl, hul⟩ := bwF_len x (fun c hc => (cl_parts (bnd_cl hb c hc)).1) ((hldM Bk ed fl0).O.drop j)
    rw [List.length_drop] at hwl hul
    refine s5 ?_
    refine JL_dec (fun h42 => ?_) (fun h42 => ?_)
    ·refine s8 ?_
     obtain ⟨i, rfl⟩ : ∃ i, j = i + 1 := ⟨j - 1, by omega⟩
     have hiO : i < (hldM Bk ed fl0).O.length := by omega
     obtain ⟨y, hy⟩ : ∃ y, (hldM Bk ed fl0).O[i]'hiO = y := ⟨_, rfl⟩
     obtain ⟨k, hkl, rfl⟩ := hld_O Bk ed fl0 y (by rw [← hy]; exact List.getElem_mem _)
     refine J_fact (fun hw => ?_)
     obtain ⟨ob, rfl⟩ := own_some hw (ty := 3) (k := 1) (m := (hldM Bk ed fl0).O.length) (c := rc) (xs := (hldM Bk ed fl0).O.flatMap eI) (by repeat constructor) (by omega)
     clear hw
     have hlt : k < Bk.length := hkl
     obtain ⟨bB, pB, rfl, hhB⟩ := hBA (by intro e; subst e; simp at hlt)
     obtain ⟨⟨cn, cf, ct, ⟨fA, fn, fc, fl⟩, ⟨uA, un, uc, ul⟩, th⟩, hc⟩ : ∃ c, Bk[k]'hlt = c := ⟨_, rfl⟩
     have hcm : (⟨cn, cf, ct, ⟨fA, fn, fc, fl⟩, ⟨uA, un, uc, ul⟩, th⟩ : Cl) ∈ Bk := by rw [← hc]; exact List.getElem_mem _
     obtain ⟨hfs, hus, hfk, huk, hnk, htk⟩ := hbk.cl _ hcm
     obtain rfl : fn = fl.length := dv_nc hfs
     obtain rfl : un = ul.length := dv_nc hus
     dsimp only [Dv.v] at hfs hus hfk huk hnk htk
     obtain ⟨hfb, hfA⟩ := arr_parts hfs
     obtain ⟨hub, huA⟩ := arr_parts hus
     refine s5 ?_
     refine aP (pIdxI (i) rfl rfl rfl) ?_
     refine aV (vOwn EI rfl rfl (by repeat constructor) hiO (by omega) (by rw [hy]; rfl)) ?_
     refine s1 ?_
     refine aV (vHoldA (cs := [.string cn, .int .i64 cf, .int .i64 ct, .slice fA fl.length fc, .slice uA ul.length uc, .string th]) EC6 rfl rfl (fun h => h) hhB hlt (by rw [hc]; rfl)) ?_
     refine aW oA (fun b15 hb15 => ?_)
     refine s4 ?_
     refine kJ [(0, _), (11, _), (12, _), (13, _), (14, _), (15, _)] ?_
     refine s4 ?_
     refine aCB (fun w hw => Has22 (bwF Bk x ((hldM Bk ed fl0).O.drop (i + 1))).1 th _ w (own_arr ES hw (by repeat constructor) (by omega))) ?_
     refine JL_dec (fun h56 => ?_) (fun h56 => ?_)
     ·refine s4 ?_
      have hf8 := (cl_parts (bnd_cl hb _ hcm)).1
      dsimp only at hf8
      refine kJ [(0, _), (11, _), (12, _), (13, _), (14, _), (15, _)] ?_
      refine s4 ?_
      refine aP (pIdxI (i) rfl rfl rfl) ?_
      refine aV (vOwn EI rfl rfl (by repeat constructor) hiO (by omega) (by rw [hy]; rfl)) ?_
      refine aW (ow_sliceC (vs := [_]) (ty := 3) rfl rfl (by rfl) rfl rfl (fun _ => by kernel_rfl)) (fun b62 hb62 => ?_)
      refine JL_asOwn (b := b62) (ty := 3) (kk := 1) (m := 1) (by repeat constructor) rfl (by omega) ?_
      refine s1 ?_
      refine aS (oAppX (sl := 24) EI [((k : Nat) : Int)] (bwF Bk x ((hldM Bk ed fl0).O.drop (i + 1))).2 (fun w hw => own_arr EI hw (by repeat constructor) (by omega)) rfl (Nat.le_refl _) (hl := by rw [List.length_singleton]; omega)) (fun A64 c64 => ?_)
      refine s3 ?_
      refine J_fact (fun hw => ?_)
      have hwc := (own_cn hw (ty := 9) (k := 1) (m := (bwF Bk x ((hldM Bk ed fl0).O.drop (i + 1))).1.length) (c := wc) (A := wA) (xs := (bwF Bk x ((hldM Bk ed fl0).O.drop (i + 1))).1.flatMap eS) (by repeat constructor)).1.1
      clear hw
      refine kJ [(0, _), (11, _), (12, _), (13, _), (14, _), (15, _)] ?_
      refine s4 ?_
      refine aS (oAppX (sl := 23) ES (bwF Bk x ((hldM Bk ed fl0).O.drop (i + 1))).1 fl (fun w hw => hfs.up ES hw.bel) rfl hwc (hl := by omega)) (fun A68 c68 => ?_)
      refine s4 ?_
      refine kJ [(0, _), (11, _), (12, _), (13, _), (14, _)] ?_
      refine s5 ?_
      have hs : bwF Bk x ((hldM Bk ed fl0).O.drop i) = ((bwF Bk x ((hldM Bk ed fl0).O.drop (i + 1))).1 ++ fl, [((k : Nat) : Int)] ++ (bwF Bk x ((hldM Bk ed fl0).O.drop (i + 1))).2) := by rw [bwF_s hiO hlt hy hc, if_pos h56]
      exact xR (i, (A68, c68), (A64, c64)) (by dsimp only; omega) (by dsimp only; omega) (hl := ⟨rfl, rfl, (by dsimp only; rw [hs]; rfl), (by dsimp only; rw [hs]; rfl), (congrArg (fun x => some (Value.int .i64 x)) (by omega)), trivial⟩) (hH := by (try dsimp only); rw [hs]; repeat constructor)
     ·refine s6 ?_
      refine kJ [(0, _), (11, _), (12, _), (13, _), (14, _)] ?_
      refine s5 ?_
      have hs : bwF Bk x ((hldM Bk ed fl0).O.drop i) = bwF Bk x ((hldM Bk ed fl0).O.drop (i + 1)) := by rw [bwF_s hiO hlt hy hc, if_neg h56]
      exact xR (i, (wA, wc), (vA, vc)) (by dsimp only; omega) (by dsimp only; omega) (hl := ⟨rfl, rfl, (by dsimp only; rw [hs]; rfl), (by dsimp only; rw [hs]; rfl), (congrArg (fun x => some (Value.int .i64 x)) (by omega)), trivial⟩) (hH := by (try dsimp only); rw [hs]; repeat constructor)
    ·refine s9 ?_
     refine kJ [(13, _)] ?_
     refine s7 ?_
     refine JR_two rfl (rr_tmp rfl) (rr_tmp rfl) ?_
     intro w' hw
     obtain rfl : j = 0 := by omega
     unfold RetWy whyQ; rw [hq]; dsimp only; rw [if_pos h24, if_pos (List.mem_reverse.1 h33)]; exact ⟨(vA, vc), trivial, rfl, hw.pick (by repeat constructor)⟩
   ·refine s5 ?_
    refine kJ [] ?_
    refine s7 ?_
    refine JR_two rfl (rr_tmp rfl) (rr_tmp rfl) ?_
    intro w' hw
    unfold RetWy whyQ; rw [hq]; dsimp only; rw [if_pos h24, if_neg (fun h => h33 (List.mem_reverse.2 h))]; exact ⟨rfl, hw.bel⟩
  ·refine s5 ?_
   refine kJ [] ?_
   refine s7 ?_
   refine JR_two rfl (rr_tmp rfl) (rr_tmp rfl) ?_
   intro w' hw
   unfold RetWy whyQ; rw [hq]; dsimp only; rw [if_neg (by rw [h24]; decide)]; exact ⟨rfl, hw.bel⟩
 ·refine s4 ?_
  refine aCB (fun w hw => asked_no hok (hbk.up hw.bel) (hfl.up ES hw.bel) hq) ?_
  refine s5 ?_
  refine kJ [(0, _), (1, _), (2, _), (3, _), (10, _)] ?_
  refine s3 ?_
  refine aDecT ?_ (by exact hld_ne hq)
  refine s4 ?_
  refine kJ [(10, _)] ?_
  refine s8 ?_
  refine JR_two rfl (rr_tmp rfl) (rr_tmp rfl) ?_
  intro w' hw
  unfold RetWy whyQ; rw [hq]; dsimp only; exact ⟨rfl, hw.bel⟩
end Go.Proofs.YtjkolebffbeeeaaGreatDoor
