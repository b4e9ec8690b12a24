/- The document: Text. -/
import Derived.Test.YtjkolebffbeeeaaGreatDoorWy
namespace Go.Proofs.YtjkolebffbeeeaaGreatDoor
open Go Go.RowKit Go.Proofs
attribute [local irreducible] J JQ JL JA JD

theorem name_sz {s : ByteArray} (h : nameB s = true) : s.size ≤ 32 := by
 unfold nameB at h; simp only [Bool.and_eq_true, decide_eq_true_eq] at h; omega
theorem ris_nm : ∀ {l : List ByteArray} {p : Option ByteArray}, risL p l = true → ∀ s ∈ l, nameB s = true
 | x :: l, p, h, s, hs => by
  unfold risL at h
  simp only [Bool.and_eq_true] at h
  rcases List.mem_cons.1 hs with rfl | hs
  ·exact h.1.1
  ·exact ris_nm h.2 s hs
theorem names_sz {l : List ByteArray} {m : Int} (h : namesB l m = true) : ∀ s ∈ l, s.size ≤ 32 := fun s hs => by
 unfold namesB at h; rw [Bool.and_eq_true] at h
 exact name_sz (ris_nm h.1 s hs)
theorem cl_szs {c : Cl} (h : clB c = true) : c.n.size ≤ 32 ∧ c.th.size ≤ 32 ∧ (∀ s ∈ c.fs.l, s.size ≤ 32) ∧ (∀ s ∈ c.us.l, s.size ≤ 32) := by
 unfold clB at h
 simp only [Bool.and_eq_true] at h
 exact ⟨name_sz h.1.1.1.1.1.1, name_sz h.1.1.1.1.1.2, names_sz h.1.1.2, names_sz h.1.2⟩
abbrev coB : ByteArray := ⟨#[58, 32]⟩
abbrev ifB_ : ByteArray := ⟨#[32, 105, 102, 32]⟩
abbrev unB : ByteArray := ⟨#[32, 117, 110, 108, 101, 115, 115, 32]⟩
abbrev nlB : ByteArray := ⟨#[10]⟩
/-- A step as text, behind those ahead of it. -/
def txA (s : ByteArray) (c : Cl) : ByteArray := ((s ++ c.n) ++ coB) ++ c.th
def txB (s : ByteArray) (c : Cl) : ByteArray := if 0 < c.fs.l.length then (s ++ ifB_) ++ jnL c.fs.l else s
def txD (s : ByteArray) (c : Cl) : ByteArray := if 0 < c.us.l.length then (s ++ unB) ++ jnL c.us.l else s
def txC (s : ByteArray) (c : Cl) : ByteArray := txD (txB (txA s c) c) c ++ nlB
def txI (Bk : List Cl) (s : ByteArray) (i : Int) : ByteArray := match Bk[i.toNat]? with | none => s | some c => txC s c
def txL (Bk : List Cl) (l : List Int) : ByteArray := l.foldl (txI Bk) ⟨#[]⟩
theorem txL_s {Bk : List Cl} {l : List Int} {k i : Nat} {c : Cl} (h : k < l.length) (hi : i < Bk.length) (hy : l[k]'h = (i : Nat)) (hc : Bk[i]'hi = c) : txL Bk (l.take (k + 1)) = txC (txL Bk (l.take k)) c := by
 unfold txL
 rw [List.take_succ_eq_append_getElem h, List.foldl_append]
 show txI Bk _ _ = _
 unfold txI
 rw [hy, Int.toNat_natCast, List.getElem?_eq_getElem hi, hc]
theorem sz_lits : coB.size = 2 ∧ ifB_.size = 4 ∧ unB.size = 8 ∧ nlB.size = 1 := ⟨rfl, rfl, rfl, rfl⟩
theorem jnL_sz {l : List ByteArray} (h : ∀ s ∈ l, s.size ≤ 32) : (jnL l).size ≤ 34 * l.length := by
 have := jnL_len h l.length (Nat.le_refl _)
 rwa [List.take_length] at this
theorem tx_sz {c : Cl} (h : clB c = true) (s : ByteArray) : (txA s c).size ≤ s.size + 66 ∧ (txB s c).size ≤ s.size + 276 ∧ (txD s c).size ≤ s.size + 280 ∧ (txC s c).size ≤ s.size + 700 := by
 obtain ⟨h1, h2, h3, h4⟩ := cl_szs h
 obtain ⟨h5, h6⟩ := cl_parts h
 obtain ⟨e1, e2, e3, e4⟩ := sz_lits
 have j1 := jnL_sz h3
 have j2 := jnL_sz h4
 have A : ∀ s : ByteArray, (txA s c).size ≤ s.size + 66 := fun s => by unfold txA; simp only [ByteArray.size_append, e1]; omega
 have B : ∀ s : ByteArray, (txB s c).size ≤ s.size + 276 := fun s => by
  unfold txB; split
  ·simp only [ByteArray.size_append, e2]; omega
  ·omega
 have D : ∀ s : ByteArray, (txD s c).size ≤ s.size + 280 := fun s => by
  unfold txD; split
  ·simp only [ByteArray.size_append, e3]; omega
  ·omega
 refine ⟨A s, B s, D s, ?_⟩
 unfold txC
 rw [ByteArray.size_append, e4]
 have := A s
 have := B (txA s c)
 have := D (txB (txA s c) c)
 omega
def txtQ (Bk : List Cl) (l : List Int) : Option (Int × Int) := match bndF Bk with
 | some r => some r
 | none => if l.all (inB Bk) = true then none else some (-1, 4)
def txtR (Bk : List Cl) (l : List Int) : ByteArray × Int := match txtQ Bk l with
 | some (_, n) => (⟨#[]⟩, n)
 | none => (txL Bk l, 0)
set_option maxRecDepth 100000 in
set_option maxHeartbeats 4000000 in
theorem Text15 (Bk : List Cl) (A : Option Addr) (c : Nat) (l : List Int) (lA : Option Addr) (lc : Nat) (w : World) (hbk : BkW w Bk A c) (hl : Arr 1 eI w (.slice lA l.length lc) l) (hl1 : l.length ≤ 100) : Calls Tryz.prog 15 #[.slice A Bk.length c, .slice lA l.length lc] w (Back (.tuple #[.string (txtR Bk l).1, .int .i64 (txtR Bk l).2]) w) := by
 obtain ⟨hBb, hBA⟩ := arr_partsC hbk.row
 obtain ⟨hlb, hlA⟩ := arr_partsI hl
 refine J_enter (fun _ => False) (vs := [.slice A Bk.length c, .slice lA l.length lc]) (k := 65) (l := [(0, .slice A Bk.length c), (1, .slice lA l.length lc)]) Tryz.func15 rfl rfl Tryz.ntmps15 rfl rfl (Wd.start _) ?_
 refine s7 ?_
 obtain hb | ⟨a, n, hb⟩ := opt2 (bndF Bk)
 ·have h64 := bnd_64 hb
  refine s2 ?_
  refine aCB (fun w hw => check_yes (hbk.up hw.bel) hb) ?_
  refine s9 ?_
  refine kJ [(0, _), (1, _), (7, _)] ?_
  refine s3 ?_
  refine aDecF ?_ (by decide)
  refine s10 ?_
  refine aCB (fun w hw => indices47 Bk _ _ l _ _ w (by omega) (hl.up EI hw.bel)) ?_
  refine JL_bool (fun h21 => ?_) (fun h21 => ?_)
  ·refine s7 ?_
   refine kJ [(0, _), (1, _)] ?_
   refine s11 ?_
   refine xL (T := Nat) (fun q => q ≤ l.length ∧ (txL Bk (l.take q)).size ≤ 700 * q) (fun q => [(0, .slice A Bk.length c), (1, .slice lA l.length lc), (8, .string (txL Bk (l.take q))), (9, .int .i64 (q : Nat))]) (fun q => []) (fun q => l.length - q) 0 ⟨Nat.zero_le _, Nat.le_refl _⟩ ?_ (hl := ⟨rfl, rfl, rfl, rfl, trivial⟩)
   rintro k ⟨hk, hsz⟩
   refine s7 ?_
   refine JL_dec (fun h26 => ?_) (fun h26 => ?_)
   ·refine s8 ?_
    have hlty : k < l.length := by omega
    obtain ⟨bqy, pqy, rfl, hhl⟩ := hlA (by intro e; subst e; simp at hlty)
    obtain ⟨y, hy⟩ : ∃ y, l[k]'hlty = y := ⟨_, rfl⟩
    have hmy : y ∈ l := by rw [← hy]; exact List.getElem_mem _
    obtain ⟨i, hil, rfl⟩ := in_k h21 hmy
    have hlt : i < Bk.length := hil
    obtain ⟨bB, pB, rfl, hhB⟩ := hBA (by intro e; subst e; simp at hlt)
    obtain ⟨⟨cn, cf, ct, ⟨fA, fn, fc, fl⟩, ⟨uA, un, uc, ul⟩, th⟩, hc⟩ : ∃ c, Bk[i]'hlt = c := ⟨_, rfl⟩
    have hcm : (⟨cn, cf, ct, ⟨fA, fn, fc, fl⟩, ⟨uA, un, uc, ul⟩, th⟩ : Cl) ∈ Bk := by rw [← hc]; exact List.getElem_mem _
    obtain ⟨hfs, hus, hfk, huk, hnk, htk⟩ := hbk.cl _ hcm
    obtain rfl : fn = fl.length := dv_nc hfs
    obtain rfl : un = ul.length := dv_nc hus
    dsimp only [Dv.v] at hfs hus hfk huk hnk htk
    obtain ⟨hfb, hfA⟩ := arr_parts hfs
    obtain ⟨hub, huA⟩ := arr_parts hus
    refine kJ [(0, _), (1, _), (8, _), (9, _)] ?_
    refine s5 ?_
    refine aV (vHold rfl rfl (fun h => h) hhl hlty (by omega) (by rw [hy]; rfl)) ?_
    refine aP (pIdxI (i) rfl rfl rfl) ?_
    refine aV (vHoldA (cs := [.string cn, .int .i64 cf, .int .i64 ct, .slice fA fl.length fc, .slice uA ul.length uc, .string th]) EC6 rfl rfl (fun h => h) hhB hlt (by rw [hc]; rfl)) ?_
    refine aW oA (fun b10 hb10 => ?_)
    refine s4 ?_
    have hclb := bnd_cl hb _ hcm
    obtain ⟨z1, z2, z3, z4⟩ := cl_szs hclb
    obtain ⟨z5, z6⟩ := cl_parts hclb
    dsimp only at z1 z2 z3 z4 z5 z6
    have e1 : ({ data := #[58, 32] } : ByteArray).size = 2 := rfl
    have e2 : ({ data := #[32, 105, 102, 32] } : ByteArray).size = 4 := rfl
    have e3 : ({ data := #[32, 117, 110, 108, 101, 115, 115, 32] } : ByteArray).size = 8 := rfl
    have e4 : ({ data := #[10] } : ByteArray).size = 1 := rfl
    have hxa : (txL Bk (l.take k) ++ cn).size = (txL Bk (l.take k)).size + cn.size := ByteArray.size_append
    have hxb : ((txL Bk (l.take k) ++ cn) ++ ({ data := #[58, 32] } : ByteArray)).size = (txL Bk (l.take k)).size + cn.size + 2 := by rw [ByteArray.size_append, hxa, e1]
    have hxc : (txA (txL Bk (l.take k)) ⟨cn, cf, ct, ⟨fA, fl.length, fc, fl⟩, ⟨uA, ul.length, uc, ul⟩, th⟩).size ≤ (txL Bk (l.take k)).size + 66 := (tx_sz hclb _).1
    have hxd : (((txL Bk (l.take k) ++ cn) ++ ({ data := #[58, 32] } : ByteArray)) ++ th).size ≤ (txL Bk (l.take k)).size + 66 := (tx_sz hclb _).1
    refine kJ [(0, _), (1, _), (8, _), (9, _), (10, _)] ?_
    refine s12 ?_
    refine xC (T := ByteArray) (fun t => t = (txB (txA (txL Bk (l.take k)) ⟨cn, cf, ct, ⟨fA, fl.length, fc, fl⟩, ⟨uA, ul.length, uc, ul⟩, th⟩) ⟨cn, cf, ct, ⟨fA, fl.length, fc, fl⟩, ⟨uA, ul.length, uc, ul⟩, th⟩)) (fun t => [(0, .slice (some ⟨bB, pB, none⟩) Bk.length c), (1, .slice (some ⟨bqy, pqy, none⟩) l.length lc), (9, .int .i64 (k : Nat)), (10, .pointer (some ⟨b10, 0, none⟩)), (8, .string t)]) (fun t => [cellB b10 [.string cn, .int .i64 cf, .int .i64 ct, .slice fA fl.length fc, .slice uA ul.length uc, .string th] 40]) ?_ ?_
    ·refine s1 ?_
     refine kJ [(0, _), (1, _), (8, _), (9, _), (10, _)] ?_
     refine s5 ?_
     refine JL_dec (fun h47 => ?_) (fun h47 => ?_)
     ·refine s3 ?_
      have hj1 := jnL_sz z3
      have hxe : ((((txL Bk (l.take k) ++ cn) ++ ({ data := #[58, 32] } : ByteArray)) ++ th) ++ ({ data := #[32, 105, 102, 32] } : ByteArray)).size = (((txL Bk (l.take k) ++ cn) ++ ({ data := #[58, 32] } : ByteArray)) ++ th).size + 4 := by rw [ByteArray.size_append, e2]
      refine kJ [(0, _), (1, _), (8, _), (9, _), (10, _)] ?_
      refine s5 ?_
      refine aCB (fun w hw => joined53 fl _ _ w (hfs.up ES hw.bel) (by omega) z3) ?_
      refine s3 ?_
      exact xE (((((txL Bk (l.take k) ++ cn) ++ ({ data := #[58, 32] } : ByteArray)) ++ th) ++ ifB_) ++ jnL fl) (if_pos (show 0 < fl.length by omega)).symm
     ·refine s4 ?_
      exact xE (((txL Bk (l.take k) ++ cn) ++ ({ data := #[58, 32] } : ByteArray)) ++ th) (if_neg (show ¬ 0 < fl.length by omega)).symm
    ·rintro t0 ht0
     refine xC (T := ByteArray) (fun t => t = (txD (txB (txA (txL Bk (l.take k)) ⟨cn, cf, ct, ⟨fA, fl.length, fc, fl⟩, ⟨uA, ul.length, uc, ul⟩, th⟩) ⟨cn, cf, ct, ⟨fA, fl.length, fc, fl⟩, ⟨uA, ul.length, uc, ul⟩, th⟩) ⟨cn, cf, ct, ⟨fA, fl.length, fc, fl⟩, ⟨uA, ul.length, uc, ul⟩, th⟩)) (fun t => [(0, .slice (some ⟨bB, pB, none⟩) Bk.length c), (1, .slice (some ⟨bqy, pqy, none⟩) l.length lc), (9, .int .i64 (k : Nat)), (10, .pointer (some ⟨b10, 0, none⟩)), (8, .string t)]) (fun t => [cellB b10 [.string cn, .int .i64 cf, .int .i64 ct, .slice fA fl.length fc, .slice uA ul.length uc, .string th] 40]) ?_ ?_
     ·refine s6 ?_
      refine JL_dec (fun h57 => ?_) (fun h57 => ?_)
      ·refine s3 ?_
       have hj2 := jnL_sz z4
       have hxf : t0.size ≤ (txL Bk (l.take k)).size + 400 := by rw [ht0]; have := (tx_sz hclb (txA (txL Bk (l.take k)) ⟨cn, cf, ct, ⟨fA, fl.length, fc, fl⟩, ⟨uA, ul.length, uc, ul⟩, th⟩)).2.1; omega
       have hxg : (t0 ++ ({ data := #[32, 117, 110, 108, 101, 115, 115, 32] } : ByteArray)).size = t0.size + 8 := by rw [ByteArray.size_append, e3]
       refine kJ [(0, _), (1, _), (8, _), (9, _), (10, _)] ?_
       refine s5 ?_
       refine aCB (fun w hw => joined53 ul _ _ w (hus.up ES hw.bel) (by omega) z4) ?_
       refine s3 ?_
       exact xE ((t0 ++ unB) ++ jnL ul) (by rw [ht0]; exact (if_pos (show 0 < ul.length by omega)).symm)
      ·refine s4 ?_
       exact xE t0 (by rw [ht0]; exact (if_neg (show ¬ 0 < ul.length by omega)).symm)
     ·rintro t1 ht1
      have hxh : t1.size ≤ (txL Bk (l.take k)).size + 690 := by rw [ht1]; have := (tx_sz hclb (txA (txL Bk (l.take k)) ⟨cn, cf, ct, ⟨fA, fl.length, fc, fl⟩, ⟨uA, ul.length, uc, ul⟩, th⟩)).2.1; have := (tx_sz hclb (txB (txA (txL Bk (l.take k)) ⟨cn, cf, ct, ⟨fA, fl.length, fc, fl⟩, ⟨uA, ul.length, uc, ul⟩, th⟩) ⟨cn, cf, ct, ⟨fA, fl.length, fc, fl⟩, ⟨uA, ul.length, uc, ul⟩, th⟩)).2.2.1; omega
      refine s12 ?_
      have hs : txL Bk (l.take (k + 1)) = txC (txL Bk (l.take k)) ⟨cn, cf, ct, ⟨fA, fl.length, fc, fl⟩, ⟨uA, ul.length, uc, ul⟩, th⟩ := txL_s hlty hlt hy hc
      have hfin : txC (txL Bk (l.take k)) ⟨cn, cf, ct, ⟨fA, fl.length, fc, fl⟩, ⟨uA, ul.length, uc, ul⟩, th⟩ = t1 ++ nlB := by unfold txC; rw [ht1]
      exact xR (k + 1) ⟨by omega, by rw [hs]; have := (tx_sz hclb (txL Bk (l.take k))).2.2.2; omega⟩ (by omega) (hl := ⟨rfl, rfl, (by rw [hs, hfin]; rfl), (congrArg some (by go_num)), trivial⟩)
   ·refine s9 ?_
    refine kJ [(8, _)] ?_
    refine s7 ?_
    refine JR_two rfl (rr_tmp rfl) (rr_tmp rfl) ?_
    intro w' hw
    obtain rfl : k = l.length := by omega
    exact ⟨by unfold txtR txtQ; rw [hb]; dsimp only; rw [if_pos h21, List.take_length], hw.bel⟩
  ·refine s5 ?_
   refine kJ [] ?_
   refine s7 ?_
   refine JR_two rfl (rr_tmp rfl) (rr_tmp rfl) ?_
   intro w' hw
   exact ⟨by unfold txtR txtQ; rw [hb]; dsimp only; rw [if_neg (by rw [h21]; decide)], hw.bel⟩
 ·have hnz := bnd_ne hb
  refine s2 ?_
  refine aCB (fun w hw => check_no (hbk.up hw.bel) hb) ?_
  refine s9 ?_
  refine kJ [(0, _), (1, _), (7, _)] ?_
  refine s3 ?_
  refine aDecT ?_ (by exact hnz)
  refine s4 ?_
  refine kJ [(7, _)] ?_
  refine s8 ?_
  refine JR_two rfl (rr_tmp rfl) (rr_tmp rfl) ?_
  intro w' hw
  exact ⟨by unfold txtR txtQ; rw [hb], hw.bel⟩
end Go.Proofs.YtjkolebffbeeeaaGreatDoor
