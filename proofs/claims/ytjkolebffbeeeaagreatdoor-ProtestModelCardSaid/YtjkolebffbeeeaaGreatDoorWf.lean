/- The levels of a book, by the document. -/
import Derived.Test.YtjkolebffbeeeaaGreatDoorWe
import Derived.Test.YtjkolebffbeeeaaGreatDoorG7
namespace Go.Proofs.YtjkolebffbeeeaaGreatDoor
open Go Go.RowKit Go.Proofs
attribute [local irreducible] J JQ JL JA JD

theorem arr_parts {w : World} {A : Option Addr} {n c : Nat} {l : List ByteArray} (h : Arr 1 eS w (.slice A n c) l) : l.length ≤ 9223372036854775807 ∧ (l ≠ [] → ∃ b o, A = some ⟨b, o, none⟩ ∧ HoldL 1 eS w b o l) := by
 obtain ⟨A', c', e, -, ⟨h1, -⟩, h2⟩ := h
 injection e with e1
 rw [e1]; exact ⟨h1, h2⟩
/-! Levels. -/
abbrev LM := ByteArray → Option Int
def gM (m : LM) (x : ByteArray) : Int := (m x).getD 0
def mxF (m : LM) (n : Int) (l : List ByteArray) : Int := l.foldl (fun n f => max n (gM m f)) n
def mxU (m : LM) (n : Int) (l : List ByteArray) : Int := l.foldl (fun n f => max n (gM m f + 1)) n
def lvC (m : LM) (c : Cl) : Int := mxU m (mxF m (gM m c.th) c.fs.l) c.us.l
def rdF (N : Int) : List Cl → LM → Bool → Option (LM × Bool)
 | [], m, b => some (m, b)
 | c :: l, m, b => if lvC m c ≤ N then rdF N l (if gM m c.th < lvC m c then upd m c.th (lvC m c) else m) (if gM m c.th < lvC m c then true else b) else none
def lvF (N : Int) (B : List Cl) : Nat → LM → Option LM
 | 0, m => some m
 | k + 1, m => match rdF N B m false with | none => none | some (m', b) => if b then lvF N B k m' else some m'
def lvl (B : List Cl) : Option LM := lvF B.length B (B.length * B.length + 1) (fun _ => none)
def mea (N : Int) (B : List Cl) (m : LM) : Nat := (B.map fun c => (N - gM m c.th).toNat).sum
theorem gM_upd (m : LM) (x y : ByteArray) (v : Int) : gM (upd m x v) y = if y = x then v else gM m y := by
 unfold gM upd; split <;> rfl
theorem mea_le {N : Int} {m m' : LM} (h : ∀ x, gM m x ≤ gM m' x) : ∀ B, mea N B m' ≤ mea N B m
 | [] => Nat.le_refl _
 | c :: B => by
  have ih := mea_le (N := N) h B
  unfold mea at ih ⊢
  rw [List.map_cons, List.map_cons, List.sum_cons, List.sum_cons]
  have := h c.th
  omega
theorem mea_upd {N : Int} {m : LM} {x : ByteArray} {v : Int} (hv : gM m x < v) (hN : v ≤ N) : ∀ B : List Cl, (∃ c ∈ B, c.th = x) → mea N B (upd m x v) < mea N B m
 | [], h => by obtain ⟨c, h, -⟩ := h; cases h
 | c :: B, h => by
  have hle : ∀ y, gM m y ≤ gM (upd m x v) y := fun y => by rw [gM_upd]; split; rename_i e; subst e; omega; exact Int.le_refl _
  have h1 := mea_le (N := N) hle B
  by_cases e : c.th = x
  ·unfold mea at h1 ⊢
   rw [List.map_cons, List.map_cons, List.sum_cons, List.sum_cons, gM_upd, if_pos e, e]
   omega
  ·have ih := mea_upd hv hN B (by obtain ⟨d, hd, e'⟩ := h; rcases List.mem_cons.1 hd with rfl | hd; exact absurd e' e; exact ⟨d, hd, e'⟩)
   unfold mea at ih ⊢
   rw [List.map_cons, List.map_cons, List.sum_cons, List.sum_cons, gM_upd, if_neg e]
   omega
theorem mea_0 (N : Int) : ∀ B : List Cl, mea N B (fun _ => none) ≤ B.length * N.toNat
 | [] => Nat.zero_le _
 | c :: B => by
  have ih := mea_0 N B
  unfold mea at ih ⊢
  rw [List.map_cons, List.sum_cons, List.length_cons, Nat.succ_mul]
  have : (N - gM (fun _ => none) c.th).toNat = N.toNat := by show (N - 0).toNat = _; rw [Int.sub_zero]
  omega
/-- Levels are from 0 to N. -/
def InM (N : Int) (m : LM) : Prop := ∀ x, 0 ≤ gM m x ∧ gM m x ≤ N
theorem InM.nil {N : Int} (h : 0 ≤ N) : InM N (fun _ => none) := fun _ => ⟨Int.le_refl _, h⟩
theorem InM.upd {N : Int} {m : LM} (h : InM N m) {x : ByteArray} {v : Int} (h0 : 0 ≤ v) (hv : v ≤ N) : InM N (upd m x v) := fun y => by
 rw [gM_upd]; split; exact ⟨h0, hv⟩; exact h y
theorem mxF_in {N : Int} {m : LM} (h : InM N m) : ∀ (l : List ByteArray) (n : Int), 0 ≤ n ∧ n ≤ N → n ≤ mxF m n l ∧ 0 ≤ mxF m n l ∧ mxF m n l ≤ N
 | [], n, hn => ⟨Int.le_refl _, hn⟩
 | f :: l, n, hn => by
  have h1 := h f
  have := mxF_in h l (max n (gM m f)) (by omega)
  unfold mxF at this ⊢
  rw [List.foldl_cons]; omega
theorem mxU_in {N : Int} {m : LM} (h : InM N m) : ∀ (l : List ByteArray) (n : Int), 0 ≤ n ∧ n ≤ N + 1 → n ≤ mxU m n l ∧ 0 ≤ mxU m n l ∧ mxU m n l ≤ N + 1
 | [], n, hn => ⟨Int.le_refl _, hn⟩
 | f :: l, n, hn => by
  have h1 := h f
  have := mxU_in h l (max n (gM m f + 1)) (by omega)
  unfold mxU at this ⊢
  rw [List.foldl_cons]; omega
theorem mxF_s (m : LM) (n : Int) (l : List ByteArray) (k : Nat) (h : k < l.length) : mxF m n (l.take (k + 1)) = max (mxF m n (l.take k)) (gM m (l[k]'h)) := by
 unfold mxF; rw [List.take_succ_eq_append_getElem h, List.foldl_append]; rfl
theorem mxU_s (m : LM) (n : Int) (l : List ByteArray) (k : Nat) (h : k < l.length) : mxU m n (l.take (k + 1)) = max (mxU m n (l.take k)) (gM m (l[k]'h) + 1) := by
 unfold mxU; rw [List.take_succ_eq_append_getElem h, List.foldl_append]; rfl
/-- What a call that looks for levels gives. -/
def lvI (b : Nat) (k : Nat) (m : LM) : It := mapK Tryz.prog 9 3 kS okS dI b k m
def RetLv (R : Option LM) (k : Nat) (w : World) (e : Ending) (w' : World) : Prop := match R with
 | none => Back (.tuple #[.map none, .bool false]) w e w'
 | some m => Ret w (fun _ : Nat => True) (fun b => .tuple #[.map (some b), .bool true]) (fun b => [lvI b k m]) e w'

set_option maxRecDepth 100000 in
set_option maxHeartbeats 4000000 in
theorem levels60 (Bk : List Cl) (v : Value) (w : World) (hB : Arr 6 eC w v Bk) (hcl : ∀ c ∈ Bk, ClW w c) (hBl : Bk.length ≤ 64) : Calls Tryz.prog 60 #[v] w (RetLv (lvl Bk) 4096 w) := by
 obtain ⟨BA, bc, rfl, -, ⟨hBb, -⟩, hBA⟩ := hB
 refine J_enter (fun _ => False) (vs := [.slice BA Bk.length bc]) (k := 74) (l := [(0, .slice BA Bk.length bc)]) Tryz.func60 rfl rfl Tryz.ntmps60 rfl rfl (Wd.start _) ?_
 refine s8 ?_
 refine aW (ow_makeK (kt := 9) (e := 3) (kv := kS) (ok := okS) (ed := dI) rfl rfl rfl (fun _ => by kernel_rfl)) (fun b11 hb11 => ?_)
 refine s5 ?_
 refine J_leK (k' := 4096 - mea ((Bk.length : Nat) : Int) Bk (fun _ => none)) (by repeat constructor) (Nat.zero_le _) ?_
 refine s5 ?_
 refine xL (T := Nat × LM × Bool) (fun q => InM ((Bk.length : Nat) : Int) q.2.1 ∧ (if q.2.2 = true then lvl Bk = lvF ((Bk.length : Nat) : Int) Bk q.1 q.2.1 ∧ mea ((Bk.length : Nat) : Int) Bk q.2.1 < q.1 else lvl Bk = some q.2.1)) (fun q => [(0, .slice BA Bk.length bc), (4, .map (some b11)), (5, .bool q.2.2)]) (fun q => [mapK Tryz.prog 9 3 kS okS dI b11 (4096 - mea (Bk.length : Nat) Bk q.2.1) q.2.1]) (fun q => q.1) (Bk.length * Bk.length + 1, (fun _ => none), true) ⟨InM.nil (by omega), by rw [if_pos rfl]; exact ⟨rfl, by have := mea_0 ((Bk.length : Nat) : Int) Bk; rw [Int.toNat_natCast] at this; dsimp only; omega⟩⟩ ?_
 rintro ⟨k, m, more⟩ ⟨hin, hlv⟩
 dsimp only at hin hlv ⊢
 refine s6 ?_
 refine J_ifb rfl (fun h12 => ?_) (fun h12 => ?_)
 ·subst h12
  refine s4 ?_
  rw [if_pos rfl] at hlv
  obtain ⟨k, rfl⟩ : ∃ j, k = j + 1 := ⟨k - 1, by omega⟩
  have hmc := mea_le (N := ((Bk.length : Nat) : Int)) (m := fun _ => none) (m' := m) (fun x => (hin x).1) Bk
  have hmc0 := mea_0 ((Bk.length : Nat) : Int) Bk
  rw [Int.toNat_natCast] at hmc0
  have hNN : Bk.length * Bk.length ≤ 4096 := Nat.mul_le_mul hBl hBl
  refine s10 ?_
  refine xL (T := Nat × LM × Bool) (fun q => q.1 ≤ Bk.length ∧ InM ((Bk.length : Nat) : Int) q.2.1 ∧ rdF ((Bk.length : Nat) : Int) (Bk.drop q.1) q.2.1 q.2.2 = rdF ((Bk.length : Nat) : Int) Bk m false ∧ (q.2.2 = true → mea ((Bk.length : Nat) : Int) Bk q.2.1 < mea ((Bk.length : Nat) : Int) Bk m) ∧ mea ((Bk.length : Nat) : Int) Bk q.2.1 ≤ mea ((Bk.length : Nat) : Int) Bk m) (fun q => [(0, .slice BA Bk.length bc), (4, .map (some b11)), (5, .bool q.2.2), (6, .int .i64 (q.1 : Nat))]) (fun q => [mapK Tryz.prog 9 3 kS okS dI b11 (4096 - mea (Bk.length : Nat) Bk q.2.1) q.2.1]) (fun q => Bk.length - q.1) (0, m, false) ⟨Nat.zero_le _, hin, rfl, nofun, Nat.le_refl _⟩ ?_
  rintro ⟨i, m1, bb⟩ ⟨hi, hin1, hrd, hbt, hml⟩
  dsimp only at hi hin1 hrd hbt hml ⊢
  refine s7 ?_
  refine JL_dec (fun h16 => ?_) (fun h16 => ?_)
  ·refine s8 ?_
   have hlt : i < Bk.length := by omega
   obtain ⟨bB, pB, rfl, hhB⟩ := hBA (by intro e; subst e; simp at hlt)
   obtain ⟨⟨cn, cf, ct, ⟨fA, fn, fc, fl⟩, ⟨uA, un, uc, ul⟩, th⟩, hc⟩ : ∃ c, Bk[i]'hlt = c := ⟨_, rfl⟩
   have hcm : (⟨cn, cf, ct, ⟨fA, fn, fc, fl⟩, ⟨uA, un, uc, ul⟩, th⟩ : Cl) ∈ Bk := by rw [← hc]; exact List.getElem_mem _
   obtain ⟨hfs, hus, hfk, huk, hnk, htk⟩ := hcl _ hcm
   obtain rfl : fn = fl.length := dv_nc hfs
   obtain rfl : un = ul.length := dv_nc hus
   dsimp only [Dv.v] at hfs hus hfk huk hnk htk
   obtain ⟨hfb, hfA⟩ := arr_parts hfs
   obtain ⟨hub, huA⟩ := arr_parts hus
   have hrc : rdF ((Bk.length : Nat) : Int) (Bk.drop i) m1 bb = if lvC m1 ⟨cn, cf, ct, ⟨fA, fl.length, fc, fl⟩, ⟨uA, ul.length, uc, ul⟩, th⟩ ≤ ((Bk.length : Nat) : Int) then rdF ((Bk.length : Nat) : Int) (Bk.drop (i + 1)) (if gM m1 th < lvC m1 ⟨cn, cf, ct, ⟨fA, fl.length, fc, fl⟩, ⟨uA, ul.length, uc, ul⟩, th⟩ then upd m1 th (lvC m1 ⟨cn, cf, ct, ⟨fA, fl.length, fc, fl⟩, ⟨uA, ul.length, uc, ul⟩, th⟩) else m1) (if gM m1 th < lvC m1 ⟨cn, cf, ct, ⟨fA, fl.length, fc, fl⟩, ⟨uA, ul.length, uc, ul⟩, th⟩ then true else bb) else none := by rw [List.drop_eq_getElem_cons hlt, hc]; rfl
   refine kJ [(0, _), (4, _), (5, _), (6, _)] ?_
   refine s4 ?_
   refine aV (vHoldA (cs := [.string cn, .int .i64 cf, .int .i64 ct, .slice fA fl.length fc, .slice uA ul.length uc, .string th]) EC6 rfl rfl (fun h => h) hhB hlt (by rw [hc]; rfl)) ?_
   refine aW oA (fun b7 hb7 => ?_)
   refine s4 ?_
   refine kJ [(0, _), (4, _), (5, _), (6, _), (7, _)] ?_
   refine s4 ?_
   refine aV (rv_lookK KS LI64 th Und.h rfl rfl rfl (by repeat constructor) rfl htk) ?_
   refine s5 ?_
   refine kJ [(0, _), (4, _), (5, _), (6, _), (7, _), (8, _)] ?_
   refine s5 ?_
   refine xL (T := Nat) (fun j => j ≤ fl.length) (fun j => [(0, .slice (some ⟨bB, pB, none⟩) Bk.length bc), (4, .map (some b11)), (5, .bool bb), (6, .int .i64 (i : Nat)), (7, .pointer (some ⟨b7, 0, none⟩)), (8, .int .i64 (mxF m1 (gM m1 th) (fl.take j))), (9, .int .i64 (j : Nat))]) (fun j => [cellB b7 [.string cn, .int .i64 cf, .int .i64 ct, .slice fA fl.length fc, .slice uA ul.length uc, .string th] 40, mapK Tryz.prog 9 3 kS okS dI b11 (4096 - mea (Bk.length : Nat) Bk m1) m1]) (fun j => fl.length - j) 0 (Nat.zero_le _) ?_
   rintro j hj
   refine s8 ?_
   refine JL_dec (fun h31 => ?_) (fun h31 => ?_)
   ·refine s7 ?_
    have hlty : j < fl.length := by omega
    obtain ⟨bqy, pqy, rfl, hhf⟩ := hfA (by intro e; subst e; simp at hlty)
    obtain ⟨y, hy⟩ : ∃ y, fl[j]'hlty = y := ⟨_, rfl⟩
    have hmy : y ∈ fl := by rw [← hy]; exact List.getElem_mem _
    refine kJ [(0, _), (4, _), (5, _), (6, _), (7, _), (8, _), (9, _)] ?_
    refine s7 ?_
    refine aV (vHold rfl rfl (fun h => h) hhf hlty (by omega) (by rw [hy]; rfl)) ?_
    refine aV (rv_lookK KS LI64 y Und.h rfl rfl rfl (by repeat constructor) rfl (hfk y hmy)) ?_
    refine s5 ?_
    refine kJ [(0, _), (4, _), (5, _), (6, _), (7, _), (8, _), (9, _)] ?_
    refine s5 ?_
    have hs := mxF_s m1 (gM m1 th) fl j hlty
    rw [hy] at hs
    exact xR (j + 1) (by omega) (by omega) (hl := ⟨rfl, rfl, rfl, rfl, rfl, (by rw [hs]; rfl), (congrArg some (by go_num)), trivial⟩)
   ·refine s10 ?_
    obtain rfl : j = fl.length := by omega
    rw [List.take_length]
    obtain ⟨n1, hn1⟩ : ∃ n, mxF m1 (gM m1 th) fl = n := ⟨_, rfl⟩
    rw [hn1]
    have hn1b := mxF_in hin1 fl (gM m1 th) (hin1 th)
    rw [hn1] at hn1b
    refine kJ [(0, _), (4, _), (5, _), (6, _), (7, _), (8, _)] ?_
    refine s5 ?_
    refine xL (T := Nat) (fun j => j ≤ ul.length) (fun j => [(0, .slice (some ⟨bB, pB, none⟩) Bk.length bc), (4, .map (some b11)), (5, .bool bb), (6, .int .i64 (i : Nat)), (7, .pointer (some ⟨b7, 0, none⟩)), (8, .int .i64 (mxU m1 n1 (ul.take j))), (10, .int .i64 (j : Nat))]) (fun j => [cellB b7 [.string cn, .int .i64 cf, .int .i64 ct, .slice fA fl.length fc, .slice uA ul.length uc, .string th] 40, mapK Tryz.prog 9 3 kS okS dI b11 (4096 - mea (Bk.length : Nat) Bk m1) m1]) (fun j => ul.length - j) 0 (Nat.zero_le _) ?_
    rintro j hj
    refine s8 ?_
    refine JL_dec (fun h47 => ?_) (fun h47 => ?_)
    ·refine s7 ?_
     have hlty : j < ul.length := by omega
     obtain ⟨bqy, pqy, rfl, hhu⟩ := huA (by intro e; subst e; simp at hlty)
     obtain ⟨y, hy⟩ : ∃ y, ul[j]'hlty = y := ⟨_, rfl⟩
     have hmy : y ∈ ul := by rw [← hy]; exact List.getElem_mem _
     have hgy : 0 ≤ (m1 y).getD 0 ∧ (m1 y).getD 0 ≤ ((Bk.length : Nat) : Int) := hin1 y
     refine kJ [(0, _), (4, _), (5, _), (6, _), (7, _), (8, _), (10, _)] ?_
     refine s7 ?_
     refine aV (vHold rfl rfl (fun h => h) hhu hlty (by omega) (by rw [hy]; rfl)) ?_
     refine aV (rv_lookK KS LI64 y Und.h rfl rfl rfl (by repeat constructor) rfl (huk y hmy)) ?_
     refine s6 ?_
     refine kJ [(0, _), (4, _), (5, _), (6, _), (7, _), (8, _), (10, _)] ?_
     refine s5 ?_
     have hs := mxU_s m1 n1 ul j hlty
     rw [hy] at hs
     exact xR (j + 1) (by omega) (by omega) (hl := ⟨rfl, rfl, rfl, rfl, rfl, (by rw [hs]; rfl), (congrArg some (by go_num)), trivial⟩)
    ·refine s10 ?_
     obtain rfl : j = ul.length := by omega
     rw [List.take_length]
     obtain ⟨lv, hlv9'⟩ : ∃ n, mxU m1 n1 ul = n := ⟨_, rfl⟩
     rw [hlv9']
     have hlv9 : lvC m1 ⟨cn, cf, ct, ⟨fA, fl.length, fc, fl⟩, ⟨uA, ul.length, uc, ul⟩, th⟩ = lv := by rw [← hlv9', ← hn1]; rfl
     have hlvb := mxU_in hin1 ul n1 (by omega)
     rw [hlv9'] at hlvb
     refine kJ [(0, _), (4, _), (5, _), (6, _), (7, _), (8, _)] ?_
     refine s5 ?_
     refine JL_dec (fun h63 => ?_) (fun h63 => ?_)
     ·refine s4 ?_
      refine kJ [] ?_
      refine s15 ?_
      refine JR_two rfl (rr_tmp rfl) (rr_tmp rfl) ?_
      intro w' hw
      have e : lvl Bk = none := by rw [hlv.1]; show (match rdF _ _ _ _ with | none => none | some (m', b) => if b then lvF _ Bk k m' else some m') = _; rw [← hrd, hrc, hlv9, if_neg (by omega)]
      rw [e]; exact ⟨rfl, hw.bel⟩
     ·refine s6 ?_
      refine kJ [(0, _), (4, _), (5, _), (6, _), (7, _), (8, _)] ?_
      refine s5 ?_
      refine aV (rv_lookK KS LI64 th Und.h rfl rfl rfl (by repeat constructor) rfl htk) ?_
      refine s1 ?_
      refine JL_dec (fun h69 => ?_) (fun h69 => ?_)
      ·refine s4 ?_
       refine kJ [(0, _), (4, _), (6, _), (7, _), (8, _)] ?_
       refine s5 ?_
       refine aW0 (ow_putK (m'' := 4096 - mea ((Bk.length : Nat) : Int) Bk (upd m1 th lv)) KS LI64 th lv Und.h rfl rfl rfl rfl rfl rfl rfl (by repeat constructor) htk (by unfold W64; omega) (by omega) (by have := mea_upd (N := ((Bk.length : Nat) : Int)) (m := m1) (x := th) (v := lv) h69 (by omega) Bk ⟨_, hcm, rfl⟩; omega)) ?_
       refine s2 ?_
       refine kJ [(0, _), (4, _), (6, _)] ?_
       refine s10 ?_
       have hrn : rdF ((Bk.length : Nat) : Int) (Bk.drop (i + 1)) (upd m1 th lv) true = rdF ((Bk.length : Nat) : Int) Bk m false := by rw [← hrd, hrc, hlv9, if_pos (by omega), if_pos (by unfold gM; exact h69), if_pos (by unfold gM; exact h69)]
       have hmu := mea_upd (N := ((Bk.length : Nat) : Int)) (m := m1) (x := th) (v := lv) h69 (by omega) Bk ⟨_, hcm, rfl⟩
       exact xR (i + 1, (upd m1 th lv), true) ⟨by dsimp only; omega, hin1.upd (by omega) (by omega), hrn, fun _ => by dsimp only; omega, by dsimp only; omega⟩ (by dsimp only; omega)
      ·refine s6 ?_
       refine kJ [(0, _), (4, _), (5, _), (6, _)] ?_
       refine s5 ?_
       have hrn : rdF ((Bk.length : Nat) : Int) (Bk.drop (i + 1)) m1 bb = rdF ((Bk.length : Nat) : Int) Bk m false := by rw [← hrd, hrc, hlv9, if_pos (by omega), if_neg (by unfold gM; exact h69), if_neg (by unfold gM; exact h69)]
       exact xR (i + 1, m1, bb) ⟨by dsimp only; omega, hin1, hrn, hbt, hml⟩ (by dsimp only; omega)
  ·refine s8 ?_
   obtain rfl : i = Bk.length := by omega
   rw [List.drop_length] at hrd
   have hf : rdF ((Bk.length : Nat) : Int) Bk m false = some (m1, bb) := hrd.symm
   have hnx : (if bb = true then lvl Bk = lvF ((Bk.length : Nat) : Int) Bk k m1 ∧ mea ((Bk.length : Nat) : Int) Bk m1 < k else lvl Bk = some m1) := by
    cases bb
    ·rw [if_neg (by simp), hlv.1]; unfold lvF; rw [hf]; rfl
    ·rw [if_pos rfl]
     exact ⟨by rw [hlv.1]; show (match rdF _ _ _ _ with | none => none | some (m', b) => if b then lvF _ Bk k m' else some m') = _; rw [hf]; rfl, by have := hbt rfl; omega⟩
   exact xR (k, m1, bb) ⟨hin1, hnx⟩ (by dsimp only; omega)
 ·subst h12
  refine s6 ?_
  rw [if_neg (by simp)] at hlv
  refine J_leK (k' := 4096) (by repeat constructor) (by omega) ?_
  refine s7 ?_
  refine JR_two rfl (rr_tmp rfl) (rr_tmp rfl) ?_
  intro w' hw
  rw [hlv]; exact ⟨b11, trivial, rfl, hw.pick (by unfold lvI; repeat constructor)⟩
end Go.Proofs.YtjkolebffbeeeaaGreatDoor
