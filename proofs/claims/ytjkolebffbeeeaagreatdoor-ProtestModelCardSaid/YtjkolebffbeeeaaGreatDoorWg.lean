/- A book, if it is sound. -/
import Derived.Test.YtjkolebffbeeeaaGreatDoorWf
import Derived.Test.YtjkolebffbeeeaaGreatDoorG8
namespace Go.Proofs.YtjkolebffbeeeaaGreatDoor
open Go Go.RowKit Go.Proofs
attribute [local irreducible] J JQ JL JA JD

theorem arr_partsC {w : World} {A : Option Addr} {n c : Nat} {l : List Cl} (h : Arr 6 eC w (.slice A n c) l) : l.length ≤ 9223372036854775807 ∧ (l ≠ [] → ∃ b o, A = some ⟨b, o, none⟩ ∧ HoldL 6 eC w b o l) := by
 obtain ⟨A', c', e, -, ⟨h1, -⟩, h2⟩ := h
 injection e with e1
 rw [e1]; exact ⟨h1, h2⟩
theorem keyS (key : Value) (kl : Lit) (h : keyOf Tryz.prog 9 key = some kl) : ∃ x, key = kS x ∧ okS x := by
 obtain ⟨s, h1, -, h3⟩ := WideMaps.string_of_keyOf (Und.h (P := Tryz.prog) (t := 9) (u := .string)) h
 exact ⟨s, h1, h3⟩
def fstBad : List Cl → Nat → Option Nat
 | [], _ => none
 | c :: l, k => if clB c then fstBad l (k + 1) else some k
/-- Why a list of clauses is no sound book. -/
def bndF (Bk : List Cl) : Option (Int × Int) := if 64 < Bk.length then some (-1, 3) else match fstBad Bk 0 with
 | some i => some ((i : Nat), 2)
 | none => match lvl Bk with | none => some (-1, 9) | some _ => none
structure BdT where
 bp : Nat
 b : Nat
 m : LM
 top : Int
def BdP (Bk : List Cl) (t : BdT) : Prop := lvl Bk = some t.m ∧ InM (Bk.length : Nat) t.m ∧ (0 ≤ t.top ∧ t.top ≤ (Bk.length : Nat)) ∧ ∀ x, okS x → gM t.m x ≤ t.top
def BdG (A : Option Addr) (n c : Nat) (t : BdT) : List It := [cellB t.bp [.slice A n c, .map (some t.b), .int .i64 t.top] 84, mapK Tryz.prog 9 3 kS okS dI t.b (4096) t.m]
def RetBd (Bk : List Cl) (A : Option Addr) (c : Nat) (w : World) (e : Ending) (w' : World) : Prop := match bndF Bk with
 | some (a, n) => Fails a n w e w'
 | none => Ret w (BdP Bk) (fun t => .pointer (some ⟨t.bp, 0, none⟩)) (BdG A Bk.length c) e w'

set_option maxRecDepth 100000 in
set_option maxHeartbeats 4000000 in
theorem bound39 (Bk : List Cl) (BA : Option Addr) (bc : Nat) (w : World) (hB : Arr 6 eC w (.slice BA Bk.length bc) Bk) (hcl : ∀ c ∈ Bk, ClW w c) : Calls Tryz.prog 39 #[.slice BA Bk.length bc] w (RetBd Bk BA bc w) := by
 obtain ⟨hBb, hBA⟩ := arr_partsC hB
 refine J_enter (fun _ => False) (vs := [.slice BA Bk.length bc]) (k := 125) (l := [(0, .slice BA Bk.length bc)]) Tryz.func39 rfl rfl Tryz.ntmps39 rfl rfl (Wd.start _) ?_
 refine s10 ?_
 refine JL_dec (fun h18 => ?_) (fun h18 => ?_)
 ·refine aCB (fun w hw => need_yes _ _ w) ?_
  refine s4 ?_
  refine kJ [(0, _)] ?_
  refine s7 ?_
  refine xL (T := Nat) (fun i => i ≤ Bk.length ∧ fstBad Bk 0 = fstBad (Bk.drop i) i) (fun i => [(0, .slice BA Bk.length bc), (20, .slice BA Bk.length bc), (21, .int .i64 ((Bk.length : Nat) : Int)), (22, .int .i64 (i : Nat))]) (fun i => []) (fun i => Bk.length - i) 0 ⟨Nat.zero_le _, rfl⟩ ?_
  rintro i ⟨hi, hfst⟩
  refine s3 ?_
  refine JL_dec (fun h23 => ?_) (fun h23 => ?_)
  ·refine s9 ?_
   have hlt : i < Bk.length := by omega
   obtain ⟨bB, pB, rfl, hhB⟩ := hBA (by intro e; subst e; simp at hlt)
   obtain ⟨⟨cn, cf, ct, ⟨fA, fn, fc, fl⟩, ⟨uA, un, uc, ul⟩, th⟩, hc⟩ : ∃ c, Bk[i]'hlt = c := ⟨_, rfl⟩
   have hcm : (⟨cn, cf, ct, ⟨fA, fn, fc, fl⟩, ⟨uA, un, uc, ul⟩, th⟩ : Cl) ∈ Bk := by rw [← hc]; exact List.getElem_mem _
   obtain ⟨hfs, hus, hfk, huk, hnk, htk⟩ := hcl _ hcm
   obtain rfl : fn = fl.length := dv_nc hfs
   obtain rfl : un = ul.length := dv_nc hus
   dsimp only [Dv.v] at hfs hus hfk huk hnk htk
   obtain ⟨hfb, hfA⟩ := arr_parts hfs
   obtain ⟨hub, huA⟩ := arr_parts hus
   refine s3 ?_
   refine aV (vHoldA (cs := [.string cn, .int .i64 cf, .int .i64 ct, .slice fA fl.length fc, .slice uA ul.length uc, .string th]) EC6 rfl rfl (fun h => h) hhB hlt (by rw [hc]; rfl)) ?_
   refine aW oA (fun b4 hb4 => ?_)
   refine s4 ?_
   refine kJ [(0, _), (3, _), (4, _), (20, _), (21, _), (22, _)] ?_
   refine s2 ?_
   refine aCB (fun w hw => CheckClause28 _ w ((hcl _ hcm).up hw.bel)) ?_
   refine JL_bool (fun h28 => ?_) (fun h28 => ?_)
   ·refine s1 ?_
    refine aCB (fun w hw => need_yes _ _ w) ?_
    refine s3 ?_
    refine kJ [(0, _), (20, _), (21, _), (22, _)] ?_
    refine s4 ?_
    have hn : fstBad Bk 0 = fstBad (Bk.drop (i + 1)) (i + 1) := by rw [hfst, List.drop_eq_getElem_cons hlt, hc]; show (if clB _ = true then _ else _) = _; rw [h28]; rfl
    exact xR (i + 1) ⟨by omega, hn⟩ (by omega)
   ·refine s1 ?_
    refine aPan (ecF rfl rfl) (fun w hw => need_no _ _ w) ?_
    refine s5 ?_
    refine JR_panic ?_
    intro w' hw
    have e : bndF Bk = some (((i : Nat) : Int), 2) := by unfold bndF; rw [if_neg (by omega), hfst, List.drop_eq_getElem_cons hlt, hc]; unfold fstBad; rw [h28]; rfl
    unfold RetBd; rw [e]; exact ⟨rfl, hw.bel⟩
  ·refine s10 ?_
   obtain rfl : i = Bk.length := by omega
   rw [List.drop_length] at hfst
   replace hfst : fstBad Bk 0 = none := hfst
   refine kJ [(0, _)] ?_
   refine s2 ?_
   refine aW (ow_makeK (kt := 9) (e := 3) (kv := kS) (ok := okS) (ed := dI) rfl rfl rfl (fun _ => by kernel_rfl)) (fun b33 hb33 => ?_)
   refine aP (rp_buildC (fun us => [us.getD 0 undef, us.getD 1 undef, .int .i64 0]) rfl rfl (fun w => by kernel_rfl)) ?_
   refine aW (oX [_, _, _]) (fun b35 hb35 => ?_)
   refine s5 ?_
   refine J_leK (k' := 4096 - mea ((Bk.length : Nat) : Int) Bk (fun _ => none)) (by repeat constructor) (Nat.zero_le _) ?_
   refine kJ [(0, _), (5, _)] ?_
   refine s5 ?_
   refine xL (T := Nat × LM × Bool) (fun q => InM ((Bk.length : Nat) : Int) q.2.1 ∧ (if q.2.2 = true then lvl Bk = lvF ((Bk.length : Nat) : Int) Bk q.1 q.2.1 ∧ mea ((Bk.length : Nat) : Int) Bk q.2.1 < q.1 else lvl Bk = some q.2.1)) (fun q => [(0, .slice BA Bk.length bc), (5, .pointer (some ⟨b35, 0, none⟩)), (6, .bool q.2.2)]) (fun q => [cellB b35 [.slice BA Bk.length bc, .map (some b33), .int .i64 0] 84, mapK Tryz.prog 9 3 kS okS dI b33 (4096 - mea (Bk.length : Nat) Bk q.2.1) q.2.1]) (fun q => q.1) (Bk.length * Bk.length + 1, (fun _ => none), true) ⟨InM.nil (by omega), by rw [if_pos rfl]; exact ⟨rfl, by have := mea_0 ((Bk.length : Nat) : Int) Bk; rw [Int.toNat_natCast] at this; dsimp only; omega⟩⟩ ?_
   rintro ⟨k, m, more⟩ ⟨hin, hlv⟩
   dsimp only at hin hlv ⊢
   refine s6 ?_
   refine J_ifb rfl (fun h36 => ?_) (fun h36 => ?_)
   ·subst h36
    refine s4 ?_
    rw [if_pos rfl] at hlv
    obtain ⟨k, rfl⟩ : ∃ j, k = j + 1 := ⟨k - 1, by omega⟩
    have hmc := mea_le (N := ((Bk.length : Nat) : Int)) (m := fun _ => none) (m' := m) (fun x => (hin x).1) Bk
    have hmc0 := mea_0 ((Bk.length : Nat) : Int) Bk
    rw [Int.toNat_natCast] at hmc0
    have hNN : Bk.length * Bk.length ≤ 4096 := Nat.mul_le_mul (show Bk.length ≤ 64 by omega) (show Bk.length ≤ 64 by omega)
    refine s12 ?_
    refine xL (T := Nat × LM × Bool) (fun q => q.1 ≤ Bk.length ∧ InM ((Bk.length : Nat) : Int) q.2.1 ∧ rdF ((Bk.length : Nat) : Int) (Bk.drop q.1) q.2.1 q.2.2 = rdF ((Bk.length : Nat) : Int) Bk m false ∧ (q.2.2 = true → mea ((Bk.length : Nat) : Int) Bk q.2.1 < mea ((Bk.length : Nat) : Int) Bk m) ∧ mea ((Bk.length : Nat) : Int) Bk q.2.1 ≤ mea ((Bk.length : Nat) : Int) Bk m) (fun q => [(0, .slice BA Bk.length bc), (5, .pointer (some ⟨b35, 0, none⟩)), (6, .bool q.2.2), (37, .slice BA Bk.length bc), (38, .int .i64 ((Bk.length : Nat) : Int)), (39, .int .i64 (q.1 : Nat))]) (fun q => [cellB b35 [.slice BA Bk.length bc, .map (some b33), .int .i64 0] 84, mapK Tryz.prog 9 3 kS okS dI b33 (4096 - mea (Bk.length : Nat) Bk q.2.1) q.2.1]) (fun q => Bk.length - q.1) (0, m, false) ⟨Nat.zero_le _, hin, rfl, nofun, Nat.le_refl _⟩ ?_
    rintro ⟨i, m1, bb⟩ ⟨hi, hin1, hrd, hbt, hml⟩
    dsimp only at hi hin1 hrd hbt hml ⊢
    refine s3 ?_
    refine JL_dec (fun h40 => ?_) (fun h40 => ?_)
    ·refine s9 ?_
     have hlt : i < Bk.length := by omega
     obtain ⟨bB, pB, rfl, hhB⟩ := hBA (by intro e; subst e; simp at hlt)
     obtain ⟨⟨cn, cf, ct, ⟨fA, fn, fc, fl⟩, ⟨uA, un, uc, ul⟩, th⟩, hc⟩ : ∃ c, Bk[i]'hlt = c := ⟨_, rfl⟩
     have hcm : (⟨cn, cf, ct, ⟨fA, fn, fc, fl⟩, ⟨uA, un, uc, ul⟩, th⟩ : Cl) ∈ Bk := by rw [← hc]; exact List.getElem_mem _
     obtain ⟨hfs, hus, hfk, huk, hnk, htk⟩ := hcl _ hcm
     obtain rfl : fn = fl.length := dv_nc hfs
     obtain rfl : un = ul.length := dv_nc hus
     dsimp only [Dv.v] at hfs hus hfk huk hnk htk
     obtain ⟨hfb, hfA⟩ := arr_parts hfs
     obtain ⟨hub, huA⟩ := arr_parts hus
     have hrc : rdF ((Bk.length : Nat) : Int) (Bk.drop i) m1 bb = if lvC m1 ⟨cn, cf, ct, ⟨fA, fl.length, fc, fl⟩, ⟨uA, ul.length, uc, ul⟩, th⟩ ≤ ((Bk.length : Nat) : Int) then rdF ((Bk.length : Nat) : Int) (Bk.drop (i + 1)) (if gM m1 th < lvC m1 ⟨cn, cf, ct, ⟨fA, fl.length, fc, fl⟩, ⟨uA, ul.length, uc, ul⟩, th⟩ then upd m1 th (lvC m1 ⟨cn, cf, ct, ⟨fA, fl.length, fc, fl⟩, ⟨uA, ul.length, uc, ul⟩, th⟩) else m1) (if gM m1 th < lvC m1 ⟨cn, cf, ct, ⟨fA, fl.length, fc, fl⟩, ⟨uA, ul.length, uc, ul⟩, th⟩ then true else bb) else none := by rw [List.drop_eq_getElem_cons hlt, hc]; rfl
     refine s2 ?_
     refine aV (vHoldA (cs := [.string cn, .int .i64 cf, .int .i64 ct, .slice fA fl.length fc, .slice uA ul.length uc, .string th]) EC6 rfl rfl (fun h => h) hhB hlt (by rw [hc]; rfl)) ?_
     refine aW oA (fun b8 hb8 => ?_)
     refine s4 ?_
     refine xD [0, 1, 2, 3, 4, 5, 6, 7] [3, 5, 6] ?_
     refine s6 ?_
     refine dL rfl (rv_lookK KS LI64 th Und.h rfl rfl rfl (by repeat constructor) rfl htk) ?_
     refine s5 ?_
     refine kJ [(0, _), (5, _), (6, _), (8, _), (9, _), (37, _), (38, _), (39, _)] ?_
     refine s8 ?_
     refine xL (T := Nat) (fun j => j ≤ fl.length) (fun j => [(0, .slice (some ⟨bB, pB, none⟩) Bk.length bc), (5, .pointer (some ⟨b35, 0, none⟩)), (6, .bool bb), (37, .slice (some ⟨bB, pB, none⟩) Bk.length bc), (38, .int .i64 ((Bk.length : Nat) : Int)), (39, .int .i64 (i : Nat)), (8, .pointer (some ⟨b8, 0, none⟩)), (9, .int .i64 (mxF m1 (gM m1 th) (fl.take j))), (51, .slice fA fl.length fc), (52, .int .i64 (fl.length : Nat)), (53, .int .i64 (j : Nat))]) (fun j => [cellB b8 [.string cn, .int .i64 cf, .int .i64 ct, .slice fA fl.length fc, .slice uA ul.length uc, .string th] 40, cellB b35 [.slice (some ⟨bB, pB, none⟩) Bk.length bc, .map (some b33), .int .i64 0] 84, mapK Tryz.prog 9 3 kS okS dI b33 (4096 - mea (Bk.length : Nat) Bk m1) m1]) (fun j => fl.length - j) 0 (Nat.zero_le _) ?_
     rintro j hj
     refine s3 ?_
     refine JL_dec (fun h54 => ?_) (fun h54 => ?_)
     ·refine s9 ?_
      have hlty : j < fl.length := by omega
      obtain ⟨bqy, pqy, rfl, hhf⟩ := hfA (by intro e; subst e; simp at hlty)
      obtain ⟨y, hy⟩ : ∃ y, fl[j]'hlty = y := ⟨_, rfl⟩
      have hmy : y ∈ fl := by rw [← hy]; exact List.getElem_mem _
      refine s2 ?_
      refine aV (vHold rfl rfl (fun h => h) hhf hlty (by omega) (by rw [hy]; rfl)) ?_
      refine s10 ?_
      refine aV (rv_lookK KS LI64 y Und.h rfl rfl rfl (by repeat constructor) rfl (hfk y hmy)) ?_
      refine s5 ?_
      refine kJ [(0, _), (5, _), (6, _), (8, _), (9, _), (37, _), (38, _), (39, _), (51, _), (52, _), (53, _)] ?_
      refine s4 ?_
      have hs := mxF_s m1 (gM m1 th) fl j hlty
      rw [hy] at hs
      exact xR (j + 1) (by omega) (by omega) (hl := ⟨rfl, rfl, rfl, rfl, rfl, rfl, rfl, (by rw [hs]; rfl), rfl, rfl, (congrArg some (by go_num)), trivial⟩)
     ·refine s11 ?_
      obtain rfl : j = fl.length := by omega
      rw [List.take_length]
      obtain ⟨n1, hn1⟩ : ∃ n, mxF m1 (gM m1 th) fl = n := ⟨_, rfl⟩
      rw [hn1]
      have hn1b := mxF_in hin1 fl (gM m1 th) (hin1 th)
      rw [hn1] at hn1b
      refine kJ [(0, _), (5, _), (6, _), (8, _), (9, _), (37, _), (38, _), (39, _)] ?_
      refine s8 ?_
      refine xL (T := Nat) (fun j => j ≤ ul.length) (fun j => [(0, .slice (some ⟨bB, pB, none⟩) Bk.length bc), (5, .pointer (some ⟨b35, 0, none⟩)), (6, .bool bb), (37, .slice (some ⟨bB, pB, none⟩) Bk.length bc), (38, .int .i64 ((Bk.length : Nat) : Int)), (39, .int .i64 (i : Nat)), (8, .pointer (some ⟨b8, 0, none⟩)), (9, .int .i64 (mxU m1 n1 (ul.take j))), (67, .slice uA ul.length uc), (68, .int .i64 (ul.length : Nat)), (69, .int .i64 (j : Nat))]) (fun j => [cellB b8 [.string cn, .int .i64 cf, .int .i64 ct, .slice fA fl.length fc, .slice uA ul.length uc, .string th] 40, cellB b35 [.slice (some ⟨bB, pB, none⟩) Bk.length bc, .map (some b33), .int .i64 0] 84, mapK Tryz.prog 9 3 kS okS dI b33 (4096 - mea (Bk.length : Nat) Bk m1) m1]) (fun j => ul.length - j) 0 (Nat.zero_le _) ?_
      rintro j hj
      refine s3 ?_
      refine JL_dec (fun h70 => ?_) (fun h70 => ?_)
      ·refine s9 ?_
       have hlty : j < ul.length := by omega
       obtain ⟨bqy, pqy, rfl, hhu⟩ := huA (by intro e; subst e; simp at hlty)
       obtain ⟨y, hy⟩ : ∃ y, ul[j]'hlty = y := ⟨_, rfl⟩
       have hmy : y ∈ ul := by rw [← hy]; exact List.getElem_mem _
       have hgy : 0 ≤ (m1 y).getD 0 ∧ (m1 y).getD 0 ≤ ((Bk.length : Nat) : Int) := hin1 y
       refine s2 ?_
       refine aV (vHold rfl rfl (fun h => h) hhu hlty (by omega) (by rw [hy]; rfl)) ?_
       refine s10 ?_
       refine aV (rv_lookK KS LI64 y Und.h rfl rfl rfl (by repeat constructor) rfl (huk y hmy)) ?_
       refine s6 ?_
       refine kJ [(0, _), (5, _), (6, _), (8, _), (9, _), (37, _), (38, _), (39, _), (67, _), (68, _), (69, _)] ?_
       refine s4 ?_
       have hs := mxU_s m1 n1 ul j hlty
       rw [hy] at hs
       exact xR (j + 1) (by omega) (by omega) (hl := ⟨rfl, rfl, rfl, rfl, rfl, rfl, rfl, (by rw [hs]; rfl), rfl, rfl, (congrArg some (by go_num)), trivial⟩)
      ·refine s10 ?_
       obtain rfl : j = ul.length := by omega
       rw [List.take_length]
       obtain ⟨lv, hlv9'⟩ : ∃ n, mxU m1 n1 ul = n := ⟨_, rfl⟩
       rw [hlv9']
       have hlv9 : lvC m1 ⟨cn, cf, ct, ⟨fA, fl.length, fc, fl⟩, ⟨uA, ul.length, uc, ul⟩, th⟩ = lv := by rw [← hlv9', ← hn1]; rfl
       have hlvb := mxU_in hin1 ul n1 (by omega)
       rw [hlv9'] at hlvb
       refine kJ [(0, _), (5, _), (6, _), (8, _), (9, _), (37, _), (38, _), (39, _)] ?_
       refine s5 ?_
       refine JL_dec (fun h86 => ?_) (fun h86 => ?_)
       ·refine aCB (fun w hw => need_yes _ _ w) ?_
        refine s3 ?_
        refine kJ [(0, _), (5, _), (6, _), (8, _), (9, _), (37, _), (38, _), (39, _)] ?_
        refine xD [0, 1, 2, 3, 4, 5, 6, 7, 8] [4, 6, 7] ?_
        refine s7 ?_
        refine dL rfl (rv_lookK KS LI64 th Und.h rfl rfl rfl (by repeat constructor) rfl htk) ?_
        refine s1 ?_
        refine dDec (fun h96 => ?_) (fun h96 => ?_)
        ·refine dO [] ?_
         refine s3 ?_
         refine kJ [(0, _), (5, _), (8, _), (9, _), (37, _), (38, _), (39, _)] ?_
         refine xD [0, 1, 2, 3, 4, 5, 6, 7, 8, 9, 10] [3, 5] ?_
         refine s7 ?_
         refine dW rfl (ow_entK (okE := W64) (m'' := 4096 - mea ((Bk.length : Nat) : Int) Bk (upd m1 th lv)) (WideMaps.string_law Und.h) KS LI64 th Und.h rfl rfl rfl rfl rfl rfl (by intro s; repeat constructor) htk (by omega) (by have := mea_upd (N := ((Bk.length : Nat) : Int)) (m := m1) (x := th) (v := lv) h96 (by omega) Bk ⟨_, hcm, rfl⟩; omega)) (fun t104 _ => ?_)
         refine s1 ?_
         refine dW0 rfl (ow_entStore lv rfl rfl rfl rfl rfl rfl (show W64 lv by unfold W64; omega) (by repeat constructor)) ?_
         refine s4 ?_
         refine kJ [(0, _), (5, _), (6, _), (37, _), (38, _), (39, _)] ?_
         refine s4 ?_
         have hrn : rdF ((Bk.length : Nat) : Int) (Bk.drop (i + 1)) (upd m1 th lv) true = rdF ((Bk.length : Nat) : Int) Bk m false := by rw [← hrd, hrc, hlv9, if_pos (by omega), if_pos (by unfold gM; exact h96), if_pos (by unfold gM; exact h96)]
         have hmu := mea_upd (N := ((Bk.length : Nat) : Int)) (m := m1) (x := th) (v := lv) h96 (by omega) Bk ⟨_, hcm, rfl⟩
         exact xR (i + 1, (upd m1 th lv), true) ⟨by dsimp only; omega, hin1.upd (by omega) (by omega), hrn, fun _ => by dsimp only; omega, by dsimp only; omega⟩ (by dsimp only; omega)
        ·refine dO [] ?_
         refine s6 ?_
         refine kJ [(0, _), (5, _), (6, _), (37, _), (38, _), (39, _)] ?_
         refine s4 ?_
         have hrn : rdF ((Bk.length : Nat) : Int) (Bk.drop (i + 1)) m1 bb = rdF ((Bk.length : Nat) : Int) Bk m false := by rw [← hrd, hrc, hlv9, if_pos (by omega), if_neg (by unfold gM; exact h96), if_neg (by unfold gM; exact h96)]
         exact xR (i + 1, m1, bb) ⟨by dsimp only; omega, hin1, hrn, hbt, hml⟩ (by dsimp only; omega)
       ·refine aPan (ecF rfl rfl) (fun w hw => need_no _ _ w) ?_
        refine s9 ?_
        refine JR_panic ?_
        intro w' hw
        have e2 : lvl Bk = none := by
         rw [hlv.1]; show (match rdF _ _ _ _ with | none => none | some (m', b) => if b then lvF _ Bk k m' else some m') = _; rw [← hrd, hrc, hlv9, if_neg (by omega)]
        have e : bndF Bk = some (-1, 9) := by unfold bndF; rw [if_neg (by omega), hfst, e2]
        unfold RetBd; rw [e]; exact ⟨rfl, hw.bel⟩
    ·refine s9 ?_
     obtain rfl : i = Bk.length := by omega
     rw [List.drop_length] at hrd
     have hf : rdF ((Bk.length : Nat) : Int) Bk m false = some (m1, bb) := hrd.symm
     have hnx : (if bb = true then lvl Bk = lvF ((Bk.length : Nat) : Int) Bk k m1 ∧ mea ((Bk.length : Nat) : Int) Bk m1 < k else lvl Bk = some m1) := by
      cases bb
      ·rw [if_neg (by simp), hlv.1]; unfold lvF; rw [hf]; rfl
      ·rw [if_pos rfl]
       exact ⟨by rw [hlv.1]; show (match rdF _ _ _ _ with | none => none | some (m', b) => if b then lvF _ Bk k m' else some m') = _; rw [hf]; rfl, by have := hbt rfl; omega⟩
     exact xR (k, m1, bb) ⟨hin1, hnx⟩ (by dsimp only; omega)
   ·subst h36
    refine s7 ?_
    rw [if_neg (by simp)] at hlv
    refine J_leK (k' := 4096) (by repeat constructor) (by omega) ?_
    refine s5 ?_
    refine aW (ow_range (ev := kI) KS Und.h rfl rfl rfl rfl (by intro r c; repeat constructor)) (fun t111 ht111 => ?_)
    refine s3 ?_
    refine xL (T := Nat × List ByteArray × Int × Option (ByteArray × Int)) (fun q => (0 ≤ q.2.2.1 ∧ q.2.2.1 ≤ ((Bk.length : Nat) : Int)) ∧ ∀ x ∈ q.2.1, gM m x ≤ q.2.2.1) (fun q => [(5, .pointer (some ⟨b35, 0, none⟩)), (111, .pointer (some ⟨t111.1, 0, none⟩))]) (fun q => [cellB b35 [.slice BA Bk.length bc, .map (some b33), .int .i64 q.2.2.1] 84, rngK Tryz.prog 9 3 kS okS kI dI b33 t111.1 4096 q.1 m q.2.1 q.2.2.2]) (fun q => q.1) (t111.2, [], 0, none) ⟨by dsimp only; omega, nofun⟩ ?_
    rintro ⟨cnt, S, top, last⟩ ⟨htop, hS⟩
    dsimp only at htop hS ⊢
    refine s2 ?_
    refine aW (ow_next (e := 3) (ed := dI) (b := b33) (m' := 4096) (cnt := cnt) (f := m) (S := S) (last := last) KS keyS LI64 rfl rfl rfl rfl (by intro u; repeat constructor)) (fun t112 ht112 => ?_)
    obtain _ | ⟨x, v, c'⟩ := t112
    ·dsimp only [nxP] at ht112
     have hu := ht112
     dsimp only [nxV, nxI]
     refine s11 ?_
     refine J_rngEnd (by repeat constructor) ?_
     refine s6 ?_
     refine JR_one rfl (rr_tmp rfl) ?_
     intro w' hw
     have e : bndF Bk = none := by unfold bndF; rw [if_neg (by omega), hfst, hlv]
     have hge : ∀ x, okS x → gM m x ≤ top := fun x hx => by
      cases hmx : m x with
      | none => unfold gM; rw [hmx]; exact htop.1
      | some v => exact hS x (hu x hx (by rw [hmx]; rfl))
     unfold RetBd; rw [e]
     exact ⟨⟨b35, b33, m, top⟩, ⟨hlv, hin, htop, hge⟩, rfl, hw.pick (by unfold BdG; repeat constructor)⟩
    ·obtain ⟨hu1, hu2, hu3, hu4⟩ := ht112
     dsimp only [nxV, nxI]
     have hvb := hin x
     unfold gM at hvb
     rw [hu2] at hvb
     dsimp only [Option.getD_some] at hvb
     refine s10 ?_
     refine aV (rv_entry rfl rfl (by repeat constructor)) ?_
     refine s4 ?_
     refine kJ [(5, _), (15, _), (111, _)] ?_
     refine s13 ?_
     have hS2 : ∀ z ∈ x :: S, gM m z ≤ max top v := by
      intro z hz
      rcases List.mem_cons.1 hz with rfl | hz
      ·unfold gM; rw [hu2]; exact Int.le_max_right _ _
      ·exact Int.le_trans (hS z hz) (Int.le_max_left _ _)
     exact xR (c', x :: S, max top v, some (x, v)) ⟨by dsimp only; omega, hS2⟩ (by dsimp only; omega)
 ·refine aPan (ecF rfl rfl) (fun w hw => need_no _ _ w) ?_
  refine s1 ?_
  refine JR_panic ?_
  intro w' hw
  have e : bndF Bk = some (-1, 3) := by unfold bndF; rw [if_pos (by omega)]
  unfold RetBd; rw [e]; exact ⟨rfl, hw.bel⟩
end Go.Proofs.YtjkolebffbeeeaaGreatDoor
