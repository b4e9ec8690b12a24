/- The program: Text. -/
import Derived.Test.YtjkolebffbeeeaaGreatDoorXg
namespace Go.Proofs.YtjkolebffbeeeaaGreatDoor
open Go Go.RowKit Go.Proofs
attribute [local irreducible] J JQ JL JA JD

theorem txt_cs {Bk : List Cl} {l : List Int} {a n : Int} (h : txtQ Bk l = some (a, n)) : (∃ a' n', bndF Bk = some (a', n') ∧ a' = a ∧ n' = n) ∨ (bndF Bk = none ∧ l.all (inB Bk) = false ∧ a = -1 ∧ n = 4) := by
 unfold txtQ at h
 obtain hb | ⟨a', n', hb⟩ := opt2 (bndF Bk)
 ·rw [hb] at h; dsimp only at h
  cases hi : l.all (inB Bk) with
  | false => rw [hi, if_neg (by decide)] at h; cases h; exact .inr ⟨hb, rfl, rfl, rfl⟩
  | true => rw [hi, if_pos rfl] at h; cases h
 ·rw [hb] at h; cases h; exact .inl ⟨_, _, hb, rfl, rfl⟩
theorem txt_hq {Bk : List Cl} {l : List Int} (h : txtQ Bk l = none) : bndF Bk = none ∧ l.all (inB Bk) = true := by
 unfold txtQ at h
 cases hb : bndF Bk with
 | some r => rw [hb] at h; cases h
 | none =>
  rw [hb] at h; dsimp only at h
  cases hi : l.all (inB Bk) with
  | false => rw [hi, if_neg (by decide)] at h; cases h
  | true => exact ⟨rfl, rfl⟩
theorem ba_assoc (a b c : ByteArray) : (a ++ b) ++ c = a ++ (b ++ c) := by
 apply ByteArray.ext; simp only [ByteArray.data_append, Array.append_assoc]
set_option maxRecDepth 100000 in
set_option maxHeartbeats 4000000 in
theorem q49_no (Bk : List Cl) (A : Option Addr) (c b2 b3 bz : Nat) (l : List Int) (lA : Option Addr) (lc : Nat) (w : World) (hl : (cellB b2 [.slice A Bk.length c] 22).holds w) (hs : (cellB b3 [.slice lA l.length lc] 24).holds w) (hbk : BkW w Bk A c) (hst : Arr 1 eI w (.slice lA l.length lc) l) {a n : Int} (hq : txtQ Bk l = some (a, n)) : Calls Tryz.prog 49 #[.pointer (some ⟨b2, 0, none⟩), .pointer (some ⟨b3, 0, none⟩), .pointer (some ⟨bz, 0, none⟩)] w (Fails a n w) := by
 refine J_enter (fun _ => False) (vs := [.pointer (some ⟨b2, 0, none⟩), .pointer (some ⟨b3, 0, none⟩), .pointer (some ⟨bz, 0, none⟩)]) (k := 51) (l := [(0, .pointer (some ⟨b2, 0, none⟩)), (1, .pointer (some ⟨b3, 0, none⟩)), (2, .pointer (some ⟨bz, 0, none⟩))]) Tryz.func49 rfl rfl Tryz.ntmps49 rfl rfl (Wd.start _) ?_
 refine s1 ?_
 rcases txt_cs hq with ⟨a', n', hb, rfl, rfl⟩ | ⟨hb, hni, rfl, rfl⟩
 ·refine s1 ?_
  refine aV (vOld rfl rfl (fun h => h) (cellB_get hl rfl)) ?_
  refine aPan (ecF rfl rfl) (fun w hw => bound_no (hbk.up hw.bel) hb) ?_
  refine s1 ?_
  refine JR_panic ?_
  intro w' hw
  exact ⟨rfl, hw.bel⟩
 ·refine s1 ?_
  refine aV (vOld rfl rfl (fun h => h) (cellB_get hl rfl)) ?_
  refine aW (oR (fun w hw => bound_yes (hbk.up hw.bel) hb)) (fun t9 ht9 => ?_)
  obtain ⟨bp, lb, lv, top⟩ := t9
  obtain ⟨hlv, hin, htop, hge⟩ := ht9
  dsimp only [BdG, List.cons_append, List.nil_append] at hlv hin htop hge ⊢
  obtain ⟨tp, rfl⟩ : ∃ k : Nat, top = k := ⟨top.toNat, by omega⟩
  have h64 := bnd_64 hb
  refine s6 ?_
  refine aV (vOld rfl rfl (fun h => h) (cellB_get hs rfl)) ?_
  refine aPan (ecF rfl rfl) (fun w hw => ix_no (hw.ok (bookB bp A Bk.length c lb (tp : Nat)) (by repeat constructor)).1 h64 (hst.up EI hw.bel) hni) ?_
  refine s1 ?_
  refine JR_panic ?_
  intro w' hw
  exact ⟨rfl, hw.bel⟩
set_option maxRecDepth 100000 in
set_option maxHeartbeats 4000000 in
theorem q49_yes (Bk : List Cl) (A : Option Addr) (c b2 b3 bz : Nat) (l : List Int) (lA : Option Addr) (lc : Nat) (w : World) (hl : (cellB b2 [.slice A Bk.length c] 22).holds w) (hs : (cellB b3 [.slice lA l.length lc] 24).holds w) (w0 : World) (hbk : BkW w0 Bk A c) (hst : Arr 1 eI w0 (.slice lA l.length lc) l) (hl1 : l.length ≤ 100) (hb0 : Below w0.heap.size w0 w) (hA : (cellB bz [.string ⟨#[]⟩] 9).holds w) (hAf : ∀ b, (cellB bz [.string ⟨#[]⟩] 9).foot b → b < w.heap.size) (hA0 : ∀ b, (cellB bz [.string ⟨#[]⟩] 9).foot b → w0.heap.size ≤ b) (hn2 : ¬ (cellB bz [.string ⟨#[]⟩] 9).foot b2) (hn3 : ¬ (cellB bz [.string ⟨#[]⟩] 9).foot b3) (hq : txtQ Bk l = none) : Calls Tryz.prog 49 #[.pointer (some ⟨b2, 0, none⟩), .pointer (some ⟨b3, 0, none⟩), .pointer (some ⟨bz, 0, none⟩)] w (RetM (cellB bz [.string ⟨#[]⟩] 9) (fun _ : Unit => True) (fun _ => .tuple #[]) (fun _ => cellB bz [.string (txL Bk l)] 9) w) := by
 obtain ⟨hb, hni⟩ := txt_hq hq
 obtain ⟨hBb, hBA⟩ := arr_partsC hbk.row
 obtain ⟨hlb, hlA⟩ := arr_partsI hst
 refine J_start (B := ⟨w, (cellB bz [.string ⟨#[]⟩] 9).foot, none, []⟩) rfl rfl (vs := [.pointer (some ⟨b2, 0, none⟩), .pointer (some ⟨b3, 0, none⟩), .pointer (some ⟨bz, 0, none⟩)]) (k := 51) (l := [(0, .pointer (some ⟨b2, 0, none⟩)), (1, .pointer (some ⟨b3, 0, none⟩)), (2, .pointer (some ⟨bz, 0, none⟩))]) Tryz.func49 rfl rfl Tryz.ntmps49 rfl rfl (Wd.startM hA hAf) ?_
 refine s2 ?_
 refine aV (vOld rfl rfl hn2 (cellB_get hl rfl)) ?_
 refine aW (oR (fun w hw => bound_yes (hbk.up (Wd.belO hw hb0 hA0)) hb)) (fun t9 ht9 => ?_)
 obtain ⟨bp, lb, lv, top⟩ := t9
 obtain ⟨hlv, hin, htop, hge⟩ := ht9
 dsimp only [BdG, List.cons_append, List.nil_append] at hlv hin htop hge ⊢
 obtain ⟨tp, rfl⟩ : ∃ k : Nat, top = k := ⟨top.toNat, by omega⟩
 have h64 := bnd_64 hb
 refine s6 ?_
 refine aV (vOld rfl rfl hn3 (cellB_get hs rfl)) ?_
 refine aCB (fun w hw => ix_yes (hw.ok (bookB bp A Bk.length c lb (tp : Nat)) (by repeat constructor)).1 h64 (hst.up EI (Wd.belO hw hb0 hA0)) hni) ?_
 refine s3 ?_
 refine kJ [(1, _), (2, _), (3, _)] ?_
 refine s1 ?_
 refine aW oA (fun b4 hb4 => ?_)
 refine s4 ?_
 refine J_own0 5 1 ?_
 refine s1 ?_
 refine aV (vOld rfl rfl hn3 (cellB_get hs rfl)) ?_
 refine s5 ?_
 refine xL (T := Nat × Value × Option Addr × Nat) (fun q => q.1 ≤ l.length ∧ (txL Bk (l.take q.1)).size ≤ 700 * q.1 ∧ (q.2.1 = .pointer none ∨ q.2.1 = .pointer (some ⟨b4, 0, none⟩)) ∧ (q.2.2.1 = none ∨ 0 < (txL Bk (l.take q.1)).size)) (fun q => [(2, .pointer (some ⟨bz, 0, none⟩)), (3, .pointer (some ⟨bp, 0, none⟩)), (4, .pointer (some ⟨b4, 0, none⟩)), (13, .slice lA l.length lc), (14, .int .i64 (l.length : Nat)), (15, .int .i64 (q.1 : Nat))]) (fun q => [cellB b4 [q.2.1, .slice q.2.2.1 (txL Bk (l.take q.1)).size q.2.2.2] 82, bytB 5 q.2.2.1 q.2.2.2 (txL Bk (l.take q.1)), bookB bp A Bk.length c lb (tp : Nat), cellB bz [.string ⟨#[]⟩] 9]) (fun q => l.length - q.1) (0, .pointer none, none, 0) ⟨Nat.zero_le _, Nat.le_refl _, .inl rfl, .inl rfl⟩ ?_
 rintro ⟨k, pv, vA, vc⟩ ⟨hk, hsz, hpv, hva⟩
 dsimp only at hk hsz hpv hva ⊢
 refine s3 ?_
 refine JL_dec (fun h16 => ?_) (fun h16 => ?_)
 ·refine s9 ?_
  have hlty : k < l.length := by omega
  obtain ⟨bqy, pqy, rfl, hhl⟩ := hlA (by intro e; rw [e] at hlty; simp at hlty)
  obtain ⟨y, hy⟩ : ∃ y, l[k]'hlty = y := ⟨_, rfl⟩
  have hmy : y ∈ l := by rw [← hy]; exact List.getElem_mem _
  obtain ⟨i, hil, rfl⟩ := in_k hni hmy
  have hlt : i < Bk.length := hil
  obtain ⟨bB, pB, rfl, hhB⟩ := hBA (by intro e; subst e; simp at hlt)
  obtain ⟨⟨cn, cf, ct, ⟨fA, fn, fc, fl⟩, ⟨uA, un, uc, ul⟩, th⟩, hc⟩ : ∃ c, Bk[i]'hlt = c := ⟨_, rfl⟩
  have hcm : (⟨cn, cf, ct, ⟨fA, fn, fc, fl⟩, ⟨uA, un, uc, ul⟩, th⟩ : Cl) ∈ Bk := by rw [← hc]; exact List.getElem_mem _
  obtain ⟨hfs, hus, hfk, huk, hnk, htk⟩ := hbk.cl _ hcm
  obtain rfl : fn = fl.length := dv_nc hfs
  obtain rfl : un = ul.length := dv_nc hus
  dsimp only [Dv.v] at hfs hus hfk huk hnk htk
  obtain ⟨hfb, hfA⟩ := arr_parts hfs
  obtain ⟨hub, huA⟩ := arr_parts hus
  have hhl2 := hhl.up EI hb0
  have hhB2 := hhB.up EC6 hb0
  have hnbz : ¬ (cellB bz [.string ⟨#[]⟩] 9).foot bqy := fun e => by have := HoldL.lt EI (by decide) hhl hlty; have := hA0 bqy e; omega
  have hnbB : ¬ (cellB bz [.string ⟨#[]⟩] 9).foot bB := fun e => by have := HoldL.lt EC6 (by decide) hhB hlt; have := hA0 bB e; omega
  refine s2 ?_
  refine aV (vHold rfl rfl hnbz hhl2 hlty (by omega) (by rw [hy]; rfl)) ?_
  refine s10 ?_
  refine aP (pIdxI (i) rfl rfl rfl) ?_
  refine aV (vHoldA (cs := [.string cn, .int .i64 cf, .int .i64 ct, .slice fA fl.length fc, .slice uA ul.length uc, .string th]) EC6 rfl rfl hnbB hhB2 hlt (by rw [hc]; rfl)) ?_
  refine aW oA (fun b7 hb7 => ?_)
  refine s4 ?_
  have hclb := bnd_cl hb _ hcm
  obtain ⟨z1, z2, z3, z4⟩ := cl_szs hclb
  obtain ⟨z5, z6⟩ := cl_parts hclb
  dsimp only at z1 z2 z3 z4 z5 z6
  have e1 : ({ data := #[58, 32] } : ByteArray).size = 2 := rfl
  have e2 : ({ data := #[32, 105, 102, 32] } : ByteArray).size = 4 := rfl
  have e3 : ({ data := #[32, 117, 110, 108, 101, 115, 115, 32] } : ByteArray).size = 8 := rfl
  have e4 : ({ data := #[10] } : ByteArray).size = 1 := rfl
  have hxa : (cn ++ ({ data := #[58, 32] } : ByteArray)).size = cn.size + 2 := by rw [ByteArray.size_append, e1]
  have hxb : ((cn ++ ({ data := #[58, 32] } : ByteArray)) ++ th).size = cn.size + 2 + th.size := by rw [ByteArray.size_append, hxa]
  have hxd : ((((txL Bk (l.take k)) ++ cn) ++ ({ data := #[58, 32] } : ByteArray)) ++ th).size ≤ (txL Bk (l.take k)).size + 66 := (tx_sz hclb _).1
  refine kJ [(2, _), (3, _), (4, _), (7, _), (13, _), (14, _), (15, _)] ?_
  refine s7 ?_
  refine aW (oL [cellB b4 [pv, .slice vA (txL Bk (l.take k)).size vc] 82, bytB 5 vA vc (txL Bk (l.take k))] [cellB b7 [.string cn, .int .i64 cf, .int .i64 ct, .slice fA fl.length fc, .slice uA ul.length uc, .string th] 40, bookB bp (some ⟨bB, pB, none⟩) Bk.length c lb (tp : Nat), cellB bz [.string ⟨#[]⟩] 9] (fun w hw h0 => WriteString50 b4 pv vA vc (txL Bk (l.take k)) ((cn ++ ({ data := #[58, 32] } : ByteArray)) ++ th) _ w hpv (by omega) h0)) (fun t32 _ => ?_)
  obtain ⟨A32, c32⟩ := t32
  dsimp only
  have hasc : (txL Bk (l.take k)) ++ ((cn ++ ({ data := #[58, 32] } : ByteArray)) ++ th) = ((((txL Bk (l.take k)) ++ cn) ++ ({ data := #[58, 32] } : ByteArray)) ++ th) := by simp only [ba_assoc]
  rw [hasc]
  refine s2 ?_
  refine xC (T := ByteArray × Option Addr × Nat) (fun t => t.1 = (txB (txA (txL Bk (l.take k)) ⟨cn, cf, ct, ⟨fA, fl.length, fc, fl⟩, ⟨uA, ul.length, uc, ul⟩, th⟩) ⟨cn, cf, ct, ⟨fA, fl.length, fc, fl⟩, ⟨uA, ul.length, uc, ul⟩, th⟩)) (fun t => [(2, .pointer (some ⟨bz, 0, none⟩)), (3, .pointer (some ⟨bp, 0, none⟩)), (4, .pointer (some ⟨b4, 0, none⟩)), (7, .pointer (some ⟨b7, 0, none⟩)), (13, .slice (some ⟨bqy, pqy, none⟩) l.length lc), (14, .int .i64 (l.length : Nat)), (15, .int .i64 (k : Nat))]) (fun t => [cellB b4 [.pointer (some ⟨b4, 0, none⟩), .slice t.2.1 t.1.size t.2.2] 82, bytB 5 t.2.1 t.2.2 t.1, cellB b7 [.string cn, .int .i64 cf, .int .i64 ct, .slice fA fl.length fc, .slice uA ul.length uc, .string th] 40, bookB bp (some ⟨bB, pB, none⟩) Bk.length c lb (tp : Nat), cellB bz [.string ⟨#[]⟩] 9]) ?_ ?_
  ·refine s1 ?_
   refine kJ [(2, _), (3, _), (4, _), (7, _), (13, _), (14, _), (15, _)] ?_
   refine s5 ?_
   refine JL_dec (fun h36 => ?_) (fun h36 => ?_)
   ·refine s3 ?_
    have hj1 := jnL_sz z3
    refine kJ [(2, _), (3, _), (4, _), (7, _), (13, _), (14, _), (15, _)] ?_
    refine s3 ?_
    refine aCB (fun w hw => Join51 fl _ _ w (hfs.up ES (Wd.belO hw hb0 hA0)) (by omega) z3) ?_
    refine s1 ?_
    refine aW (oL [cellB b4 [.pointer (some ⟨b4, 0, none⟩), .slice A32 ((((txL Bk (l.take k)) ++ cn) ++ ({ data := #[58, 32] } : ByteArray)) ++ th).size c32] 82, bytB 5 A32 c32 ((((txL Bk (l.take k)) ++ cn) ++ ({ data := #[58, 32] } : ByteArray)) ++ th)] [cellB b7 [.string cn, .int .i64 cf, .int .i64 ct, .slice fA fl.length fc, .slice uA ul.length uc, .string th] 40, bookB bp (some ⟨bB, pB, none⟩) Bk.length c lb (tp : Nat), cellB bz [.string ⟨#[]⟩] 9] (fun w hw h0 => WriteString50 b4 _ A32 c32 ((((txL Bk (l.take k)) ++ cn) ++ ({ data := #[58, 32] } : ByteArray)) ++ th) (({ data := #[32, 105, 102, 32] } : ByteArray) ++ jnL fl) _ w (.inr rfl) (by simp only [ByteArray.size_append, e1, e2]; omega) h0)) (fun t41 _ => ?_)
    obtain ⟨A41, c41⟩ := t41
    dsimp only
    refine s1 ?_
    rw [← ba_assoc] 
    exact xE ((((((txL Bk (l.take k)) ++ cn) ++ ({ data := #[58, 32] } : ByteArray)) ++ th) ++ ({ data := #[32, 105, 102, 32] } : ByteArray)) ++ jnL fl, A41, c41) (if_pos (show 0 < fl.length by omega)).symm
   ·refine s4 ?_
    exact xE (((((txL Bk (l.take k)) ++ cn) ++ ({ data := #[58, 32] } : ByteArray)) ++ th), A32, c32) (if_neg (show ¬ 0 < fl.length by omega)).symm
  ·rintro ⟨t0, t0A, t0c⟩ ht0
   dsimp only at ht0 ⊢
   refine xC (T := ByteArray × Option Addr × Nat) (fun t => t.1 = (txD (txB (txA (txL Bk (l.take k)) ⟨cn, cf, ct, ⟨fA, fl.length, fc, fl⟩, ⟨uA, ul.length, uc, ul⟩, th⟩) ⟨cn, cf, ct, ⟨fA, fl.length, fc, fl⟩, ⟨uA, ul.length, uc, ul⟩, th⟩) ⟨cn, cf, ct, ⟨fA, fl.length, fc, fl⟩, ⟨uA, ul.length, uc, ul⟩, th⟩)) (fun t => [(2, .pointer (some ⟨bz, 0, none⟩)), (3, .pointer (some ⟨bp, 0, none⟩)), (4, .pointer (some ⟨b4, 0, none⟩)), (7, .pointer (some ⟨b7, 0, none⟩)), (13, .slice (some ⟨bqy, pqy, none⟩) l.length lc), (14, .int .i64 (l.length : Nat)), (15, .int .i64 (k : Nat))]) (fun t => [cellB b4 [.pointer (some ⟨b4, 0, none⟩), .slice t.2.1 t.1.size t.2.2] 82, bytB 5 t.2.1 t.2.2 t.1, cellB b7 [.string cn, .int .i64 cf, .int .i64 ct, .slice fA fl.length fc, .slice uA ul.length uc, .string th] 40, bookB bp (some ⟨bB, pB, none⟩) Bk.length c lb (tp : Nat), cellB bz [.string ⟨#[]⟩] 9]) ?_ ?_
   ·refine s6 ?_
    refine JL_dec (fun h45 => ?_) (fun h45 => ?_)
    ·refine s3 ?_
     have hj2 := jnL_sz z4
     have hxf : t0.size ≤ (txL Bk (l.take k)).size + 400 := by rw [ht0]; have := (tx_sz hclb (txA (txL Bk (l.take k)) ⟨cn, cf, ct, ⟨fA, fl.length, fc, fl⟩, ⟨uA, ul.length, uc, ul⟩, th⟩)).2.1; have : (txA (txL Bk (l.take k)) ⟨cn, cf, ct, ⟨fA, fl.length, fc, fl⟩, ⟨uA, ul.length, uc, ul⟩, th⟩).size ≤ (txL Bk (l.take k)).size + 66 := hxd; omega
     refine kJ [(2, _), (3, _), (4, _), (7, _), (13, _), (14, _), (15, _)] ?_
     refine s3 ?_
     refine aCB (fun w hw => Join51 ul _ _ w (hus.up ES (Wd.belO hw hb0 hA0)) (by omega) z4) ?_
     refine s1 ?_
     refine aW (oL [cellB b4 [.pointer (some ⟨b4, 0, none⟩), .slice t0A t0.size t0c] 82, bytB 5 t0A t0c t0] [cellB b7 [.string cn, .int .i64 cf, .int .i64 ct, .slice fA fl.length fc, .slice uA ul.length uc, .string th] 40, bookB bp (some ⟨bB, pB, none⟩) Bk.length c lb (tp : Nat), cellB bz [.string ⟨#[]⟩] 9] (fun w hw h0 => WriteString50 b4 _ t0A t0c t0 (({ data := #[32, 117, 110, 108, 101, 115, 115, 32] } : ByteArray) ++ jnL ul) _ w (.inr rfl) (by simp only [ByteArray.size_append, e3]; omega) h0)) (fun t50 _ => ?_)
     obtain ⟨A50, c50⟩ := t50
     dsimp only
     refine s1 ?_
     rw [← ba_assoc] 
     exact xE ((t0 ++ ({ data := #[32, 117, 110, 108, 101, 115, 115, 32] } : ByteArray)) ++ jnL ul, A50, c50) (by dsimp only; rw [ht0]; exact (if_pos (show 0 < ul.length by omega)).symm)
    ·refine s4 ?_
     exact xE (t0, t0A, t0c) (by dsimp only; rw [ht0]; exact (if_neg (show ¬ 0 < ul.length by omega)).symm)
   ·rintro ⟨t1, t1A, t1c⟩ ht1
    dsimp only at ht1 ⊢
    have hxh : t1.size ≤ (txL Bk (l.take k)).size + 690 := by rw [ht1]; have := (tx_sz hclb (txA (txL Bk (l.take k)) ⟨cn, cf, ct, ⟨fA, fl.length, fc, fl⟩, ⟨uA, ul.length, uc, ul⟩, th⟩)).2.1; have := (tx_sz hclb (txB (txA (txL Bk (l.take k)) ⟨cn, cf, ct, ⟨fA, fl.length, fc, fl⟩, ⟨uA, ul.length, uc, ul⟩, th⟩) ⟨cn, cf, ct, ⟨fA, fl.length, fc, fl⟩, ⟨uA, ul.length, uc, ul⟩, th⟩)).2.2.1; have : (txA (txL Bk (l.take k)) ⟨cn, cf, ct, ⟨fA, fl.length, fc, fl⟩, ⟨uA, ul.length, uc, ul⟩, th⟩).size ≤ (txL Bk (l.take k)).size + 66 := hxd; omega
    refine s1 ?_
    refine aW (oL [cellB b4 [.pointer (some ⟨b4, 0, none⟩), .slice t1A t1.size t1c] 82, bytB 5 t1A t1c t1] [cellB b7 [.string cn, .int .i64 cf, .int .i64 ct, .slice fA fl.length fc, .slice uA ul.length uc, .string th] 40, bookB bp (some ⟨bB, pB, none⟩) Bk.length c lb (tp : Nat), cellB bz [.string ⟨#[]⟩] 9] (fun w hw h0 => WriteString50 b4 _ t1A t1c t1 ({ data := #[10] } : ByteArray) _ w (.inr rfl) (by rw [e4]; omega) h0)) (fun t51 _ => ?_)
    obtain ⟨A51, c51⟩ := t51
    dsimp only
    refine s7 ?_
    have hs : txL Bk (l.take (k + 1)) = t1 ++ nlB := by rw [txL_s hlty hlt hy hc]; unfold txC; rw [ht1]
    have hsz2 := (tx_sz hclb (txL Bk (l.take k))).2.2.2
    rw [← txL_s hlty hlt hy hc] at hsz2
    exact xR (k + 1, .pointer (some ⟨b4, 0, none⟩), A51, c51) ⟨by dsimp only; omega, by dsimp only; omega, .inr rfl, .inr (by dsimp only; rw [hs, ByteArray.size_append]; have : nlB.size = 1 := rfl; omega)⟩ (by dsimp only; omega) (hl := ⟨rfl, rfl, rfl, rfl, rfl, (congrArg some (by go_num)), trivial⟩) (hH := by (try dsimp only); rw [hs]; repeat constructor)
 ·refine s9 ?_
  obtain rfl : k = l.length := by omega
  rw [List.take_length]
  rw [List.take_length] at hva
  refine J_fact (fun hw => ?_)
  obtain ⟨⟨hc1, -⟩, hc2⟩ := own_cn hw (ty := 5) (k := 1) (m := (txL Bk l).size) (c := vc) (A := vA) (xs := Lib.strCells (txL Bk l)) (by repeat constructor)
  clear hw
  have hsa : vA = none ∨ vc ≠ 0 := hva.imp_right (fun h => by omega)
  have hsa0 : vA = none → (txL Bk l).size = 0 := fun e => by have := hc2 e; omega
  refine kJ [(2, _), (4, _)] ?_
  refine s1 ?_
  refine aW (oL [cellB b4 [pv, .slice vA (txL Bk l).size vc] 82, bytB 5 vA vc (txL Bk l)] [cellB bz [.string ⟨#[]⟩] 9] (fun w hw h0 => String52 b4 _ vA vc (txL Bk l) _ w h0 hsa hsa0)) (fun _ _ => ?_)
  refine s2 ?_
  refine JR_end rfl ?_
  intro w' hw
  exact ⟨(), trivial, rfl, hw.pick (by repeat constructor)⟩
set_option maxRecDepth 100000 in
set_option maxHeartbeats 4000000 in
theorem Text14 (Bk : List Cl) (A : Option Addr) (c : Nat) (l : List Int) (lA : Option Addr) (lc : Nat) (w : World) (hbk : BkW w Bk A c) (hst : Arr 1 eI w (.slice lA l.length lc) l) (hl1 : l.length ≤ 100) : Calls Tryz.prog 14 #[.slice A Bk.length c, .slice lA l.length lc] w (Back (.tuple #[.string (txtR Bk l).1, .int .i64 (txtR Bk l).2]) w) := by
 refine J_enter (fun _ => False) (vs := [.slice A Bk.length c, .slice lA l.length lc]) (k := 11) (l := [(0, .slice A Bk.length c), (1, .slice lA l.length lc)]) Tryz.func14 rfl rfl Tryz.ntmps14 rfl rfl (Wd.start _) ?_
 refine s2 ?_
 refine aW (oX [_]) (fun b2 hb2 => ?_)
 refine aW (oX [_]) (fun b3 hb3 => ?_)
 refine aW oA (fun b4 hb4 => ?_)
 refine s4 ?_
 obtain hq | ⟨a, n, hq⟩ := opt2 (txtQ Bk l)
 ·refine s2 ?_
  refine aW (oM (fun w hw => answered_yes 49 #[.pointer (some ⟨b2, 0, none⟩), .pointer (some ⟨b3, 0, none⟩), .pointer (some ⟨b4, 0, none⟩)] (cellB b4 [.string ⟨#[]⟩] 9) (fun _ : Unit => True) (fun _ => cellB b4 [.string (txL Bk l)] 9) w (hw.ok (cellB b4 [.string ⟨#[]⟩] 9) (by repeat constructor)).1 (hw.newA (by repeat constructor) rfl).2 rfl (fun _ => rfl) (fun W hW => q49_yes Bk A c b2 b3 b4 l lA lc W (hw.keepO (C := cellB b2 [.slice A Bk.length c] 22) hW (by repeat constructor) rfl).1 (hw.keepO (C := cellB b3 [.slice lA l.length lc] 24) hW (by repeat constructor) rfl).1 _ hbk hst hl1 (hw.belM (A := cellB b4 [.string ⟨#[]⟩] 9) (by repeat constructor) rfl hW) (hW.ok (cellB b4 [.string ⟨#[]⟩] 9) (by repeat constructor)).1 (fun b hb => ((hW.ok (cellB b4 [.string ⟨#[]⟩] 9) (by repeat constructor)).2 b hb).2) (hw.newA (by repeat constructor) rfl).1 ((hw.keepO (C := cellB b2 [.slice A Bk.length c] 22) hW (by repeat constructor) rfl).2 b2 rfl) ((hw.keepO (C := cellB b3 [.slice lA l.length lc] 24) hW (by repeat constructor) rfl).2 b3 rfl) hq))) (fun _ _ => ?_)
  refine s7 ?_
  refine kJ [(4, _), (5, _)] ?_
  refine s8 ?_
  refine JR_two rfl (rr_cell rfl Agg.h (by repeat constructor) (by rfl)) (rr_tmp rfl) ?_
  intro w' hw
  exact ⟨by unfold txtR; rw [hq], hw.bel⟩
 ·refine s2 ?_
  refine aCB (fun w hw => answered_no 49 #[.pointer (some ⟨b2, 0, none⟩), .pointer (some ⟨b3, 0, none⟩), .pointer (some ⟨b4, 0, none⟩)] a n w (fun W hW => q49_no Bk A c b2 b3 b4 l lA lc W ((cellB b2 [.slice A Bk.length c] 22).st _ _ (fun b h => hW.block b ((hw.ok _ (by repeat constructor)).2 b h).2) (hw.ok (cellB b2 [.slice A Bk.length c] 22) (by repeat constructor)).1) ((cellB b3 [.slice lA l.length lc] 24).st _ _ (fun b h => hW.block b ((hw.ok _ (by repeat constructor)).2 b h).2) (hw.ok (cellB b3 [.slice lA l.length lc] 24) (by repeat constructor)).1) ((hbk.up hw.bel).up hW) ((hst.up EI hw.bel).up EI hW) hq)) ?_
  refine s7 ?_
  refine kJ [(4, _), (5, _)] ?_
  refine s8 ?_
  refine JR_two rfl (rr_cell rfl Agg.h (by repeat constructor) (by rfl)) (rr_tmp rfl) ?_
  intro w' hw
  exact ⟨by unfold txtR; rw [hq], hw.bel⟩
end Go.Proofs.YtjkolebffbeeeaaGreatDoor
