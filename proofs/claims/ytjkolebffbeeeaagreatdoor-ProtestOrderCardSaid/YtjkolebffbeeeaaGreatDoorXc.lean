/- The program: steps that are a proof. -/
import Derived.Test.YtjkolebffbeeeaaGreatDoorXb
import Derived.Shelf.SlMaps.Clone
import Derived.Ground.SlmcProg
namespace Go.Proofs
open Go.Shelf
def Tryz.cloneA_ren : Go.Shelf.Ren := ⟨fun | 5 => 72 | 7 => 95 | n => n, fun | 23 => 68 | 25 => 9 | 3 => 4 | 4 => 4 | 20 => 20 | n => n, fun | n => n⟩
theorem Tryz.cloneA : Go.Proofs.SlLaysW.n5 Tryz.prog Tryz.cloneA_ren := {
  mixed := by kernel_rfl
  f5 := ⟨Tryz.f72.name, by decide, Tryz.func72.trans (congrArg some (by kernel_rfl))⟩
  f7 := Tryz.func95.trans (congrArg some (by kernel_rfl))
  t4 := Tryz.underlying4
  a4 := Tryz.isAgg4
  z4 := Tryz.sizeOf4
  v4 := Tryz.zeroValue4
  t20 := Tryz.underlying20
  a20 := Tryz.isAgg20
  z20 := Tryz.sizeOf20
  v20 := Tryz.zeroValue20
  t23 := Tryz.underlying68
  a23 := Tryz.isAgg68
  z23 := Tryz.sizeOf68
  v23 := Tryz.zeroValue68 }
end Go.Proofs
namespace Go.Proofs.YtjkolebffbeeeaaGreatDoor
open Go Go.RowKit Go.Proofs
theorem clone_any {H : Type} (k : TypeId) (R : Value → Option (DataW H × List MemPlace)) (b n : Nat) (D : DataW H) (w : World) (hown : w.ownsMap Tryz.prog k R b n D) : Calls Tryz.prog 72 #[.map (some b)] w fun e w' => e = .returned (.map (some w.heap.size)) ∧ w'.ownsMap Tryz.prog k R w.heap.size n D ∧ w'.ownsMap Tryz.prog k R b n D ∧ Below w.heap.size w w' := AnyW.maps_Clone_owns Tryz.cloneA k R b n D w hown
theorem Clone72 (b : Nat) (S : List ByteArray) (w : World) (hS : (setB Tryz.prog 9 kS okS b S).holds w) : Calls Tryz.prog 72 #[.map (some b)] w (Ret w (fun _ : Nat => True) (fun t => .map (some t)) (fun t => [setB Tryz.prog 9 kS okS t S])) := by
 obtain ⟨n, c, hn, D, h1, h2, h3⟩ := hS
 refine (clone_any _ _ b n D w h1).mono ?_
 rintro e w' ⟨rfl, h4, -, h5⟩
 exact ⟨w.heap.size, trivial, rfl, (Wd.start (bs w)).new (A := setB Tryz.prog 9 kS okS w.heap.size S) h5 ⟨n, c, hn, D, h4, h2, h3⟩ (fun k hk => by cases hk; exact ⟨Nat.le_refl _, h4.lt⟩)⟩
attribute [local irreducible] J JQ JL JA JD
def atV (r : Option Nat × List ByteArray) : Int := match r.1 with | some k => (k : Nat) | none => -1

set_option maxRecDepth 100000 in
set_option maxHeartbeats 4000000 in
theorem broken44 {Bk : List Cl} {BA : Option Addr} {bc : Nat} {top ed : Int} {s : RS} {wp bp hb gb rb lb : Nat} {S K0 : List ByteArray} (l : List Int) (lA : Option Addr) (lc : Nat) (w : World) (hB : BkW w Bk BA bc) (hrec : (recB wp bp hb gb rb ed s).holds w) (hbk : (bookB bp BA Bk.length bc lb top).holds w) (hheld : (setB Tryz.prog 9 kS okS hb S).holds w) (hgiv : (setB Tryz.prog 9 kS okS gb K0).holds w) (hK0 : K0.length ≤ 64) (hl : Arr 1 eI w (.slice lA l.length lc) l) (hl1 : l.length ≤ 100) (hin : l.all (inB Bk) = true) : Calls Tryz.prog 44 #[.pointer (some ⟨wp, 0, none⟩), .slice lA l.length lc] w (Ret w (fun _ : Nat => True) (fun t => .tuple #[.int .i64 (atV (prv Bk ed S l 0 K0)), .map (some t)]) (fun t => [setB Tryz.prog 9 kS okS t (prv Bk ed S l 0 K0).2])) := by
 obtain ⟨hBb, hBA⟩ := arr_partsC hB.row
 obtain ⟨hlb, hlA⟩ := arr_partsI hl
 refine J_enter (fun _ => False) (vs := [.pointer (some ⟨wp, 0, none⟩), .slice lA l.length lc]) (k := 75) (l := [(0, .pointer (some ⟨wp, 0, none⟩)), (1, .slice lA l.length lc)]) Tryz.func44 rfl rfl Tryz.ntmps44 rfl rfl (Wd.start _) ?_
 refine s6 ?_
 refine J_scope ?_
 refine s5 ?_
 refine aV (vOld rfl rfl (fun h => h) (cellB_get hrec rfl)) ?_
 refine aW (oR (fun w hw => Clone72 gb K0 w (setB_up hgiv hw.bel))) (fun kb _ => ?_)
 refine s4 ?_
 refine kJ [(0, _), (1, _), (6, _)] ?_
 refine s16 ?_
 refine xL (T := Nat × List ByteArray) (fun q => q.1 ≤ l.length ∧ (prv Bk ed S l 0 K0) = prv Bk ed S (l.drop q.1) q.1 q.2 ∧ q.2.length ≤ 64 + q.1) (fun q => [(0, .pointer (some ⟨wp, 0, none⟩)), (6, .map (some kb)), (7, .int .i64 (-1)), (20, .slice lA l.length lc), (21, .int .i64 (l.length : Nat)), (22, .int .i64 (q.1 : Nat))]) (fun q => [setB Tryz.prog 9 kS okS kb q.2]) (fun q => l.length - q.1) (0, K0) ⟨Nat.zero_le _, rfl, hK0⟩ ?_
 rintro ⟨k, K⟩ ⟨hk, hpr, hKl⟩
 dsimp only at hk hpr hKl ⊢
 refine s3 ?_
 refine JL_dec (fun h23 => ?_) (fun h23 => ?_)
 ·refine s9 ?_
  have hlty : k < l.length := by omega
  obtain ⟨bqy, pqy, rfl, hhl⟩ := hlA (by intro e; rw [e] at hlty; simp at hlty)
  obtain ⟨y, hy⟩ : ∃ y, l[k]'hlty = y := ⟨_, rfl⟩
  have hmy : y ∈ l := by rw [← hy]; exact List.getElem_mem _
  obtain ⟨i, hil, rfl⟩ := in_k hin hmy
  have hlt : i < Bk.length := hil
  obtain ⟨bB, pB, rfl, hhB⟩ := hBA (by intro e; subst e; simp at hlt)
  obtain ⟨⟨cn, cf, ct, ⟨fA, fn, fc, fl⟩, ⟨uA, un, uc, ul⟩, th⟩, hc⟩ : ∃ c, Bk[i]'hlt = c := ⟨_, rfl⟩
  have hcm : (⟨cn, cf, ct, ⟨fA, fn, fc, fl⟩, ⟨uA, un, uc, ul⟩, th⟩ : Cl) ∈ Bk := by rw [← hc]; exact List.getElem_mem _
  obtain ⟨hfs, hus, hfk, huk, hnk, htk⟩ := hB.cl _ hcm
  obtain rfl : fn = fl.length := dv_nc hfs
  obtain rfl : un = ul.length := dv_nc hus
  dsimp only [Dv.v] at hfs hus hfk huk hnk htk
  obtain ⟨hfb, hfA⟩ := arr_parts hfs
  obtain ⟨hub, huA⟩ := arr_parts hus
  refine s3 ?_
  refine aV (vHold rfl rfl (fun h => h) hhl hlty (by omega) (by rw [hy]; rfl)) ?_
  refine s5 ?_
  refine kJ [(0, _), (6, _), (8, _), (9, _), (20, _), (21, _), (22, _)] ?_
  refine s4 ?_
  refine aV (vOld rfl rfl (fun h => h) (cellB_get hrec rfl)) ?_
  refine s2 ?_
  refine aV (vOld rfl rfl (fun h => h) (cellB_get hbk rfl)) ?_
  refine s1 ?_
  refine aP (pIdxI (i) rfl rfl rfl) ?_
  refine aV (vHoldA (cs := [.string cn, .int .i64 cf, .int .i64 ct, .slice fA fl.length fc, .slice uA ul.length uc, .string th]) EC6 rfl rfl (fun h => h) hhB hlt (by rw [hc]; rfl)) ?_
  refine aW oA (fun b10 hb10 => ?_)
  refine s4 ?_
  refine kJ [(0, _), (6, _), (8, _), (10, _), (20, _), (21, _), (22, _)] ?_
  refine s7 ?_
  refine xD [0, 1, 2, 3, 4, 5] [0, 4] ?_
  refine s4 ?_
  refine dL rfl (vOld rfl rfl (fun h => h) (cellB_get hrec rfl)) ?_
  refine dCB rfl (fun w hw => stands73 ⟨cn, cf, ct, ⟨fA, fl.length, fc, fl⟩, ⟨uA, ul.length, uc, ul⟩, th⟩ ed w) ?_
  refine dDec (fun h43 => ?_) (fun h43 => ?_)
  ·refine dO [6] ?_
   refine s8 ?_
   refine kJ [(0, _), (6, _), (7, _), (10, _), (20, _), (21, _), (22, _)] ?_
   refine s8 ?_
   refine xL (T := Nat) (fun j => j ≤ fl.length ∧ (fl.take j).all (fun x => decide (x ∈ K)) = true) (fun j => [(0, .pointer (some ⟨wp, 0, none⟩)), (6, .map (some kb)), (7, .int .i64 (k : Nat)), (10, .pointer (some ⟨b10, 0, none⟩)), (20, .slice (some ⟨bqy, pqy, none⟩) l.length lc), (21, .int .i64 (l.length : Nat)), (22, .int .i64 (k : Nat)), (46, .slice fA fl.length fc), (47, .int .i64 (fl.length : Nat)), (48, .int .i64 (j : Nat))]) (fun j => [setB Tryz.prog 9 kS okS kb K, cellB b10 [.string cn, .int .i64 cf, .int .i64 ct, .slice fA fl.length fc, .slice uA ul.length uc, .string th] 40]) (fun j => fl.length - j) 0 ⟨Nat.zero_le _, rfl⟩ ?_
   rintro j ⟨hj, hall1⟩
   refine s3 ?_
   refine JL_dec (fun h49 => ?_) (fun h49 => ?_)
   ·refine s9 ?_
    have hltz : j < fl.length := by omega
    obtain ⟨bqz, pqz, rfl, hhf⟩ := hfA (by intro e; rw [e] at hltz; simp at hltz)
    obtain ⟨z, hz⟩ : ∃ y, fl[j]'hltz = y := ⟨_, rfl⟩
    have hmz : z ∈ fl := by rw [← hz]; exact List.getElem_mem _
    refine s2 ?_
    refine aV (vHold rfl rfl (fun h => h) hhf hltz (by omega) (by rw [hz]; rfl)) ?_
    refine s7 ?_
    refine aV (rv_lookS KS LBool z Und.h rfl rfl rfl (by repeat constructor) rfl (hfk z hmz)) ?_
    refine JL_dec (fun h54 => ?_) (fun h54 => ?_)
    ·refine s7 ?_
     refine kJ [(0, _), (6, _), (7, _), (10, _), (20, _), (21, _), (22, _), (46, _), (47, _), (48, _)] ?_
     refine s4 ?_
     have hn : (fl.take (j + 1)).all (fun x => decide (x ∈ K)) = true := by rw [List.take_succ_eq_append_getElem hltz, List.all_append, hz, hall1]; simp [h54]
     exact xR (j + 1) ⟨by omega, hn⟩ (by omega) (hl := ⟨rfl, rfl, rfl, rfl, rfl, rfl, rfl, rfl, rfl, (congrArg some (by go_num)), trivial⟩)
    ·refine s16 ?_
     refine kJ [(6, _), (7, _)] ?_
     refine s8 ?_
     refine JQ_ngR ?_
     refine JR_two rfl (rr_tmp rfl) (rr_tmp rfl) ?_
     intro w' hw
     have hno : okC ed S K ⟨cn, cf, ct, ⟨some ⟨bqz, pqz, none⟩, fl.length, fc, fl⟩, ⟨uA, ul.length, uc, ul⟩, th⟩ = false := by (have h0 : fl.all (fun x => decide (x ∈ K)) = false := List.all_eq_false.2 ⟨z, hmz, by simp [h54]⟩); unfold okC; dsimp only; rw [h0, Bool.and_false, Bool.false_and]
     have hr : (prv Bk ed S l 0 K0) = (some k, K) := by rw [hpr, prv_s hlty hlt hy hc, if_neg (by rw [hno]; decide)]
     rw [hr]; exact ⟨kb, trivial, rfl, hw.pick (by repeat constructor)⟩
   ·refine s11 ?_
    obtain rfl : j = fl.length := by omega
    rw [List.take_length] at hall1
    refine kJ [(0, _), (6, _), (7, _), (10, _), (20, _), (21, _), (22, _)] ?_
    refine s8 ?_
    refine xL (T := Nat) (fun j => j ≤ ul.length ∧ (ul.take j).all (fun x => !decide (x ∈ S)) = true) (fun j => [(0, .pointer (some ⟨wp, 0, none⟩)), (6, .map (some kb)), (7, .int .i64 (k : Nat)), (10, .pointer (some ⟨b10, 0, none⟩)), (20, .slice (some ⟨bqy, pqy, none⟩) l.length lc), (21, .int .i64 (l.length : Nat)), (22, .int .i64 (k : Nat)), (58, .slice uA ul.length uc), (59, .int .i64 (ul.length : Nat)), (60, .int .i64 (j : Nat))]) (fun j => [setB Tryz.prog 9 kS okS kb K, cellB b10 [.string cn, .int .i64 cf, .int .i64 ct, .slice fA fl.length fc, .slice uA ul.length uc, .string th] 40]) (fun j => ul.length - j) 0 ⟨Nat.zero_le _, rfl⟩ ?_
    rintro j ⟨hj, hall2⟩
    refine s3 ?_
    refine JL_dec (fun h61 => ?_) (fun h61 => ?_)
    ·refine s9 ?_
     have hltz : j < ul.length := by omega
     obtain ⟨bqz, pqz, rfl, hhu⟩ := huA (by intro e; rw [e] at hltz; simp at hltz)
     obtain ⟨z, hz⟩ : ∃ y, ul[j]'hltz = y := ⟨_, rfl⟩
     have hmz : z ∈ ul := by rw [← hz]; exact List.getElem_mem _
     refine s2 ?_
     refine aV (vHold rfl rfl (fun h => h) hhu hltz (by omega) (by rw [hz]; rfl)) ?_
     refine s8 ?_
     refine aV (vOld rfl rfl (fun h => h) (cellB_get hrec rfl)) ?_
     refine s1 ?_
     refine aV (rv_lookSO KS LBool z Und.h rfl rfl rfl (fun h => h) hheld rfl (huk z hmz)) ?_
     refine JL_dec (fun h69 => ?_) (fun h69 => ?_)
     ·refine s15 ?_
      refine kJ [(6, _), (7, _)] ?_
      refine s8 ?_
      refine JQ_ngR ?_
      refine JR_two rfl (rr_tmp rfl) (rr_tmp rfl) ?_
      intro w' hw
      have hno : okC ed S K ⟨cn, cf, ct, ⟨fA, fl.length, fc, fl⟩, ⟨some ⟨bqz, pqz, none⟩, ul.length, uc, ul⟩, th⟩ = false := by (have h0 : ul.all (fun x => !decide (x ∈ S)) = false := List.all_eq_false.2 ⟨z, hmz, by simp [h69]⟩); unfold okC; dsimp only; rw [h0, Bool.and_false]
      have hr : (prv Bk ed S l 0 K0) = (some k, K) := by rw [hpr, prv_s hlty hlt hy hc, if_neg (by rw [hno]; decide)]
      rw [hr]; exact ⟨kb, trivial, rfl, hw.pick (by repeat constructor)⟩
     ·refine s6 ?_
      refine kJ [(0, _), (6, _), (7, _), (10, _), (20, _), (21, _), (22, _), (58, _), (59, _), (60, _)] ?_
      refine s4 ?_
      have hn : (ul.take (j + 1)).all (fun x => !decide (x ∈ S)) = true := by rw [List.take_succ_eq_append_getElem hltz, List.all_append, hz, hall2]; simp [h69]
      exact xR (j + 1) ⟨by omega, hn⟩ (by omega) (hl := ⟨rfl, rfl, rfl, rfl, rfl, rfl, rfl, rfl, rfl, (congrArg some (by go_num)), trivial⟩)
    ·refine s9 ?_
     refine kJ [(0, _), (6, _), (10, _), (20, _), (21, _), (22, _)] ?_
     refine s4 ?_
     refine aW0 (ow_putS KS LBool th Und.h rfl rfl rfl rfl rfl rfl rfl (by repeat constructor) htk (by omega)) ?_
     refine s4 ?_
     refine kJ [(0, _), (6, _), (7, _), (20, _), (21, _), (22, _)] ?_
     refine s4 ?_
     obtain rfl : j = ul.length := by omega
     rw [List.take_length] at hall2
     have hok : okC ed S K ⟨cn, cf, ct, ⟨fA, fl.length, fc, fl⟩, ⟨uA, ul.length, uc, ul⟩, th⟩ = true := by unfold okC; rw [decide_eq_true h43, hall1, hall2]; rfl
     exact xR (k + 1, th :: K) ⟨by dsimp only; omega, by dsimp only; rw [hpr, prv_s hlty hlt hy hc, if_pos hok], by dsimp only [List.length_cons]; omega⟩ (by dsimp only; omega) (hl := ⟨rfl, rfl, rfl, rfl, rfl, (congrArg some (by go_num)), trivial⟩)
  ·refine dO [6] ?_
   refine s12 ?_
   refine kJ [(6, _), (7, _)] ?_
   refine s8 ?_
   refine JQ_ngR ?_
   refine JR_two rfl (rr_tmp rfl) (rr_tmp rfl) ?_
   intro w' hw
   have hno : okC ed S K ⟨cn, cf, ct, ⟨fA, fl.length, fc, fl⟩, ⟨uA, ul.length, uc, ul⟩, th⟩ = false := by unfold okC; rw [decide_eq_false h43]; rfl
   have hr : (prv Bk ed S l 0 K0) = (some k, K) := by rw [hpr, prv_s hlty hlt hy hc, if_neg (by rw [hno]; decide)]
   rw [hr]; exact ⟨kb, trivial, rfl, hw.pick (by repeat constructor)⟩
 ·refine s10 ?_
  refine kJ [(6, _), (7, _)] ?_
  refine s8 ?_
  refine JQ_ngR ?_
  refine JR_two rfl (rr_tmp rfl) (rr_tmp rfl) ?_
  intro w' hw
  obtain rfl : k = l.length := by omega
  have hr : (prv Bk ed S l 0 K0) = (none, K) := by rw [hpr, List.drop_length]; rfl
  rw [hr]; exact ⟨kb, trivial, rfl, hw.pick (by repeat constructor)⟩
end Go.Proofs.YtjkolebffbeeeaaGreatDoor
