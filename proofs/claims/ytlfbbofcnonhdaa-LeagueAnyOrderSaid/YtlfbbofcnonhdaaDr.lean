import Derived.Test.YtlfbbofcnonhdaaA
import Derived.Test.YtlfbbofcnonhdaaDp
import Derived.Maps.OwnIn
import Derived.Test.YtlfbbofcnonhdaaDv
import Derived.Test.YtlfbbofcnonhdaaCl
/- Contracts: the rounds of a round robin, an iterator. -/
namespace Go.Proofs.Ytlfbbofcnonhdaa
open Go.RowKit Go.Proofs Go.Shelf
attribute [local go_sem] Oper.semAt_some

theorem gm1_zero (T r : Nat) : gm0 T r ++ gm1 T r 0 = gm0 T r := by unfold gm1; simp
theorem range_prefix {a b : Nat} (h : a ≤ b) : List.range a <+: List.range b := by
 obtain ⟨d, rfl⟩ := Nat.exists_eq_add_of_le h
 rw [List.range_add]; exact List.prefix_append _ _
theorem iP_pr (a b : Nat) : iP (pr a b) = (min (a : Int) b, max (a : Int) b) := Prod.ext (by simp [iP, pr]; omega) (by simp [iP, pr]; omega)
theorem rounds59 (T : Int) (w : World) : Calls Try.prog 59 #[.int .i64 T] w fun e w' => e = .returned (.func (.func 84) #[] #[.pointer (some ⟨w.heap.size, 0, none⟩)]) ∧ w' = w.alloc (.cells #[.int .i64 T] 3) := by
 go_enter Try.func59, Try.ntmps59
 go_wp2_with fail
 go_ret
 exact ⟨rfl, rfl⟩
/-- The rounds' captured variable. -/
def CapT (c T : Nat) (W : World) : Prop := W.heap[c]? = some (.cells #[.int .i64 (T : Nat)] 3 (0, 0))
theorem CapT.kc {c T n0 : Nat} {A B : World} (h : CapT c T A) (hk : Kc n0 A B) : CapT c T B := hk.2 _ _ _ _ h
theorem CapT.below {c T : Nat} {A B : World} (h : CapT c T A) (hk : Below A.heap.size A B) : CapT c T B := boxed_cells_up h hk
/-- What a round's value is. -/
def RoY (T : Nat) (r : Nat) (v : Value) (m : Nat) (W : World) : Prop := Arr 2 eP W v ((gmP T r).map iP) ∧ ∀ A n k g o, v = .slice A n k → A = some ⟨g, o, none⟩ → m ≤ g ∧ g < W.heap.size

set_option maxRecDepth 100000 in
set_option maxHeartbeats 4000000 in
theorem rounds84 (n n0 c T : Nat) (hT : 2 ≤ T ∧ T ≤ 16) (hn : 1 ≤ n) : IterC n n0 84 #[.pointer (some ⟨c, 0, none⟩)] (CapT c T) (List.range (cir T)) (RoY T) := by
 intro l J W hn0 hJs hY hC h0
 refine callsIn_of_wp Try.func84 rfl trivial ?_ rfl
 simp only [Try.ntmps84, List.size_toArray, List.length_cons, List.length_nil, Nat.reduceAdd, Nat.reduceSub, Array.replicate_succ, Array.replicate_zero, List.push_toArray, List.append_toArray, List.nil_append, List.cons_append]
 obtain ⟨C, hCc⟩ : ∃ C, cir T = C := ⟨_, rfl⟩
 have hq : (T : Int) - 1 + (T : Int) % 2 = (C : Nat) := by unfold cir at hCc; omega
 have hC1 : (1 ≤ C ∧ C ≤ 17) ∧ 2 * ((C - 1) / 2) + 1 = C := by unfold cir at hCc; omega
 have k0 : W.cell? ⟨c, 0, none⟩ = some (.int .i64 (T : Nat)) := by simp [World.cell?, show W.heap[c]? = _ from hC]
 rw [hCc] at hY ⊢
 obtain ⟨i0, hi, hz0, hz1, hz2⟩ := info_parts Try.info42
 gi_wp2
 clear k0
 gi_loopw [13] (fun iv wr => ∃ r : Nat, r ≤ C ∧ iv = .int .i64 r ∧ J (List.range r) wr ∧ CapT c T wr ∧ n0 ≤ wr.heap.size) (fun iv _ => C - (intOf iv).toNat)
 case atStart => exact ⟨0, Nat.zero_le _, rfl, h0, hC, hn0⟩
 case round =>
  obtain ⟨r, hr, rfl, hJ, hcap, hzr⟩ := hrel
  obtain ⟨wo, rfl⟩ : ∃ W, W = wr := ⟨_, rfl⟩
  by_cases hlt : r < C
  ·have hlt' : (r : Int) < (C : Int) := by omega
   have HY := Lib.hid (hY (List.range r) r)
   have HJ := Lib.hid hJ
   have HCC := Lib.hid hCc
   have k0 : wo.cell? ⟨c, 0, none⟩ = some (.int .i64 (T : Nat)) := by simp [World.cell?, show wo.heap[c]? = _ from hcap]
   have HCAP := Lib.hid hcap
   have HJS := Lib.hid hJs
   clear hY hJ hCc h0 hJs
   have GB : ∀ k, (gm0 T r ++ gm1 T r k).length ≤ 1 + k := fun k => by rw [List.length_append, gm1_len]; have := gm0_len T r; omega
   by_cases hpar : C < T
   ·have hpar' : (C : Int) < (T : Int) := by omega
    have G0 : Hid (gm0 T r = [pr r C]) := by show _ = _; unfold gm0; rw [HCC.out, if_pos hpar]
    gi_wp2_with (first
     | (refine ⟨trivial, ?_⟩; gi_at_call 69; refine (callsIn_wide.2 (pair69 _ _ _)).mono ?_; rintro e w1 ⟨rfl, hb1⟩; have HB1 := Lib.hid hb1; clear hb1)
     | (gi_at_builtin; refine wpListIn_append_own_at _ rfl _ _ 41 rfl wo.heap.size 42 i0 _ 2 16 Try.underlying41 hi hz0 hz1 hz2 rfl (by decide) _ _ _ rfl (World.ownsRow_nil _ _ _ _) ⟨w1.heap.size, 0, none⟩ 1 1 (eP (min (r : Int) C, max (r : Int) C)) rfl rfl (news_one w1 42 _) (fun u h => EP.one _ u h) (by unfold maxLen; omega) (by omega) (by have := HB1.out.size; simp; omega) ?_; intro v5 W5 hown5 hgrow5 hnn5 hat5; obtain ⟨A5, c5, rfl, hA5, -⟩ := row_form hown5; have O5 : Hid (Own wo.heap.size 42 2 eP W5 (.slice A5 (0 + 1) c5) ((gm0 T r).map iP)) := (by show World.ownsRow _ _ _ _ _ _ _; rw [G0.out, List.map_cons, List.map_nil, iP_pr]; exact hown5); have B5 : Hid (Below wo.heap.size wo W5) := (by have hg : World.grownBy (w1.alloc (.cells #[.int .i64 (min (r : Int) C), .int .i64 (max (r : Int) C)] 42)) W5 none := hgrow5; exact (HB1.out.alloc HB1.out.size _).grown hg (by have := HB1.out.size; simp; omega) (fun j e => by cases e)); clear hown5 hgrow5 hnn5 hat5 hA5))
    clear k0
    gi_loopw [5, 6] (fun gv kv wq => ∃ k : Nat, k ≤ (C - 1) / 2 ∧ kv = .int .i64 ((k : Int) + 1) ∧ Hid (∃ A c', gv = .slice A (gm0 T r ++ gm1 T r k).length c') ∧ Hid (Own wo.heap.size 42 2 eP wq gv ((gm0 T r ++ gm1 T r k).map iP)) ∧ Below wo.heap.size wo wq) (fun _ kv _ => (C - 1) / 2 + 1 - (intOf kv).toNat)
    case atStart => exact ⟨0, Nat.zero_le _, rfl, ⟨A5, c5, by rw [gm1_zero, G0.out]; rfl⟩, by show World.ownsRow _ _ _ _ _ _ _; rw [gm1_zero]; exact O5.out, B5.out⟩
    case round =>
     obtain ⟨k, hk, rfl, ⟨A6, c6, hgv⟩, ho6, hb6⟩ := hrel
     subst hgv
     have O6 := Lib.hid ho6.out
     have B6 := Lib.hid hb6
     clear ho6 hb6 O5 B5
     by_cases hlk : k < (C - 1) / 2
     ·have hlk' : (2 : Int) * ((k : Int) + 1) < (C : Int) := by omega
      have HG1 : Hid (gm0 T r ++ gm1 T r (k + 1) = (gm0 T r ++ gm1 T r k) ++ [pr ((r + (k + 1)) % C) ((r + C - (k + 1)) % C)]) := by show _ = _; rw [gm1_succ, HCC.out, List.append_assoc]
      have HGB := GB k
      obtain ⟨G, hG⟩ : ∃ G, gm0 T r ++ gm1 T r k = G := ⟨_, rfl⟩
      rw [hG] at O6 HG1 HGB ⊢
      have HGG := Lib.hid hG
      obtain ⟨p, hp⟩ : ∃ p, (r + (k + 1)) % C = p := ⟨_, rfl⟩
      obtain ⟨q, hqq⟩ : ∃ q, (r + C - (k + 1)) % C = q := ⟨_, rfl⟩
      have e1 : ((r : Int) + ((k : Int) + 1)).tmod (C : Int) = (p : Nat) := by rw [← hp, Int.tmod_eq_emod_of_nonneg (by omega), Int.natCast_emod]; congr 1
      have e2 : ((r : Int) + (C : Int) - ((k : Int) + 1)).tmod (C : Int) = (q : Nat) := by rw [← hqq, Int.tmod_eq_emod_of_nonneg (by omega), Int.natCast_emod]; congr 1; omega
      rw [hp, hqq] at HG1
      clear hG GB hp hqq
      gi_wp2
      have BD : Below wo.heap.size wo wr.drew := B6.out.drew
      have OD : Own wo.heap.size 42 2 eP wr.drew (.slice A6 G.length c6) (G.map iP) := O6.out
      refine wpW_region_N (fun _ _ => True) (by kernel_rfl) (by kernel_rfl) ?_
      generalize hwq : World.drew _ = wq
      rw [hwq] at BD OD
      clear hwq
      refine wpAnyP_take (i := 0) (v := .slice A6 G.length c6) rfl (by kernel_rfl) (by kernel_rfl) (by kernel_rfl) (fun _ _ _ h => nq_panic h) (yieldsIf_run rfl (fun w' hS => ?_)) trivial ?_
      ·go_simp
      refine wpAnyP_take (i := 1) (v := .int .i64 r) rfl (by kernel_rfl) (by kernel_rfl) (by kernel_rfl) (fun _ _ _ h => nq_panic h) (yieldsIf_run rfl (fun w' hS => ?_)) trivial ?_
      ·go_simp
      refine wpAnyP_take (i := 2) (v := .int .i64 ((k : Int) + 1)) rfl (by kernel_rfl) (by kernel_rfl) (by kernel_rfl) (fun _ _ _ h => nq_panic h) (yieldsIf_run rfl (fun w' hS => ?_)) trivial ?_
      ·go_simp
      refine wpAnyP_take (i := 3) (v := .int .i64 ((r : Int) + ((k : Int) + 1))) rfl (by kernel_rfl) (by kernel_rfl) (by kernel_rfl) (fun _ _ _ h => nq_panic h) (yieldsIf_run rfl (fun w' hS => ?_)) trivial ?_
      ·go_simp
       exact IntWalk.i64_in _ (by omega)
      refine wpAnyP_take (i := 4) (v := .int .i64 C) rfl (by kernel_rfl) (by kernel_rfl) (by kernel_rfl) (fun _ _ _ h => nq_panic h) (yieldsIf_run rfl (fun w' hS => ?_)) trivial ?_
      ·go_simp
      refine wpAnyP_take (i := 5) (v := .int .i64 p) rfl (by kernel_rfl) (by kernel_rfl) (by kernel_rfl) (fun _ _ _ h => nq_panic h) (yieldsIf_run rfl (fun w' hS => ?_)) trivial ?_
      ·go_simp
       omega
      refine wpAnyP_take (i := 6) (v := .int .i64 r) rfl (by kernel_rfl) (by kernel_rfl) (by kernel_rfl) (fun _ _ _ h => nq_panic h) (yieldsIf_run rfl (fun w' hS => ?_)) trivial ?_
      ·go_simp
      refine wpAnyP_take (i := 7) (v := .int .i64 C) rfl (by kernel_rfl) (by kernel_rfl) (by kernel_rfl) (fun _ _ _ h => nq_panic h) (yieldsIf_run rfl (fun w' hS => ?_)) trivial ?_
      ·go_simp
      refine wpAnyP_take (i := 8) (v := .int .i64 ((r : Int) + C)) rfl (by kernel_rfl) (by kernel_rfl) (by kernel_rfl) (fun _ _ _ h => nq_panic h) (yieldsIf_run rfl (fun w' hS => ?_)) trivial ?_
      ·go_simp
       exact IntWalk.i64_in _ (by omega)
      refine wpAnyP_take (i := 9) (v := .int .i64 ((k : Int) + 1)) rfl (by kernel_rfl) (by kernel_rfl) (by kernel_rfl) (fun _ _ _ h => nq_panic h) (yieldsIf_run rfl (fun w' hS => ?_)) trivial ?_
      ·go_simp
      refine wpAnyP_take (i := 10) (v := .int .i64 ((r : Int) + C - ((k : Int) + 1))) rfl (by kernel_rfl) (by kernel_rfl) (by kernel_rfl) (fun _ _ _ h => nq_panic h) (yieldsIf_run rfl (fun w' hS => ?_)) trivial ?_
      ·go_simp
       exact IntWalk.i64_in _ (by omega)
      refine wpAnyP_take (i := 11) (v := .int .i64 C) rfl (by kernel_rfl) (by kernel_rfl) (by kernel_rfl) (fun _ _ _ h => nq_panic h) (yieldsIf_run rfl (fun w' hS => ?_)) trivial ?_
      ·go_simp
      refine wpAnyP_take (i := 12) (v := .int .i64 q) rfl (by kernel_rfl) (by kernel_rfl) (by kernel_rfl) (fun _ _ _ h => nq_panic h) (yieldsIf_run rfl (fun w' hS => ?_)) trivial ?_
      ·go_simp
       omega
      refine wpAnyP_one (i := 13) (by kernel_rfl) (wpOp_call (f := 69) (args := #[.int .i64 p, .int .i64 q]) rfl rfl (by kernel_rfl) ?_)
      refine (pair69 _ _ _).mono ?_
      rintro e w1 ⟨rfl, hb1⟩
      refine ⟨_, rfl, fun _ _ _ => trivial, ?_⟩
      have B1 := BD.trans (hb1.mono BD.size)
      refine wpAnyP_one (i := 14) (by kernel_rfl) (wpOp_run (v := .slice (some ⟨w1.heap.size, 0, none⟩) 1 1) (w' := w1.alloc (.cells #[.int .i64 (min (p : Int) q), .int .i64 (max (p : Int) q)] 42)) rfl rfl (by go_simp) ⟨fun _ _ _ => trivial, ?_⟩)
      have hm1 : (G.map iP).length = G.length := List.length_map _
      obtain ⟨v7, w7, hrun, hown7, hg7, hat7, A7, c7, hv7⟩ := run_app (ty := 41) EP (by decide) Try.underlying41 Try.info42 rfl (by decide) (w := w1.alloc (.cells #[.int .i64 (min (p : Int) q), .int .i64 (max (p : Int) q)] 42)) (M := [(min (p : Int) q, max (p : Int) q)]) (row_up (row_up OD hb1) ((Below.refl _ _).alloc (Nat.le_refl _) _)) (a := ⟨w1.heap.size, 0, none⟩) (c := 1) rfl (news_one w1 42 (enc := eP) (min (p : Int) q, max (p : Int) q)) (by rw [hm1]; simp; omega) (by have := B1.size; simp; omega)
      subst hv7
      refine wpAnyP_one (i := 15) (by kernel_rfl) (wpOp_run (v := .slice A7 ((G.map iP).length + 1) c7) (w' := w7) rfl rfl ?_ ⟨fun _ _ _ => trivial, ?_⟩)
      ·exact run_append_op (s := .tmp 31) (x := .tmp 45) rfl (by kernel_rfl) (by kernel_rfl) (by rw [hm1] at hrun ⊢; exact hrun)
      refine wpAnyP_one (i := 16) (by kernel_rfl) (wpOp_run (v := .slice A7 ((G.map iP).length + 1) c7) (w' := w7) rfl rfl (by kernel_rfl) ⟨fun _ _ _ => trivial, ?_⟩)
      refine wpAnyP_done (by kernel_rfl) ⟨rfl, ?_⟩ _
      have O7 : Hid (Own wo.heap.size 42 2 eP w7 (.slice A7 (G.length + 1) c7) ((gm0 T r ++ gm1 T r (k + 1)).map iP)) := by
       show Own _ _ _ _ _ _ _
       rw [HG1.out, List.map_append, List.map_cons, List.map_nil, iP_pr, ← hm1]
       exact hown7
      have B7 : Hid (Below wo.heap.size wo w7) := (B1.alloc B1.size _).grown hg7 (by have := B1.size; simp; omega) (fun j e => (row_ge OD e).1)
      have HL7 : Hid ((gm0 T r ++ gm1 T r (k + 1)).length = G.length + 1) := by show _ = _; rw [HG1.out, List.length_append]; rfl
      rw [hm1]
      clear hown7 hg7 hat7 hrun B1 BD OD hb1 hm1 O6 B6 HG1
      gi_wp2
      go_roundw
      case rel => exact ⟨k + 1, by omega, by go_num, ⟨A7, c7, by rw [HL7.out]⟩, O7.out, B7.out⟩
      case measure => simp [intOf]; omega
     ·obtain rfl : k = (C - 1) / 2 := by omega
      have hlk' : ¬ (2 : Int) * ((((C - 1) / 2 : Nat) : Int) + 1) < (C : Int) := by omega
      have hgm : gmP T r = gm0 T r ++ gm1 T r ((C - 1) / 2) := by unfold gmP; rw [HCC.out]
      have hlen := GB ((C - 1) / 2)
      rw [← hgm] at O6 hlen ⊢
      have hA : Arr 2 eP wr (.slice A6 (gmP T r).length c6) ((gmP T r).map iP) := Arr.of_own EP O6.out (by rw [List.length_map]; omega)
      obtain ⟨f1, t1, as1, bd1, hy1, hR1⟩ := HY.out (.slice A6 (gmP T r).length c6) wo wr hzr HJ.out B6.out (HCAP.out.below B6.out) (by rw [← List.range_succ]; exact range_prefix (by omega)) ⟨hA, fun A n k g o e h => by
       injection e with e1; subst e1
       obtain ⟨A', c', h1, h2, -⟩ := row_form O6.out
       injection h1 with h1; rw [h1] at h
       exact (h2 g o h).2⟩
      clear hA hgm hlen GB
      gi_wp2
      refine hR1.mono ?_
      rintro e W3 ⟨rfl, hJ3, hc3, hz3⟩
      gi_wp2
      go_roundw
      case rel => exact ⟨r + 1, by omega, by go_num, by rw [List.range_succ]; exact hJ3, hc3, hz3⟩
      case measure => simp [intOf]; omega
   ·have hpar' : ¬ (C : Int) < (T : Int) := by omega
    have G0 : Hid (gm0 T r = []) := by show _ = _; unfold gm0; rw [HCC.out, if_neg hpar]
    have O5 : Hid (Own wo.heap.size 42 2 eP wo (.slice none 0 0) ((gm0 T r).map iP)) := by show World.ownsRow _ _ _ _ _ _ _; rw [G0.out]; exact World.ownsRow_nil _ _ _ _
    have B5 : Hid (Below wo.heap.size wo wo) := Below.refl _ _
    gi_wp2
    clear k0
    gi_loopw [5, 6] (fun gv kv wq => ∃ k : Nat, k ≤ (C - 1) / 2 ∧ kv = .int .i64 ((k : Int) + 1) ∧ Hid (∃ A c', gv = .slice A (gm0 T r ++ gm1 T r k).length c') ∧ Hid (Own wo.heap.size 42 2 eP wq gv ((gm0 T r ++ gm1 T r k).map iP)) ∧ Below wo.heap.size wo wq) (fun _ kv _ => (C - 1) / 2 + 1 - (intOf kv).toNat)
    case atStart => exact ⟨0, Nat.zero_le _, rfl, ⟨none, 0, by rw [gm1_zero, G0.out]; rfl⟩, by show World.ownsRow _ _ _ _ _ _ _; rw [gm1_zero]; exact O5.out, B5.out⟩
    case round =>
     obtain ⟨k, hk, rfl, ⟨A6, c6, hgv⟩, ho6, hb6⟩ := hrel
     subst hgv
     have O6 := Lib.hid ho6.out
     have B6 := Lib.hid hb6
     clear ho6 hb6 O5 B5
     by_cases hlk : k < (C - 1) / 2
     ·have hlk' : (2 : Int) * ((k : Int) + 1) < (C : Int) := by omega
      have HG1 : Hid (gm0 T r ++ gm1 T r (k + 1) = (gm0 T r ++ gm1 T r k) ++ [pr ((r + (k + 1)) % C) ((r + C - (k + 1)) % C)]) := by show _ = _; rw [gm1_succ, HCC.out, List.append_assoc]
      have HGB := GB k
      obtain ⟨G, hG⟩ : ∃ G, gm0 T r ++ gm1 T r k = G := ⟨_, rfl⟩
      rw [hG] at O6 HG1 HGB ⊢
      have HGG := Lib.hid hG
      obtain ⟨p, hp⟩ : ∃ p, (r + (k + 1)) % C = p := ⟨_, rfl⟩
      obtain ⟨q, hqq⟩ : ∃ q, (r + C - (k + 1)) % C = q := ⟨_, rfl⟩
      have e1 : ((r : Int) + ((k : Int) + 1)).tmod (C : Int) = (p : Nat) := by rw [← hp, Int.tmod_eq_emod_of_nonneg (by omega), Int.natCast_emod]; congr 1
      have e2 : ((r : Int) + (C : Int) - ((k : Int) + 1)).tmod (C : Int) = (q : Nat) := by rw [← hqq, Int.tmod_eq_emod_of_nonneg (by omega), Int.natCast_emod]; congr 1; omega
      rw [hp, hqq] at HG1
      clear hG GB hp hqq
      gi_wp2
      have BD : Below wo.heap.size wo wr.drew := B6.out.drew
      have OD : Own wo.heap.size 42 2 eP wr.drew (.slice A6 G.length c6) (G.map iP) := O6.out
      refine wpW_region_N (fun _ _ => True) (by kernel_rfl) (by kernel_rfl) ?_
      generalize hwq : World.drew _ = wq
      rw [hwq] at BD OD
      clear hwq
      refine wpAnyP_take (i := 0) (v := .slice A6 G.length c6) rfl (by kernel_rfl) (by kernel_rfl) (by kernel_rfl) (fun _ _ _ h => nq_panic h) (yieldsIf_run rfl (fun w' hS => ?_)) trivial ?_
      ·go_simp
      refine wpAnyP_take (i := 1) (v := .int .i64 r) rfl (by kernel_rfl) (by kernel_rfl) (by kernel_rfl) (fun _ _ _ h => nq_panic h) (yieldsIf_run rfl (fun w' hS => ?_)) trivial ?_
      ·go_simp
      refine wpAnyP_take (i := 2) (v := .int .i64 ((k : Int) + 1)) rfl (by kernel_rfl) (by kernel_rfl) (by kernel_rfl) (fun _ _ _ h => nq_panic h) (yieldsIf_run rfl (fun w' hS => ?_)) trivial ?_
      ·go_simp
      refine wpAnyP_take (i := 3) (v := .int .i64 ((r : Int) + ((k : Int) + 1))) rfl (by kernel_rfl) (by kernel_rfl) (by kernel_rfl) (fun _ _ _ h => nq_panic h) (yieldsIf_run rfl (fun w' hS => ?_)) trivial ?_
      ·go_simp
       exact IntWalk.i64_in _ (by omega)
      refine wpAnyP_take (i := 4) (v := .int .i64 C) rfl (by kernel_rfl) (by kernel_rfl) (by kernel_rfl) (fun _ _ _ h => nq_panic h) (yieldsIf_run rfl (fun w' hS => ?_)) trivial ?_
      ·go_simp
      refine wpAnyP_take (i := 5) (v := .int .i64 p) rfl (by kernel_rfl) (by kernel_rfl) (by kernel_rfl) (fun _ _ _ h => nq_panic h) (yieldsIf_run rfl (fun w' hS => ?_)) trivial ?_
      ·go_simp
       omega
      refine wpAnyP_take (i := 6) (v := .int .i64 r) rfl (by kernel_rfl) (by kernel_rfl) (by kernel_rfl) (fun _ _ _ h => nq_panic h) (yieldsIf_run rfl (fun w' hS => ?_)) trivial ?_
      ·go_simp
      refine wpAnyP_take (i := 7) (v := .int .i64 C) rfl (by kernel_rfl) (by kernel_rfl) (by kernel_rfl) (fun _ _ _ h => nq_panic h) (yieldsIf_run rfl (fun w' hS => ?_)) trivial ?_
      ·go_simp
      refine wpAnyP_take (i := 8) (v := .int .i64 ((r : Int) + C)) rfl (by kernel_rfl) (by kernel_rfl) (by kernel_rfl) (fun _ _ _ h => nq_panic h) (yieldsIf_run rfl (fun w' hS => ?_)) trivial ?_
      ·go_simp
       exact IntWalk.i64_in _ (by omega)
      refine wpAnyP_take (i := 9) (v := .int .i64 ((k : Int) + 1)) rfl (by kernel_rfl) (by kernel_rfl) (by kernel_rfl) (fun _ _ _ h => nq_panic h) (yieldsIf_run rfl (fun w' hS => ?_)) trivial ?_
      ·go_simp
      refine wpAnyP_take (i := 10) (v := .int .i64 ((r : Int) + C - ((k : Int) + 1))) rfl (by kernel_rfl) (by kernel_rfl) (by kernel_rfl) (fun _ _ _ h => nq_panic h) (yieldsIf_run rfl (fun w' hS => ?_)) trivial ?_
      ·go_simp
       exact IntWalk.i64_in _ (by omega)
      refine wpAnyP_take (i := 11) (v := .int .i64 C) rfl (by kernel_rfl) (by kernel_rfl) (by kernel_rfl) (fun _ _ _ h => nq_panic h) (yieldsIf_run rfl (fun w' hS => ?_)) trivial ?_
      ·go_simp
      refine wpAnyP_take (i := 12) (v := .int .i64 q) rfl (by kernel_rfl) (by kernel_rfl) (by kernel_rfl) (fun _ _ _ h => nq_panic h) (yieldsIf_run rfl (fun w' hS => ?_)) trivial ?_
      ·go_simp
       omega
      refine wpAnyP_one (i := 13) (by kernel_rfl) (wpOp_call (f := 69) (args := #[.int .i64 p, .int .i64 q]) rfl rfl (by kernel_rfl) ?_)
      refine (pair69 _ _ _).mono ?_
      rintro e w1 ⟨rfl, hb1⟩
      refine ⟨_, rfl, fun _ _ _ => trivial, ?_⟩
      have B1 := BD.trans (hb1.mono BD.size)
      refine wpAnyP_one (i := 14) (by kernel_rfl) (wpOp_run (v := .slice (some ⟨w1.heap.size, 0, none⟩) 1 1) (w' := w1.alloc (.cells #[.int .i64 (min (p : Int) q), .int .i64 (max (p : Int) q)] 42)) rfl rfl (by go_simp) ⟨fun _ _ _ => trivial, ?_⟩)
      have hm1 : (G.map iP).length = G.length := List.length_map _
      obtain ⟨v7, w7, hrun, hown7, hg7, hat7, A7, c7, hv7⟩ := run_app (ty := 41) EP (by decide) Try.underlying41 Try.info42 rfl (by decide) (w := w1.alloc (.cells #[.int .i64 (min (p : Int) q), .int .i64 (max (p : Int) q)] 42)) (M := [(min (p : Int) q, max (p : Int) q)]) (row_up (row_up OD hb1) ((Below.refl _ _).alloc (Nat.le_refl _) _)) (a := ⟨w1.heap.size, 0, none⟩) (c := 1) rfl (news_one w1 42 (enc := eP) (min (p : Int) q, max (p : Int) q)) (by rw [hm1]; simp; omega) (by have := B1.size; simp; omega)
      subst hv7
      refine wpAnyP_one (i := 15) (by kernel_rfl) (wpOp_run (v := .slice A7 ((G.map iP).length + 1) c7) (w' := w7) rfl rfl ?_ ⟨fun _ _ _ => trivial, ?_⟩)
      ·exact run_append_op (s := .tmp 31) (x := .tmp 45) rfl (by kernel_rfl) (by kernel_rfl) (by rw [hm1] at hrun ⊢; exact hrun)
      refine wpAnyP_one (i := 16) (by kernel_rfl) (wpOp_run (v := .slice A7 ((G.map iP).length + 1) c7) (w' := w7) rfl rfl (by kernel_rfl) ⟨fun _ _ _ => trivial, ?_⟩)
      refine wpAnyP_done (by kernel_rfl) ⟨rfl, ?_⟩ _
      have O7 : Hid (Own wo.heap.size 42 2 eP w7 (.slice A7 (G.length + 1) c7) ((gm0 T r ++ gm1 T r (k + 1)).map iP)) := by
       show Own _ _ _ _ _ _ _
       rw [HG1.out, List.map_append, List.map_cons, List.map_nil, iP_pr, ← hm1]
       exact hown7
      have B7 : Hid (Below wo.heap.size wo w7) := (B1.alloc B1.size _).grown hg7 (by have := B1.size; simp; omega) (fun j e => (row_ge OD e).1)
      have HL7 : Hid ((gm0 T r ++ gm1 T r (k + 1)).length = G.length + 1) := by show _ = _; rw [HG1.out, List.length_append]; rfl
      rw [hm1]
      clear hown7 hg7 hat7 hrun B1 BD OD hb1 hm1 O6 B6 HG1
      gi_wp2
      go_roundw
      case rel => exact ⟨k + 1, by omega, by go_num, ⟨A7, c7, by rw [HL7.out]⟩, O7.out, B7.out⟩
      case measure => simp [intOf]; omega
     ·obtain rfl : k = (C - 1) / 2 := by omega
      have hlk' : ¬ (2 : Int) * ((((C - 1) / 2 : Nat) : Int) + 1) < (C : Int) := by omega
      have hgm : gmP T r = gm0 T r ++ gm1 T r ((C - 1) / 2) := by unfold gmP; rw [HCC.out]
      have hlen := GB ((C - 1) / 2)
      rw [← hgm] at O6 hlen ⊢
      have hA : Arr 2 eP wr (.slice A6 (gmP T r).length c6) ((gmP T r).map iP) := Arr.of_own EP O6.out (by rw [List.length_map]; omega)
      obtain ⟨f1, t1, as1, bd1, hy1, hR1⟩ := HY.out (.slice A6 (gmP T r).length c6) wo wr hzr HJ.out B6.out (HCAP.out.below B6.out) (by rw [← List.range_succ]; exact range_prefix (by omega)) ⟨hA, fun A n k g o e h => by
       injection e with e1; subst e1
       obtain ⟨A', c', h1, h2, -⟩ := row_form O6.out
       injection h1 with h1; rw [h1] at h
       exact (h2 g o h).2⟩
      clear hA hgm hlen GB
      gi_wp2
      refine hR1.mono ?_
      rintro e W3 ⟨rfl, hJ3, hc3, hz3⟩
      gi_wp2
      go_roundw
      case rel => exact ⟨r + 1, by omega, by go_num, by rw [List.range_succ]; exact hJ3, hc3, hz3⟩
      case measure => simp [intOf]; omega
  ·obtain rfl : r = C := by omega
   gi_wp2
   go_end0
   exact ⟨⟨_, rfl⟩, hJ, hcap, hzr⟩
end Go.Proofs.Ytlfbbofcnonhdaa

/- Contracts: slices.Chunk over pairs, and its iterator. -/
namespace Go.Proofs.Ytlfbbofcnonhdaa
open Go.RowKit Go.Proofs Go.Shelf
attribute [local go_sem] Oper.semAt_some

theorem chk_get {α : Type} {n : Nat} (hn : 1 ≤ n) : ∀ (f : Nat) (l : List α), l.length ≤ f → ∀ j, (chk n f l)[j]? = if j * n < l.length then some ((l.drop (j * n)).take n) else none
 | 0, l, h, j => by
  have : l = [] := List.length_eq_zero_iff.1 (by omega)
  subst this; simp [chk]
 | f + 1, [], h, j => by simp [chk]
 | f + 1, x :: r, h, j => by
  have hd : ((x :: r).drop n).length ≤ f := by simp at h ⊢; omega
  show ((x :: r).take n :: chk n f ((x :: r).drop n))[j]? = _
  cases j with
  | zero => simp
  | succ j =>
   rw [List.getElem?_cons_succ, chk_get hn f _ hd j]
   have e : (j + 1) * n = n + j * n := by rw [Nat.succ_mul]; omega
   rw [e, List.length_drop, List.drop_drop]
   by_cases hj : j * n < (x :: r).length - n
   ·rw [if_pos hj, if_pos (by omega)]
   ·rw [if_neg hj, if_neg (by omega)]
theorem chunks_get {α : Type} {n : Nat} (hn : 1 ≤ n) (l : List α) (j : Nat) : (chunks n l)[j]? = if j * n < l.length then some ((l.drop (j * n)).take n) else none := chk_get hn _ l (Nat.le_refl _) j
theorem chunks_lt {α : Type} {n : Nat} (hn : 1 ≤ n) (l : List α) (j : Nat) : j < (chunks n l).length ↔ j * n < l.length := by
 have h := chunks_get hn l j
 constructor
 ·intro hj
  rw [List.getElem?_eq_getElem hj] at h
  split at h
  ·assumption
  ·cases h
 ·intro hj
  rw [if_pos hj] at h
  exact (List.getElem?_eq_some_iff.1 h).1
theorem chunks_at {α : Type} {n : Nat} (hn : 1 ≤ n) (l : List α) {j : Nat} (hj : j < (chunks n l).length) : (chunks n l)[j]'hj = (l.drop (j * n)).take n := by
 have h := chunks_get hn l j
 rw [if_pos ((chunks_lt hn l j).1 hj), List.getElem?_eq_getElem hj] at h
 exact Option.some.inj h

/-- What Chunk's iterator has captured. -/
def CapC (b1 b2 L : Nat) (v : Value) (l : List (Int × Int)) (W : World) : Prop := W.heap[b1]? = some (.cells #[v] 41 (0, 0)) ∧ W.heap[b2]? = some (.cells #[.int .i64 (L : Nat)] 3 (0, 0)) ∧ Arr 2 eP W v l
theorem CapC.kc {b1 b2 L n0 : Nat} {v : Value} {l : List (Int × Int)} {A B : World} (h : CapC b1 b2 L v l A) (hk : Kc n0 A B) : CapC b1 b2 L v l B := ⟨hk.2 _ _ _ _ h.1, hk.2 _ _ _ _ h.2.1, h.2.2.kc EP hk⟩
theorem CapC.below {b1 b2 L : Nat} {v : Value} {l : List (Int × Int)} {A B : World} (h : CapC b1 b2 L v l A) (hk : Below A.heap.size A B) : CapC b1 b2 L v l B := ⟨boxed_cells_up h.1 hk, boxed_cells_up h.2.1 hk, h.2.2.up EP hk⟩
def ChY (d : List (Int × Int)) (u : Value) (_ : Nat) (W : World) : Prop := Arr 2 eP W u d ∧ d ≠ []
theorem Chunk60 (A : Option Addr) (n c : Nat) (L : Nat) (hL : 1 ≤ L) (w : World) : Calls Try.prog 60 #[.slice A n c, .int .i64 (L : Nat)] w fun e w' => e = .returned (.func (.func 85) #[] #[.pointer (some ⟨w.heap.size, 0, none⟩), .pointer (some ⟨w.heap.size + 1, 0, none⟩)]) ∧ w' = (w.alloc (.cells #[.slice A n c] 41)).alloc (.cells #[.int .i64 (L : Nat)] 3) := by
 have hL' : ¬ (L : Int) < 1 := by omega
 go_enter Try.func60, Try.ntmps60
 go_wp2_with fail
 go_ret
 exact ⟨rfl, rfl⟩
/-- A slice of a slice. -/
theorem Arr.sub {α : Type} {k : Nat} {enc : α → List Value} {w : World} {g o cap : Nat} {l : List α} (h : Arr k enc w (.slice (some ⟨g, o, none⟩) l.length cap) l) {i m : Nat} (hm : i + m ≤ l.length) (hm0 : 0 < m) :
  Arr k enc w (.slice (some ⟨g, o + i * k, none⟩) m m) ((l.drop i).take m) := by
 obtain ⟨A, cap', h1, h2, h3, h4⟩ := h
 injection h1 with e1 _ e3
 subst e1 e3
 have hl : ((l.drop i).take m).length = m := by rw [List.length_take, List.length_drop]; omega
 refine ⟨_, m, by rw [hl], by rw [hl]; exact Nat.le_refl _, ⟨by rw [hl]; omega, by unfold maxLen at *; omega⟩, fun _ => ⟨g, o + i * k, rfl, fun j hj a ha => ?_⟩⟩
 obtain ⟨b', o', h5, h6⟩ := h4 (by intro e; subst e; simp at hm; omega)
 injection h5 with h5
 injection h5 with h7 h8
 subst h7 h8
 rw [hl] at hj
 have := h6 (i + j) (by omega) a ha
 rw [Nat.add_mul, ← Nat.add_assoc] at this
 rw [this]
 simp

set_option maxRecDepth 100000 in
set_option maxHeartbeats 4000000 in
theorem chunk85 (n n0 b1 b2 L : Nat) (hL : 1 ≤ L ∧ L ≤ 1000) (v : Value) (l : List (Int × Int)) (hl : l.length ≤ 1000) (hn : 1 ≤ n) : IterC n n0 85 #[.pointer (some ⟨b1, 0, none⟩), .pointer (some ⟨b2, 0, none⟩)] (CapC b1 b2 L v l) (chunks L l) ChY := by
 intro l0 J W hn0 hJs hY hC h0
 refine callsIn_of_wp Try.func85 rfl trivial ?_ rfl
 simp only [Try.ntmps85, List.size_toArray, List.length_cons, List.length_nil, Nat.reduceAdd, Nat.reduceSub, Array.replicate_succ, Array.replicate_zero, List.push_toArray, List.append_toArray, List.nil_append, List.cons_append]
 obtain ⟨A, cap, rfl⟩ := hC.2.2.form
 have hmul : ∀ j, j * L < l.length → j * L + L ≤ 2000000 := fun j h => by omega
 gi_wp2
 gi_loopw [4] (fun iv wr => ∃ j : Nat, j ≤ (chunks L l).length ∧ iv = .int .i64 ((j * L : Nat) : Int) ∧ J ((chunks L l).take j) wr ∧ CapC b1 b2 L (.slice A l.length cap) l wr ∧ n0 ≤ wr.heap.size) (fun iv _ => l.length - (intOf iv).toNat)
 case atStart => exact ⟨0, Nat.zero_le _, by go_num, h0, hC, hn0⟩
 case round =>
  obtain ⟨j, hj, rfl, hJ, hcap, hzr⟩ := hrel
  obtain ⟨wo, rfl⟩ : ∃ W, W = wr := ⟨_, rfl⟩
  have k1 : wo.cell? ⟨b1, 0, none⟩ = some (.slice A l.length cap) := by simp [World.cell?, hcap.1]
  have k2 : wo.cell? ⟨b2, 0, none⟩ = some (.int .i64 (L : Nat)) := by simp [World.cell?, hcap.2.1]
  obtain ⟨i, hi⟩ : ∃ i, j * L = i := ⟨_, rfl⟩
  rw [hi]
  have HI := Lib.hid hi
  by_cases hlt : j * L < l.length
  ·have hlt' : (i : Int) < (l.length : Int) := by omega
   have hjl := (chunks_lt hL.1 l j).2 hlt
   have hat := chunks_at hL.1 l hjl
   obtain ⟨b, o, rfl, -⟩ : ∃ b o, A = some ⟨b, o, none⟩ ∧ True := by
    obtain ⟨A', c', h1, -, -, h4⟩ := hcap.2.2
    injection h1 with h1
    obtain ⟨b, o, h5, -⟩ := h4 (by intro e; subst e; simp at hlt)
    exact ⟨b, o, h1.trans h5, trivial⟩
   rw [hi] at hlt hat
   have hlc : l.length ≤ cap ∧ cap ≤ maxLen := by
    obtain ⟨A', c', h1, h2, h3, -⟩ := hcap.2.2
    injection h1 with _ _ h1
    subst h1; exact ⟨h2, h3.2⟩
   have hne : i ≤ l.length := by omega
   have hne2 : ¬ cap = i := by omega
   clear hi
   gi_wp2
   refine wpW_region_N (fun _ w' => w'.cell? ⟨b1, 0, none⟩ = some (.slice (some ⟨b, o, none⟩) l.length cap) ∧ w'.cell? ⟨b2, 0, none⟩ = some (.int .i64 (L : Nat))) (by kernel_rfl) (by kernel_rfl) ?_
   have KD : (wo.drew).cell? ⟨b1, 0, none⟩ = some (.slice (some ⟨b, o, none⟩) l.length cap) ∧ (wo.drew).cell? ⟨b2, 0, none⟩ = some (.int .i64 (L : Nat)) := ⟨k1, k2⟩
   refine wpAnyP_take (i := 0) (v := .int .i64 L) rfl (by kernel_rfl) (by kernel_rfl) (by kernel_rfl) (fun _ _ _ h => nq_panic h) (yieldsIf_run rfl (fun w' hS => ?_)) KD ?_
   ·obtain ⟨z1, z2⟩ := hS
    go_simp
   refine wpAnyP_take (i := 1) (v := .slice (some ⟨b, o, none⟩) l.length cap) rfl (by kernel_rfl) (by kernel_rfl) (by kernel_rfl) (fun _ _ _ h => nq_panic h) (yieldsIf_run rfl (fun w' hS => ?_)) KD ?_
   ·obtain ⟨z1, z2⟩ := hS
    go_simp
   refine wpAnyP_take (i := 2) (v := .int .i64 i) rfl (by kernel_rfl) (by kernel_rfl) (by kernel_rfl) (fun _ _ _ h => nq_panic h) (yieldsIf_run rfl (fun w' hS => ?_)) KD ?_
   ·go_simp
   refine wpAnyP_take (i := 3) (v := .slice (some ⟨b, o + i * 2, none⟩) (l.length - i) (cap - i)) rfl (by kernel_rfl) (by kernel_rfl) (by kernel_rfl) (fun _ _ _ h => nq_panic h) (yieldsIf_run rfl (fun w' hS => ?_)) KD ?_
   ·go_simp
   obtain ⟨e, he⟩ : ∃ e, min L (l.length - i) = e := ⟨_, rfl⟩
   have he' : min (L : Int) ((l.length - i : Nat) : Int) = (e : Nat) := by rw [← he]; omega
   refine wpAnyP_take (i := 4) (v := .int .i64 ((l.length - i : Nat) : Int)) rfl (by kernel_rfl) (by kernel_rfl) (by kernel_rfl) (fun _ _ _ h => nq_panic h) (yieldsIf_run rfl (fun w' hS => ?_)) KD ?_
   ·go_simp
   refine wpAnyP_take (i := 5) (v := .int .i64 e) rfl (by kernel_rfl) (by kernel_rfl) (by kernel_rfl) (fun _ _ _ h => nq_panic h) (yieldsIf_run rfl (fun w' hS => ?_)) KD ?_
   ·go_simp
    split <;> omega
   refine wpAnyP_take (i := 6) (v := .int .i64 e) rfl (by kernel_rfl) (by kernel_rfl) (by kernel_rfl) (fun _ _ _ h => nq_panic h) (yieldsIf_run rfl (fun w' hS => ?_)) KD ?_
   ·go_simp
   refine wpAnyP_done (by kernel_rfl) ⟨rfl, ?_⟩ _
   have hed : (l.drop i).take L = (l.drop i).take e := by
    rw [← he, ← List.length_drop]
    rcases Nat.le_total L (l.drop i).length with h | h
    ·rw [Nat.min_eq_left h]
    ·rw [Nat.min_eq_right h, List.take_length, List.take_of_length_le h]
   have hepos : 0 < e ∧ i + e ≤ l.length := by omega
   have hcd : CapC b1 b2 L (.slice (some ⟨b, o, none⟩) l.length cap) l wo.drew := hcap
   have hsub := hcd.2.2.sub hepos.2 hepos.1
   have hY2 := hY ((chunks L l).take j) ((l.drop i).take e) (.slice (some ⟨b, o + i * 2, none⟩) e e) wo wo.drew hzr hJ (Below.refl _ _).drew hcd (by rw [← hed, ← hat, ← List.take_succ_eq_append_getElem hjl]; exact List.take_prefix _ _) ⟨hsub, by intro e; have := congrArg List.length e; rw [List.length_take, List.length_drop] at this; simp at this; omega⟩
   obtain ⟨f1, t1, as1, bd1, hy1, hR1⟩ := hY2
   have q1 : (wo.drew).cell? ⟨b1, 0, none⟩ = some (.slice (some ⟨b, o, none⟩) l.length cap) := KD.1
   have q2 : (wo.drew).cell? ⟨b2, 0, none⟩ = some (.int .i64 (L : Nat)) := KD.2
   have hne3 : ¬ e = 0 := by omega
   have hne4 : i + e ≤ cap := by omega
   have hne5 : i ≤ i + e := by omega
   have hz1 : i + e - i = e := by omega
   have HAT : Hid ((chunks L l).take (j + 1) = (chunks L l).take j ++ [(l.drop i).take e]) := by show _ = _; rw [List.take_succ_eq_append_getElem hjl, hat, hed]
   generalize hwd : wo.drew = wd
   rw [hwd] at hy1 hR1 q1 q2
   clear hwd hcd hsub KD k1 k2 hJ hY hC hed hat
   gi_wp2
   refine hR1.mono ?_
   rintro e1 W3 ⟨rfl, hJ3, hc3, hz3⟩
   have q3 : W3.cell? ⟨b2, 0, none⟩ = some (.int .i64 (L : Nat)) := by simp [World.cell?, hc3.2.1]
   gi_wp2
   go_roundw
   case rel => exact ⟨j + 1, by omega, by rw [Nat.succ_mul, HI.out]; go_num, by rw [HAT.out]; exact hJ3, hc3, hz3⟩
   case measure => simp [intOf]; omega
  ·have hjl : j = (chunks L l).length := by
    have := (chunks_lt hL.1 l j).1
    rcases Nat.lt_or_ge j (chunks L l).length with h | h
    ·exact absurd (this h) hlt
    ·omega
   have hlt' : ¬ (i : Int) < (l.length : Int) := by omega
   rw [hjl, List.take_length] at hJ
   clear hi
   gi_wp2
   go_end0
   exact ⟨⟨_, rfl⟩, hJ, hcap, hzr⟩
end Go.Proofs.Ytlfbbofcnonhdaa

/- Contract: Draws of valid numbers. -/
namespace Go.Proofs.Ytlfbbofcnonhdaa
open Go.RowKit Go.Proofs Go.Shelf
attribute [local go_sem] Oper.semAt_some

def rows (T L : Nat) (pre : List Nat) : List (List (Int × Int)) := pre.flatMap fun r => chunks L ((gmP T r).map iP)
theorem chk_map {α β : Type} (f : α → β) (n : Nat) : ∀ (k : Nat) (l : List α), chk n k (l.map f) = (chk n k l).map (·.map f)
 | 0, _ => rfl
 | k + 1, [] => rfl
 | k + 1, x :: r => by
  show (f x :: r.map f).take n :: chk n k ((f x :: r.map f).drop n) = _
  have e : (f x :: r.map f) = (x :: r).map f := rfl
  rw [e, ← List.map_drop, chk_map f n k, ← List.map_take]; rfl
theorem chunks_map {α β : Type} (f : α → β) (n : Nat) (l : List α) : chunks n (l.map f) = (chunks n l).map (·.map f) := by
 unfold chunks; rw [List.length_map, chk_map]
theorem rows_all (T L : Nat) : rows T L (List.range (cir T)) = (drP T L).map (·.map iP) := by
 unfold rows drP
 rw [List.map_flatMap]
 congr 1; funext r; exact chunks_map iP L _
theorem chunks_len {α : Type} {n : Nat} (hn : 1 ≤ n) (l : List α) : (chunks n l).length ≤ l.length := by
 rcases Nat.lt_or_ge l.length (chunks n l).length with h | h
 ·have := (chunks_lt hn l l.length).1 h
  have h2 : l.length * 1 ≤ l.length * n := Nat.mul_le_mul_left _ hn
  omega
 ·exact h
theorem rows_len {T L : Nat} (hT : 2 ≤ T ∧ T ≤ 16) (hL : 1 ≤ L) (pre : List Nat) : (rows T L pre).length ≤ pre.length * 9 := by
 unfold rows
 induction pre with
 | nil => simp
 | cons r pre ih =>
  rw [List.flatMap_cons, List.length_append]
  have h1 := chunks_len hL ((gmP T r).map iP)
  have h2 := gmP_len T r
  rw [List.length_map] at h1
  have : cir T ≤ 17 := by unfold cir; omega
  simp only [List.length_cons]
  omega
theorem rows_snoc (T L : Nat) (pre : List Nat) (r : Nat) : rows T L (pre ++ [r]) = rows T L pre ++ chunks L ((gmP T r).map iP) := by
 unfold rows; rw [List.flatMap_append]; simp
theorem boxed_kc {W W' : World} {b n0 : Nat} {t : TypeId} {v : Value} (h : Boxed W b t v) (hk : Kc n0 W W') : Boxed W' b t v := hk.2 _ _ _ _ h
theorem boxed_grown {W W' : World} {b : Nat} {t : TypeId} {v : Value} {row : Option Nat} (h : Boxed W b t v) (hg : W.grownBy W' row) (hne : some b ≠ row) : Boxed W' b t v := (hg.block b h.lt hne).trans h
theorem ko_below {A B : World} (h : Below A.heap.size A B) : KeepsOthers A B := ⟨h.size, fun _ _ hk _ => (h.block _ (Array.getElem?_eq_some_iff.1 hk).1).trans hk⟩
theorem Arr.heap {α : Type} {k : Nat} {enc : α → List Value} {W W' : World} {A : Option Addr} {n c : Nat} {l : List α} (h : Arr k enc W (.slice A n c) l) (hk : ∀ g o, A = some ⟨g, o, none⟩ → W'.heap[g]? = W.heap[g]?) : Arr k enc W' (.slice A n c) l := by
 obtain ⟨A', cap, h1, h2, h3, h4⟩ := h
 injection h1 with e1 e2 e3
 subst e1 e2 e3
 refine ⟨_, _, rfl, h2, h3, fun hn => ?_⟩
 obtain ⟨b, o, h5, h6⟩ := h4 hn
 exact ⟨b, o, h5, fun j hj i hi => (cell_heap (hk b o h5)).trans (h6 j hj i hi)⟩
/-- Between two rounds. -/
def DrI (T L : Nat) (w : World) (pre : List Nat) (W : World) : Prop :=
 ∃ u, Boxed W (w.heap.size + 1) 35 u ∧ OwnD (w.heap.size + 3) 41 2 eP W u (rows T L pre) ∧ Boxed W w.heap.size 3 (.int .i64 (L : Nat)) ∧ Below w.heap.size w W
theorem DrI.kc {T L : Nat} {w : World} {pre : List Nat} {A B : World} (h : DrI T L w pre A) (hk : Kc w.heap.size A B) : DrI T L w pre B := by
 obtain ⟨u, h1, h2, h3, h4⟩ := h
 exact ⟨u, boxed_kc h1 hk, h2.kc EP hk, boxed_kc h3 hk, h4.trans hk.1⟩
/-- Between two chunks of a round that began at W, the round's game at blocks from m on. -/
def DrJ (T L : Nat) (w W : World) (m : Nat) (pre : List Nat) (pre2 : List (List (Int × Int))) (W' : World) : Prop :=
 ∃ u, Boxed W' (w.heap.size + 1) 35 u ∧ OwnD (w.heap.size + 3) 41 2 eP W' u (rows T L pre ++ pre2) ∧ Boxed W' w.heap.size 3 (.int .i64 (L : Nat)) ∧ Below w.heap.size w W' ∧ (∀ j, u.ownBlock = some j → j < m ∨ W.heap.size + 2 ≤ j) ∧
  (∀ k o, k < W.heap.size → W.heap[k]? = some o → o.isCells = false → W'.heap[k]? = some o) ∧ W.heap.size + 2 ≤ W'.heap.size ∧ CapT (w.heap.size + 2) T W'
theorem DrJ.kc {T L m : Nat} {w W : World} {pre : List Nat} {pre2 : List (List (Int × Int))} {A B : World} (h : DrJ T L w W m pre pre2 A) (hk : Kc w.heap.size A B) (hb : Below (W.heap.size + 2) A B) : DrJ T L w W m pre pre2 B := by
 obtain ⟨u, h1, h2, h3, h4, h5, h6, h7, h8⟩ := h
 exact ⟨u, boxed_kc h1 hk, h2.kc EP hk, boxed_kc h3 hk, h4.trans hk.1, h5, fun k o hkz ho hc => (hb.block k (by omega)).trans (h6 k o hkz ho hc), Nat.le_trans h7 hk.1.size, h8.kc hk⟩

set_option maxRecDepth 100000 in
set_option maxHeartbeats 4000000 in
theorem Draws_yes (T L : Nat) (hT : 2 ≤ T ∧ T ≤ 16) (hL : 1 ≤ L ∧ L ≤ 8) (w : World) : Calls Try.prog 22 #[.int .i64 (T : Nat), .int .i64 (L : Nat)] w fun e w' =>
  (∃ u, e = .returned (.tuple #[u, .int .i64 0]) ∧ OwnD w.heap.size 41 2 eP w' u ((drP T L).map (·.map iP))) ∧ Below w.heap.size w w' := by
 have HW1 : Hid (∀ w, Calls Try.prog 47 #[.int .i64 (T : Nat), .int .i64 2, .int .i64 16] w fun e w' => e = .returned (.bool true) ∧ w = w') := fun w => by
  have := within47 T 2 16 w; rwa [decide_eq_true (by omega)] at this
 have HW2 : Hid (∀ w, Calls Try.prog 47 #[.int .i64 (L : Nat), .int .i64 1, .int .i64 8] w fun e w' => e = .returned (.bool true) ∧ w = w') := fun w => by
  have := within47 L 1 8 w; rwa [decide_eq_true (by omega)] at this
 have hmf : ∀ (fn : Fn) (first cap : Array Value) (w : World), (Instr.makeFunc fn first cap).run Try.prog w = .ok (.func fn first cap) w := fun _ _ _ _ => rfl
 refine (callsIn_wide (n := 20)).1 ?_
 refine callsIn_of_wp_marks Try.func22 rfl trivial ?_ rfl
 simp only [Try.ntmps22, List.size_toArray, List.length_cons, List.length_nil, Nat.reduceAdd, Nat.reduceSub, Array.replicate_succ, Array.replicate_zero, List.push_toArray, List.append_toArray, List.nil_append, List.cons_append]
 gi_wp2_with (first
  | (refine ⟨trivial, ?_⟩; gi_at_call 47; with_reducible refine (callsIn_wide.2 (HW1.out _)).mono ?_; rintro e w' ⟨rfl, rfl⟩)
  | (refine ⟨trivial, ?_⟩; gi_at_call 47; with_reducible refine (callsIn_wide.2 (HW2.out _)).mono ?_; rintro e w' ⟨rfl, rfl⟩)
  | (refine ⟨trivial, ?_⟩; gi_at_call 59; refine (callsIn_wide.2 (rounds59 _ _)).mono ?_; rintro e w' ⟨rfl, rfl⟩))
 obtain ⟨W0, hW0⟩ : ∃ W0, ((w.alloc (.cells #[.int .i64 (L : Nat)] 3)).alloc (.cells #[.slice none 0 0] 35)).alloc (.cells #[.int .i64 (T : Nat)] 3) = W0 := ⟨_, rfl⟩
 have bL : Boxed W0 w.heap.size 3 (.int .i64 (L : Nat)) := by rw [← hW0]; exact ((Boxed.new w 3 _).alloc _).alloc _
 have bO : Boxed W0 (w.heap.size + 1) 35 (.slice none 0 0) := by
  rw [← hW0]; have := (Boxed.new (w.alloc (.cells #[.int .i64 (L : Nat)] 3)) 35 (.slice none 0 0)).alloc (.cells #[.int .i64 (T : Nat)] 3); rwa [World.size_alloc] at this
 have bT : CapT (w.heap.size + 2) T W0 := by
  rw [← hW0]; have := Boxed.new ((w.alloc (.cells #[.int .i64 (L : Nat)] 3)).alloc (.cells #[.slice none 0 0] 35)) 3 (.int .i64 (T : Nat)); simp only [World.size_alloc] at this; exact this
 have B0 : Below w.heap.size w W0 := by rw [← hW0]; exact (((Below.refl _ _).alloc (Nat.le_refl _) _).alloc (by simp) _).alloc (by simp; omega) _
 have hz0 : W0.heap.size = w.heap.size + 3 := by rw [← hW0]; simp
 rw [hW0]
 clear hW0 HW1 HW2
 refine range_it (n := 20) (n0 := w.heap.size) (xs := List.range (cir T)) (Y := RoY T) (by decide) (rounds84 _ w.heap.size (w.heap.size + 2) T hT (by decide)) rfl (enters_of Try.func84 (by kernel_rfl) rfl) rfl (fun A B h k => h.kc k)
  (fun x v m A B h k => ⟨h.1.kc EP k, fun A' n' k' g o e e2 => ⟨(h.2 _ _ _ g o e e2).1, Nat.lt_of_lt_of_le (h.2 _ _ _ g o e e2).2 k.1.size⟩⟩) (by omega) (DrI T L w) (fun s A B _ h k => h.kc k) ⟨_, bO, OwnD.nil _ _ _, bL, B0⟩ bT ?_ ?_
 ·apply Exists.intro
  refine ⟨?_, ?_⟩
  ·intro l' v W K hK
   gi_wp2
   exact hK
  ·rintro l' pre r v Wb W ⟨rr, hloop⟩ hl' hzb hI kcb hcap hpre ⟨hA, hblk⟩
   have hlen9 : ((gmP T r).map iP).length ≤ 9 := by
    rw [List.length_map]; have := gmP_len T r; have : cir T ≤ 17 := by unfold cir; omega
    omega
   have hsn := rows_snoc T L pre r
   obtain ⟨M, hM⟩ : ∃ M, (gmP T r).map iP = M := ⟨_, rfl⟩
   rw [hM] at hA hlen9 hsn
   clear hM
   have HSN := Lib.hid hsn
   obtain ⟨A, cap, rfl⟩ := hA.form
   have hI2 := hI.kc kcb
   have hown : ∀ u, Boxed Wb (w.heap.size + 1) 35 u → ∀ j, u.ownBlock = some j → w.heap.size + 3 ≤ j ∧ j < Wb.heap.size := by
    intro u hu j hj
    obtain ⟨u', h1, h2, -⟩ := hI
    have e : u' = u := by have a := h1.cell; have b := hu.cell; rw [a] at b; exact Option.some.inj b
    subst e
    exact ⟨(h2.ge hj).1, (h2.ge hj).2.1⟩
   obtain ⟨u, hu, ho, hlb, hB⟩ := hI2
   have hob : ∀ j, u.ownBlock = some j → w.heap.size + 3 ≤ j ∧ j < Wb.heap.size := hown u (by
    obtain ⟨u', h1, -⟩ := hI
    have e : u' = u := by have a := (boxed_kc h1 kcb).cell; have b := hu.cell; rw [a] at b; exact Option.some.inj b
    subst e; exact h1)
   have hcl := hlb.cell
   have hzW : Wb.heap.size ≤ W.heap.size := kcb.1.size
   have hzw := hB.size
   have hpl : pre.length < 17 := by
    have := hpre.length_le; simp at this; have : cir T ≤ 17 := by unfold cir; omega
    omega
   have hrl := rows_len hT hL.1 pre
   have hszo := lt_cell hcl
   have hwb : w.heap.size + 1 < Wb.heap.size := by obtain ⟨u', h1, -⟩ := hI; exact h1.lt
   clear hI hown hsn
   gi_wp2_with (refine ⟨trivial, ?_⟩; gi_at_call 60; refine (CallsIn.inRound _ (callsIn_wide.2 (Chunk60 _ _ _ _ hL.1 _))).mono ?_; rintro e w' ⟨rfl, rfl⟩)
   have hloop2 : ((W.alloc (.cells #[.slice A M.length cap] 41)).alloc (.cells #[.int .i64 (L : Nat)] 3)).heap[l']? = some (.loop rr) := by
    have h1 := (Array.getElem?_eq_some_iff.1 hloop).1
    exact (Below.heap_alloc _ _ _ (by simp; omega)).trans ((Below.heap_alloc _ _ _ h1).trans hloop)
   have c1 : Boxed ((W.alloc (.cells #[.slice A M.length cap] 41)).alloc (.cells #[.int .i64 (L : Nat)] 3)) W.heap.size 41 (.slice A M.length cap) := (Boxed.new W 41 _).alloc _
   have c2 : Boxed ((W.alloc (.cells #[.slice A M.length cap] 41)).alloc (.cells #[.int .i64 (L : Nat)] 3)) (W.heap.size + 1) 3 (.int .i64 (L : Nat)) := by
    have := Boxed.new (W.alloc (.cells #[.slice A M.length cap] 41)) 3 (.int .i64 (L : Nat)); rwa [World.size_alloc] at this
   have hb2 : Below W.heap.size W ((W.alloc (.cells #[.slice A M.length cap] 41)).alloc (.cells #[.int .i64 (L : Nat)] 3)) := ((Below.refl _ _).alloc (Nat.le_refl _) _).alloc (by simp) _
   have hz2 : ((W.alloc (.cells #[.slice A M.length cap] 41)).alloc (.cells #[.int .i64 (L : Nat)] 3)).heap.size = W.heap.size + 2 := by simp
   have kc2 : Kc w.heap.size W ((W.alloc (.cells #[.slice A M.length cap] 41)).alloc (.cells #[.int .i64 (L : Nat)] 3)) := Kc.of_below hb2 hzw
   generalize ((W.alloc (.cells #[.slice A M.length cap] 41)).alloc (.cells #[.int .i64 (L : Nat)] 3)) = W2 at hloop2 c1 c2 hb2 hz2 kc2 ⊢
   refine range_in (n := 20 - 1 - 1) (l₀ := l') (r₀ := rr) hloop2 (n0 := w.heap.size) (xs := chunks L M) (Y := ChY) (by decide) (chunk85 _ w.heap.size W.heap.size (W.heap.size + 1) L ⟨hL.1, by omega⟩ (.slice A M.length cap) M (by omega) (by decide)) rfl (enters_of Try.func85 (by kernel_rfl) rfl) rfl (fun A B h k => h.kc k)
    (fun x v m A B h k => ⟨h.1.kc EP k, h.2⟩) (by omega) (DrJ T L w W Wb.heap.size pre) (fun s A B _ h k b => h.kc k (by rw [hz2] at b; exact b))
    ⟨u, boxed_kc hu kc2, by rw [List.append_nil]; exact ho.kc EP kc2, boxed_kc hlb kc2, hB.trans kc2.1, fun j hj => .inl (hob j hj).2, fun k o hk ho' _ => (hb2.block k hk).trans ho', by omega, hcap.kc kc2⟩ ⟨c1, c2, hA.kc EP kc2⟩ ?_ ?_
   ·apply Exists.intro
    refine ⟨?_, ?_⟩
    ·intro l2 v W K hK
     gi_wp2
     exact hK
    ·rintro l2 pre2 d x m W3 hl2 ⟨u3, b3, o3, lb3, B3, ob3, ko3, sz3, ct3⟩ hC3 hpre3 ⟨hA3, hd3⟩ hz3
     obtain ⟨A3, c3, rfl⟩ := hA3.form
     obtain ⟨A5, c5, rfl⟩ := o3.form
     have hpl3 : pre2.length + 1 ≤ 9 := by
      have := hpre3.length_le; simp only [List.length_append, List.length_singleton] at this; have := chunks_len hL.1 M; omega
     have hdl : d.length ≤ 1000 := by
      have hm : d ∈ chunks L M := hpre3.subset (by simp)
      obtain ⟨j, hj, rfl⟩ := List.mem_iff_getElem.1 hm
      rw [chunks_at hL.1, List.length_take]; omega
     have hll : (rows T L pre ++ pre2).length ≤ 1000 := by rw [List.length_append]; omega
     have hc3 := b3.cell
     have hf3 := b3.frozen
     gi_wp2
     refine wpR_region_N (fun i w' => i = 0 → w'.cell? ⟨w.heap.size + 1, 0, none⟩ = some (.slice A5 (rows T L pre ++ pre2).length c5)) (by kernel_rfl) (by kernel_rfl) ?_
     have hKS : (W3.drew).cell? ⟨w.heap.size + 1, 0, none⟩ = some (.slice A5 (rows T L pre ++ pre2).length c5) := hc3
     have q1 : OwnD (w.heap.size + 3) 41 2 eP W3.drew (.slice A5 (rows T L pre ++ pre2).length c5) (rows T L pre ++ pre2) := o3.up EP (Below.refl _ _).drew
     have q2 : Arr 2 eP W3.drew (.slice A3 d.length c3) d := hA3.up EP (Below.refl _ _).drew
     have q3 : ∀ b : Nat, (W3.drew).heap[b]? = W3.heap[b]? := fun _ => rfl
     have q4 : KeepsOthers W3 W3.drew := KeepsOthers.drew W3
     have q5 : (W3.drew).heap.size = W3.heap.size := rfl
     have q6 : Below W3.heap.size W3 W3.drew := (Below.refl _ _).drew
     generalize W3.drew = wq at hKS q1 q2 q3 q4 q5 q6 ⊢
     refine wpAnyP_take (i := 0) (v := .slice A5 (rows T L pre ++ pre2).length c5) rfl (by kernel_rfl) (by kernel_rfl) (by kernel_rfl) (fun _ _ _ h => nq_panic h) (yieldsIf_run rfl (fun w' hS => ?_)) (fun _ => hKS) ?_
     ·have hS0 := hS rfl
      go_simp
     refine wpAnyP_take (i := 1) (v := .slice A3 d.length c3) rfl (by kernel_rfl) (by kernel_rfl) (by kernel_rfl) (fun _ _ _ h => nq_panic h) (yieldsIf_run rfl (fun w' hS => ?_)) (fun _ => hKS) ?_
     ·go_simp
     refine wpAnyP_one (i := 2) (by kernel_rfl) (wpOp_call (f := 61) (args := #[.slice A3 d.length c3]) rfl rfl (by kernel_rfl) ?_)
     refine (Clone61 d _ wq q2 hdl).mono ?_
     rintro e1 w6 ⟨⟨cl, rfl, ho6⟩, hb6⟩
     obtain ⟨A6, c6, rfl, hA6, -⟩ := row_form ho6
     refine ⟨_, rfl, fun _ _ hS h => upc (hS h) hb6, ?_⟩
     refine wpAnyP_one (i := 3) (by kernel_rfl) (wpOp_run (v := .slice (some ⟨w6.heap.size, 0, none⟩) 1 1) (w' := w6.alloc (.cells #[.slice A6 d.length c6] 41)) rfl rfl (by go_simp) ⟨fun _ _ hS h => upa (hS h) _, ?_⟩)
     have hge : ∀ j, (Value.slice A5 (rows T L pre ++ pre2).length c5).ownBlock = some j → w.heap.size + 3 ≤ j ∧ j < W3.heap.size := fun j hj => ⟨(o3.ge hj).1, (o3.ge hj).2.1⟩
     have hs6 := hb6.size
     have hs3 := B3.size
     obtain ⟨v7, w7, hrun, o7, hg7, hat7, A7, c7, hv7⟩ := run_appD (sl := 35) (e := 35) EP Try.underlying35 Try.info41 (q1.up EP hb6) ⟨A6, d.length, c6, d⟩ (Arr.of_own EP ho6 (Nat.le_trans hdl (by decide))) (fun g o e => by
      have h1 := hA6 g o e
      refine ⟨by omega, h1.2.2, fun e2 => ?_⟩
      have := hge g e2.symm
      omega) hll (by omega)
     subst hv7
     have hne1 : some (w.heap.size + 1) ≠ (Value.slice A5 (rows T L pre ++ pre2).length c5).ownBlock := fun e => by have := hge _ e.symm; omega
     refine wpAnyP_one (i := 4) (by kernel_rfl) (wpOp_run (v := .slice A7 ((rows T L pre ++ pre2).length + 1) c7) (w' := w7) rfl rfl ?_ ⟨fun _ _ hS h => hg7.cell (hS h) hne1, ?_⟩)
     ·exact run_append_op (s := .tmp 24) (x := .tmp 27) rfl (by kernel_rfl) (by kernel_rfl) hrun
     have G7 : ∀ b : Nat, b < W3.heap.size → some b ≠ (Value.slice A5 (rows T L pre ++ pre2).length c5).ownBlock → w7.heap[b]? = W3.heap[b]? := fun b hb hne =>
      (hg7.block b (by simp; omega) hne).trans (((Below.heap_alloc _ _ _ (by omega)).trans (hb6.block b (by omega))).trans (q3 b))
     have b7 : Boxed w7 (w.heap.size + 1) 35 (.slice A5 (rows T L pre ++ pre2).length c5) := (G7 _ b3.lt hne1).trans b3
     have hc7 := b7.cell
     have hf7 := b7.frozen
     refine wpAnyP_one (i := 5) (by kernel_rfl) (wpOp_skip (w' := w7.setCell ⟨w.heap.size + 1, 0, none⟩ (.slice A7 ((rows T L pre ++ pre2).length + 1) c7)) rfl rfl ?_ ⟨fun m' hfr hS => ?_, ?_⟩)
     ·unfold execOp
      go_simp
     ·rintro rfl
      exact absurd (Eq.trans (by kernel_rfl) hfr : false = true) (by decide)
     refine wpAnyP_done (by kernel_rfl) ⟨rfl, ?_⟩ _
     have gs : w7.grownBy _ (some (w.heap.size + 1)) := grown_set w7 ⟨w.heap.size + 1, 0, none⟩ (.slice A7 ((rows T L pre ++ pre2).length + 1) c7)
     have G8 : ∀ b : Nat, b < W3.heap.size → some b ≠ (Value.slice A5 (rows T L pre ++ pre2).length c5).ownBlock → b ≠ w.heap.size + 1 → (w7.setCell ⟨w.heap.size + 1, 0, none⟩ (.slice A7 ((rows T L pre ++ pre2).length + 1) c7)).heap[b]? = W3.heap[b]? := fun b hb hne hn =>
      (gs.block b (by have := hg7.size; simp at this; omega) (by simpa using hn)).trans (G7 b hb hne)
     have hcl3 := lb3.lt
     have hct3 : w.heap.size + 2 < W3.heap.size := (Array.getElem?_eq_some_iff.1 ct3).1
     have hctW : w.heap.size + 2 < W.heap.size := (Array.getElem?_eq_some_iff.1 hcap).1
     have hsz8 := hg7.size
     have B8 : Below w.heap.size w (w7.setCell ⟨w.heap.size + 1, 0, none⟩ (.slice A7 ((rows T L pre ++ pre2).length + 1) c7)) := by
      have b6 : Below w.heap.size w w6 := (B3.trans (q6.mono hs3)).trans (hb6.mono (by omega))
      have b7' := (b6.alloc b6.size (.cells #[.slice A6 d.length c6] 41)).grown hg7 (by have := b6.size; simp; omega) (fun j e => by have := hge j e; omega)
      exact b7'.grown gs b7'.size (fun j e => by injection e with e; omega)
     have K8 : KeepsOthers W3 (w7.setCell ⟨w.heap.size + 1, 0, none⟩ (.slice A7 ((rows T L pre ++ pre2).length + 1) c7)) := by
      refine ((q4.trans (ko_below hb6)).trans (KeepsOthers.alloc _ _)).trans (KeepsOthers.trans (KeepsOthers.of_grownBy hg7 (fun j o e ho => ?_)) (KeepsOthers.setCell _ _ _))
      obtain ⟨h1, h2, o', h3, h4⟩ := o3.ge e
      have : (w6.alloc (.cells #[.slice A6 d.length c6] 41)).heap[j]? = W3.heap[j]? := ((Below.heap_alloc _ _ _ (by omega)).trans (hb6.block j (by omega))).trans (q3 j)
      rw [this, h3] at ho
      injection ho with ho
      rw [← ho]; exact h4
     have hD : ∀ j, (Value.slice A5 (rows T L pre ++ pre2).length c5).ownBlock = some j → j < Wb.heap.size ∨ W.heap.size + 2 ≤ j := ob3
     refine ⟨K8, ⟨_, b7.set _, ?_, (G8 _ hcl3 (fun e => by have := hge _ e.symm; omega) (by omega)).trans lb3, B8, ?_, fun k o hk ho hc => K8.same k o (ko3 k o hk ho hc) hc, ?_, (G8 _ hct3 (fun e => by have := hge _ e.symm; omega) (by omega)).trans ct3⟩, ⟨?_, ?_, ?_⟩, B8.size⟩
     ·rw [← List.append_assoc]; exact o7.kept EP gs (by show _ < _; omega)
     ·intro j hj
      rcases hat7 with h | h
      ·rw [h] at hj; exact ob3 j hj
      ·rw [h] at hj; injection hj with hj; omega
     ·have := gs.size; simp at hsz8; omega
     ·exact (G8 _ (by omega) (fun e => by have := ob3 _ e.symm; omega) (by omega)).trans hC3.1
     ·exact (G8 _ (by omega) (fun e => by have := ob3 _ e.symm; omega) (by omega)).trans hC3.2.1
     ·refine hC3.2.2.heap (fun g o e => ?_)
      have h1 := hblk _ _ _ g o rfl e
      exact G8 _ (by omega) (fun e => by have := ob3 _ e.symm; omega) (by omega)
   ·rintro W3 ⟨u3, b3, o3, lb3, B3, ob3, ko3, sz3, ct3⟩ hC3 hz3
    gi_wp2
    exact ⟨⟨by omega, fun k o hk ho => ko3 k o (Array.getElem?_eq_some_iff.1 hk).1 hk ho⟩, ⟨u3, b3, by rw [HSN.out]; exact o3, lb3, B3⟩, ct3, hz3⟩
 ·rintro D W ⟨u, hu, ho, hlb, hB⟩ hC hz hK hD
  have hcu := hu.cell
  rw [rows_all] at ho
  gi_wp2
  refine ⟨by simp, .inl ⟨_, _, rfl, run_takeDeferred hK, ?_⟩⟩
  have hbs : Below w.heap.size w W := hB
  refine ⟨.tuple #[u, .int .i64 0], by simp [results, Try.results22, go_sem], ⟨u, rfl, ?_⟩, hB.trans (Kc.putObj (n0 := w.heap.size) _ hK rfl (by omega)).1⟩
  exact (ho.kc EP (Kc.putObj (n0 := w.heap.size) _ hK rfl (by omega))).le (by omega)
end Go.Proofs.Ytlfbbofcnonhdaa
