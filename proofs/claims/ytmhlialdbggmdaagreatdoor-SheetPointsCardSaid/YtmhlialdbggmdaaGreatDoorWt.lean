/- Contract: the law's without: a position without one of its stones. -/
import Derived.Test.YtmhlialdbggmdaaGreatDoorPl
namespace Go.Proofs.YtmhlialdbggmdaaGreatDoor
open Go.RowKit Go.Proofs Go.Shelf
attribute [local go_sem] Oper.semAt_some

theorem wp_region_P {P : Program} {ops : Array Oper} {Q : Exit → Act → World → Prop} {id : Nat} {a : Act} {w : World} (S : Nat → World → Prop) (hm : P.follows .mixedOrders = true)
    (h : wpAnyP P .any ops Q S ops.size (Array.replicate ops.size false) a w.drew) : (Code.region id ops true).wp P Q a w :=
  wp_region_any hm (wpAny_of_P _ _ _ _ h)
theorem news_take {W : World} {b o cap k : Nat} {l : List St} (h : RowS W (.slice (some ⟨b, o, none⟩) l.length cap) l) : ∀ j u, ((l.take k).flatMap stC)[j]? = some u → W.cell? ((⟨b, o, none⟩ : Addr).add j) = some u := by
  intro j u hj
  refine h.news j u ?_
  conv => lhs; rw [← List.take_append_drop k l]
  rw [List.flatMap_append, List.getElem?_append_left (List.getElem?_eq_some_iff.1 hj).1]
  exact hj

set_option maxRecDepth 100000 in
set_option maxHeartbeats 4000000 in
theorem without_any (l : List St) (A : Option Addr) (cap k : Nat) (w : World) (hrow : RowS w (.slice A l.length cap) l) (hk : k < l.length) (h16 : l.length ≤ 16) :
    Calls Tryz.prog 34 #[.slice A l.length cap, .int .i64 k] w fun e w' => (∃ u, e = .returned u ∧ OwnS w.heap.size w' u (l.take k ++ l.drop (k + 1))) ∧ Below w.heap.size w w' := by
  obtain ⟨i0, hi, hz0, hz1, hz2⟩ := info_parts Tryz.info53
  have HR := Lib.hid hrow
  obtain ⟨A', cap', he, hlc, ⟨-, hcm⟩, hcells⟩ := hrow
  injection he with e1 _ e2
  subst e1 e2
  obtain ⟨b, o, rfl, -⟩ := hcells (by intro h; subst h; simp at hk)
  clear hcells
  have HD := Lib.hid (HR.out.drop hk)
  have hk0 : (0 : Int) ≤ (k : Int) := by omega
  have hk1 : (k : Int) ≤ (cap : Int) := by omega
  have hk2 : (k : Int) + 1 ≤ (l.length : Int) := by omega
  have hw1 : IntKind.i64.wrap ((k : Int) + 1) = (k : Int) + 1 := IntWalk.i64_in _ (by omega)
  obtain ⟨V8, hV8⟩ : ∃ V, Value.slice (if cap = k + 1 then some ⟨b, o, none⟩ else some ⟨b, o + (k + 1) * 4, none⟩) (l.length - (k + 1)) (cap - (k + 1)) = V := ⟨_, rfl⟩
  go_enter Tryz.func34, Tryz.ntmps34
  go_wp2_with fail
  refine wp_region_P (fun _ _ => True) (by kernel_rfl) ?_
  refine wpAnyP_take (i := 1) (v := .slice (some ⟨b, o, none⟩) l.length cap) rfl (by kernel_rfl) (by kernel_rfl) (by kernel_rfl) (fun _ _ _ h => h) (yieldsIf_run rfl (fun w hS => ?_)) trivial ?_
  · go_simp
  refine wpAnyP_take (i := 2) (v := .int .i64 k) rfl (by kernel_rfl) (by kernel_rfl) (by kernel_rfl) (fun _ _ _ h => h) (yieldsIf_run rfl (fun w hS => ?_)) trivial ?_
  · go_simp
  refine wpAnyP_take (i := 3) (v := .slice (some ⟨b, o, none⟩) k cap) rfl (by kernel_rfl) (by kernel_rfl) (by kernel_rfl) (fun _ _ _ h => h) (yieldsIf_run rfl (fun w hS => ?_)) trivial ?_
  · go_simp
  refine wpAnyP_take (i := 5) (v := .slice (some ⟨b, o, none⟩) l.length cap) rfl (by kernel_rfl) (by kernel_rfl) (by kernel_rfl) (fun _ _ _ h => h) (yieldsIf_run rfl (fun w hS => ?_)) trivial ?_
  · go_simp
  refine wpAnyP_take (i := 6) (v := .int .i64 k) rfl (by kernel_rfl) (by kernel_rfl) (by kernel_rfl) (fun _ _ _ h => h) (yieldsIf_run rfl (fun w hS => ?_)) trivial ?_
  · go_simp
  refine wpAnyP_take (i := 7) (v := .int .i64 ((k : Int) + 1)) rfl (by kernel_rfl) (by kernel_rfl) (by kernel_rfl) (fun _ _ _ h => h) (yieldsIf_run rfl (fun w hS => ?_)) trivial ?_
  · go_simp
  refine wpAnyP_take (i := 8) (v := V8) rfl (by kernel_rfl) (by kernel_rfl) (by kernel_rfl) (fun _ _ _ h => h) (yieldsIf_run rfl (fun w hS => ?_)) trivial ?_
  · rw [← hV8]
    go_simp
    intro h; omega
  refine wpAnyP_one (i := 0) (by kernel_rfl) (wpOp_run (v := .slice (some ⟨w.heap.size, 0, none⟩) 0 0) (w' := w.drew.alloc (.cells #[] 53)) rfl rfl ?_ ⟨fun _ _ _ => trivial, ?_⟩)
  · go_simp
  have O0 : (w.drew.alloc (.cells #[] 53)).ownsRow w.heap.size 53 4 (.slice (some ⟨w.heap.size, 0, none⟩) 0 0) 0 [] := World.ownsRow_lit w.drew #[] 0 (Nat.le_refl _) (by unfold maxLen; omega) rfl
  have B1 : Below w.heap.size w (w.drew.alloc (.cells #[] 53)) := ((Below.refl _ _).drew).alloc (Nat.le_refl _) _
  have R1 := HR.out.up B1
  obtain ⟨v1, w1, hrun1, hown1, hgrow1, -⟩ := run_append_own (P := Tryz.prog) (w.drew.alloc (.cells #[] 53)) w.heap.size 30 30 53 i0 _ 4 32 Tryz.underlying30 hi hz0 hz1 hz2 rfl (by decide) _ _ _ O0 ⟨b, o, none⟩ k cap ((l.take k).flatMap stC) (by rw [stC_len, List.length_take]; omega) (news_take R1) (fun u h => stC_one h) (by unfold maxLen; omega) (by omega) (by simp)
  have B2 : Below w.heap.size w w1 := B1.grown hgrow1 (by simp) (fun j hj => (ownBlock_ge O0 hj).1)
  refine wpAnyP_one (i := 4) (by kernel_rfl) (wpOp_run (v := v1) (w' := w1) rfl rfl ?_ ⟨fun _ _ _ => trivial, ?_⟩)
  · exact run_append_op rfl (by kernel_rfl) (by kernel_rfl) hrun1
  have RD := HD.out.up B2
  obtain ⟨ad, hV, hnews⟩ : ∃ ad, V8 = .slice (some ad) (l.length - (k + 1)) (cap - (k + 1)) ∧ ∀ j u, ((l.drop (k + 1)).flatMap stC)[j]? = some u → w1.cell? (ad.add j) = some u := by
    by_cases hc : cap = k + 1
    · refine ⟨⟨b, o, none⟩, by rw [← hV8, if_pos hc], ?_⟩
      have : l.drop (k + 1) = [] := List.drop_of_length_le (by omega)
      rw [this]
      intro j u hj
      simp at hj
    · rw [if_neg hc] at RD
      refine ⟨⟨b, o + (k + 1) * 4, none⟩, by rw [← hV8, if_neg hc], ?_⟩
      have hlen : l.length - (k + 1) = (l.drop (k + 1)).length := List.length_drop.symm
      rw [hlen] at RD
      exact RD.news
  obtain ⟨v2, w2, hrun2, hown2, hgrow2, -⟩ := run_append_own (P := Tryz.prog) w1 w.heap.size 30 30 53 i0 _ 4 32 Tryz.underlying30 hi hz0 hz1 hz2 rfl (by decide) _ _ _ hown1 ad (l.length - (k + 1)) (cap - (k + 1)) ((l.drop (k + 1)).flatMap stC) (by rw [stC_len, List.length_drop]) hnews (fun u h => stC_one h) (by unfold maxLen; omega) (by omega) B2.size
  have B3 : Below w.heap.size w w2 := B2.grown hgrow2 B2.size (fun j hj => (ownBlock_ge hown1 hj).1)
  refine wpAnyP_one (i := 9) (by kernel_rfl) (wpOp_run (v := v2) (w' := w2) rfl rfl ?_ ⟨fun _ _ _ => trivial, ?_⟩)
  · exact run_append_op rfl (by kernel_rfl) (by rw [← hV]; kernel_rfl) hrun2
  have HO : Hid (OwnS w.heap.size w2 v2 (l.take k ++ l.drop (k + 1))) := by
    have e1 : (l.take k ++ l.drop (k + 1)).length = 0 + k + (l.length - (k + 1)) := by simp; omega
    have e2 : (l.take k ++ l.drop (k + 1)).flatMap stC = [] ++ (l.take k).flatMap stC ++ (l.drop (k + 1)).flatMap stC := by simp
    show World.ownsRow _ _ _ _ _ _ _
    rw [e1, e2]; exact hown2
  refine wpAnyP_one (i := 10) (by kernel_rfl) (wpOp_run (v := v2) (w' := w2) rfl rfl ?_ ⟨fun _ _ _ => trivial, ?_⟩)
  · go_simp
  refine wpAnyP_done (by kernel_rfl) ?_ _
  have HB3 := Lib.hid B3
  clear HR HD O0 B1 R1 hrun1 hown1 hgrow1 B2 RD hrun2 hown2 hgrow2 hnews
  go_wp2_with fail
  exact bodyPost_ret (v := v2) (by kernel_rfl) (by kernel_rfl) ⟨⟨v2, rfl, HO.out⟩, HB3.out⟩
end Go.Proofs.YtmhlialdbggmdaaGreatDoor
