/- Contracts: slices.Clone at pairs, at froms, at pairs of froms, at ints. -/
import Derived.Test.YtlfbbofcnonhdaaA
namespace Go.Proofs.Ytlfbbofcnonhdaa
open Go.RowKit Go.Proofs Go.Shelf
attribute [local go_sem] Oper.semAt_some

/-- Two froms of a game. -/
def eG (x : (Int × Int) × (Int × Int)) : List Value := [.int .i64 x.1.1, .int .i64 x.1.2, .int .i64 x.2.1, .int .i64 x.2.2]
theorem EG : Enc 4 eG := ⟨fun _ => rfl, fun x v h => by simp [eG] at h; rcases h with rfl | rfl | rfl | rfl <;> rfl⟩
theorem Try.info89 : (Try.prog.info? 89).map (fun i => (i.zero, i.size, i.bytes)) = some (some (.agg #[.int .i64 0, .int .i64 0]), 2, 16) := by kernel_rfl
theorem Try.info90 : (Try.prog.info? 90).map (fun i => (i.zero, i.size, i.bytes)) = some (some (.agg #[.int .i64 0, .int .i64 0, .int .i64 0, .int .i64 0]), 4, 32) := by kernel_rfl
set_option maxRecDepth 100000 in
set_option maxHeartbeats 1000000 in
theorem Clone61 (l : List (Int × Int)) (v : Value) (w : World) (hrow : Arr 2 eP w v l) (hl : l.length ≤ 1000) :
  Calls Try.prog 61 #[v] w fun e w' => (∃ u, e = .returned u ∧ Own w.heap.size 42 2 eP w' u l) ∧ Below w.heap.size w w' := by
 obtain ⟨i0, hi, hz0, hz1, hz2⟩ := info_parts Try.info42
 have HR := Lib.hid hrow
 obtain ⟨A, cap, rfl⟩ := hrow.form
 clear hrow
 cases A with
 | none =>
  have hl0 : l = [] := by
   obtain ⟨A, cap', he, h1, h2, h3⟩ := HR.out
   injection he with e1 _ _
   subst e1
   cases l with
   | nil => rfl
   | cons a l => obtain ⟨b, o, h, -⟩ := h3 (by simp); cases h
  subst hl0
  have hnil := fun w => Lib.run_eql_slice_nil (P := Try.prog) w 41 42 none 0 cap 0 0 Try.underlying41
  go_enter Try.func61, Try.ntmps61
  go_wp2_with fail
  go_ret
  exact ⟨⟨_, rfl, World.ownsRow_nil _ _ _ _⟩, Below.refl _ _⟩
 | some a =>
  have hnil := fun w => Lib.run_eql_slice_nil (P := Try.prog) w 41 42 (some a) l.length cap 0 0 Try.underlying41
  go_enter Try.func61, Try.ntmps61
  go_upto_region 3 with fail
  clear hnil
  have hOw : (w.alloc (.cells #[] 42)).ownsRow w.heap.size 42 2 (.slice (some ⟨w.heap.size, 0, none⟩) 0 0) 0 [] := World.ownsRow_lit w #[] 0 (Nat.le_refl _) (Nat.zero_le _) rfl
  have hnews : ∀ j u, (l.flatMap eP)[j]? = some u → (w.alloc (.cells #[] 42)).cell? (a.add j) = some u := by
   intro j u hu
   have hR := HR.out.up EP ((Below.refl w.heap.size w).alloc (Nat.le_refl _) (.cells #[] 42))
   have hne : l ≠ [] := by intro e; subst e; simp at hu
   obtain ⟨A, cap', he, h1, h2, h3⟩ := HR.out
   injection he with e1 _ e3
   obtain ⟨b, o, hA, -⟩ := h3 hne
   rw [← e1] at hA
   injection hA with hA
   subst hA
   exact hR.news EP (by decide) j u hu
  have hnl : (l.flatMap eP).length = l.length * 2 := flat_len EP l
  have hone : ∀ u ∈ l.flatMap eP, u.oneCell' = true := fun u h => flat_one EP h
  have HOw := Lib.hid hOw
  have HNW := Lib.hid hnews
  have HNL := Lib.hid hnl
  have HON := Lib.hid hone
  clear hOw hnews hnl hone
  go_wp2_with (at_builtin; refine wpList_append_own _ rfl _ _ 41 rfl w.heap.size 42 i0 _ 2 16 Try.underlying41 hi hz0 hz1 hz2 rfl (by decide) _ _ _ rfl HOw.out a l.length cap (l.flatMap eP) rfl HNL.out HNW.out HON.out (by unfold maxLen; omega) (by omega) (by simp) ?_; intro v' w1 hown hgrow hnn)
  refine bodyPost_ret (results_tmp rfl _ _ _) rfl ⟨⟨v', rfl, ?_⟩, ?_⟩
  ·have h2 := hown
   rw [Nat.zero_add, List.nil_append] at h2
   exact h2
  ·refine ((Below.refl w.heap.size w).alloc (Nat.le_refl _) _).grown hgrow (by simp) (fun k e => ?_)
   have e' : some w.heap.size = some k := e
   injection e' with e'
   omega
set_option maxRecDepth 100000 in
set_option maxHeartbeats 1000000 in
theorem Clone72 (l : List (Int × Int)) (v : Value) (w : World) (hrow : Arr 2 eP w v l) (hl : l.length ≤ 1000) :
  Calls Try.prog 72 #[v] w fun e w' => (∃ u, e = .returned u ∧ Own w.heap.size 89 2 eP w' u l) ∧ Below w.heap.size w w' := by
 obtain ⟨i0, hi, hz0, hz1, hz2⟩ := info_parts Try.info89
 have HR := Lib.hid hrow
 obtain ⟨A, cap, rfl⟩ := hrow.form
 clear hrow
 cases A with
 | none =>
  have hl0 : l = [] := by
   obtain ⟨A, cap', he, h1, h2, h3⟩ := HR.out
   injection he with e1 _ _
   subst e1
   cases l with
   | nil => rfl
   | cons a l => obtain ⟨b, o, h, -⟩ := h3 (by simp); cases h
  subst hl0
  have hnil := fun w => Lib.run_eql_slice_nil (P := Try.prog) w 23 89 none 0 cap 0 0 Try.underlying23
  go_enter Try.func72, Try.ntmps72
  go_wp2_with fail
  go_ret
  exact ⟨⟨_, rfl, World.ownsRow_nil _ _ _ _⟩, Below.refl _ _⟩
 | some a =>
  have hnil := fun w => Lib.run_eql_slice_nil (P := Try.prog) w 23 89 (some a) l.length cap 0 0 Try.underlying23
  go_enter Try.func72, Try.ntmps72
  go_upto_region 3 with fail
  clear hnil
  have hOw : (w.alloc (.cells #[] 89)).ownsRow w.heap.size 89 2 (.slice (some ⟨w.heap.size, 0, none⟩) 0 0) 0 [] := World.ownsRow_lit w #[] 0 (Nat.le_refl _) (Nat.zero_le _) rfl
  have hnews : ∀ j u, (l.flatMap eP)[j]? = some u → (w.alloc (.cells #[] 89)).cell? (a.add j) = some u := by
   intro j u hu
   have hR := HR.out.up EP ((Below.refl w.heap.size w).alloc (Nat.le_refl _) (.cells #[] 89))
   have hne : l ≠ [] := by intro e; subst e; simp at hu
   obtain ⟨A, cap', he, h1, h2, h3⟩ := HR.out
   injection he with e1 _ e3
   obtain ⟨b, o, hA, -⟩ := h3 hne
   rw [← e1] at hA
   injection hA with hA
   subst hA
   exact hR.news EP (by decide) j u hu
  have hnl : (l.flatMap eP).length = l.length * 2 := flat_len EP l
  have hone : ∀ u ∈ l.flatMap eP, u.oneCell' = true := fun u h => flat_one EP h
  have HOw := Lib.hid hOw
  have HNW := Lib.hid hnews
  have HNL := Lib.hid hnl
  have HON := Lib.hid hone
  clear hOw hnews hnl hone
  go_wp2_with (at_builtin; refine wpList_append_own _ rfl _ _ 23 rfl w.heap.size 89 i0 _ 2 16 Try.underlying23 hi hz0 hz1 hz2 rfl (by decide) _ _ _ rfl HOw.out a l.length cap (l.flatMap eP) rfl HNL.out HNW.out HON.out (by unfold maxLen; omega) (by omega) (by simp) ?_; intro v' w1 hown hgrow hnn)
  refine bodyPost_ret (results_tmp rfl _ _ _) rfl ⟨⟨v', rfl, ?_⟩, ?_⟩
  ·have h2 := hown
   rw [Nat.zero_add, List.nil_append] at h2
   exact h2
  ·refine ((Below.refl w.heap.size w).alloc (Nat.le_refl _) _).grown hgrow (by simp) (fun k e => ?_)
   have e' : some w.heap.size = some k := e
   injection e' with e'
   omega
set_option maxRecDepth 100000 in
set_option maxHeartbeats 1000000 in
theorem Clone71 (l : List ((Int × Int) × (Int × Int))) (v : Value) (w : World) (hrow : Arr 4 eG w v l) (hl : l.length ≤ 1000) :
  Calls Try.prog 71 #[v] w fun e w' => (∃ u, e = .returned u ∧ Own w.heap.size 90 4 eG w' u l) ∧ Below w.heap.size w w' := by
 obtain ⟨i0, hi, hz0, hz1, hz2⟩ := info_parts Try.info90
 have HR := Lib.hid hrow
 obtain ⟨A, cap, rfl⟩ := hrow.form
 clear hrow
 cases A with
 | none =>
  have hl0 : l = [] := by
   obtain ⟨A, cap', he, h1, h2, h3⟩ := HR.out
   injection he with e1 _ _
   subst e1
   cases l with
   | nil => rfl
   | cons a l => obtain ⟨b, o, h, -⟩ := h3 (by simp); cases h
  subst hl0
  have hnil := fun w => Lib.run_eql_slice_nil (P := Try.prog) w 22 90 none 0 cap 0 0 Try.underlying22
  go_enter Try.func71, Try.ntmps71
  go_wp2_with fail
  go_ret
  exact ⟨⟨_, rfl, World.ownsRow_nil _ _ _ _⟩, Below.refl _ _⟩
 | some a =>
  have hnil := fun w => Lib.run_eql_slice_nil (P := Try.prog) w 22 90 (some a) l.length cap 0 0 Try.underlying22
  go_enter Try.func71, Try.ntmps71
  go_upto_region 3 with fail
  clear hnil
  have hOw : (w.alloc (.cells #[] 90)).ownsRow w.heap.size 90 4 (.slice (some ⟨w.heap.size, 0, none⟩) 0 0) 0 [] := World.ownsRow_lit w #[] 0 (Nat.le_refl _) (Nat.zero_le _) rfl
  have hnews : ∀ j u, (l.flatMap eG)[j]? = some u → (w.alloc (.cells #[] 90)).cell? (a.add j) = some u := by
   intro j u hu
   have hR := HR.out.up EG ((Below.refl w.heap.size w).alloc (Nat.le_refl _) (.cells #[] 90))
   have hne : l ≠ [] := by intro e; subst e; simp at hu
   obtain ⟨A, cap', he, h1, h2, h3⟩ := HR.out
   injection he with e1 _ e3
   obtain ⟨b, o, hA, -⟩ := h3 hne
   rw [← e1] at hA
   injection hA with hA
   subst hA
   exact hR.news EG (by decide) j u hu
  have hnl : (l.flatMap eG).length = l.length * 4 := flat_len EG l
  have hone : ∀ u ∈ l.flatMap eG, u.oneCell' = true := fun u h => flat_one EG h
  have HOw := Lib.hid hOw
  have HNW := Lib.hid hnews
  have HNL := Lib.hid hnl
  have HON := Lib.hid hone
  clear hOw hnews hnl hone
  go_wp2_with (at_builtin; refine wpList_append_own _ rfl _ _ 22 rfl w.heap.size 90 i0 _ 4 32 Try.underlying22 hi hz0 hz1 hz2 rfl (by decide) _ _ _ rfl HOw.out a l.length cap (l.flatMap eG) rfl HNL.out HNW.out HON.out (by unfold maxLen; omega) (by omega) (by simp) ?_; intro v' w1 hown hgrow hnn)
  refine bodyPost_ret (results_tmp rfl _ _ _) rfl ⟨⟨v', rfl, ?_⟩, ?_⟩
  ·have h2 := hown
   rw [Nat.zero_add, List.nil_append] at h2
   exact h2
  ·refine ((Below.refl w.heap.size w).alloc (Nat.le_refl _) _).grown hgrow (by simp) (fun k e => ?_)
   have e' : some w.heap.size = some k := e
   injection e' with e'
   omega
set_option maxRecDepth 100000 in
set_option maxHeartbeats 1000000 in
theorem Clone94 (l : List (Int)) (v : Value) (w : World) (hrow : Arr 1 eI w v l) (hl : l.length ≤ 1000) :
  Calls Try.prog 94 #[v] w fun e w' => (∃ u, e = .returned u ∧ Own w.heap.size 3 1 eI w' u l) ∧ Below w.heap.size w w' := by
 obtain ⟨i0, hi, hz0, hz1, hz2⟩ := info_parts Try.info3
 have HR := Lib.hid hrow
 obtain ⟨A, cap, rfl⟩ := hrow.form
 clear hrow
 cases A with
 | none =>
  have hl0 : l = [] := by
   obtain ⟨A, cap', he, h1, h2, h3⟩ := HR.out
   injection he with e1 _ _
   subst e1
   cases l with
   | nil => rfl
   | cons a l => obtain ⟨b, o, h, -⟩ := h3 (by simp); cases h
  subst hl0
  have hnil := fun w => Lib.run_eql_slice_nil (P := Try.prog) w 26 3 none 0 cap 0 0 Try.underlying26
  go_enter Try.func94, Try.ntmps94
  go_wp2_with fail
  go_ret
  exact ⟨⟨_, rfl, World.ownsRow_nil _ _ _ _⟩, Below.refl _ _⟩
 | some a =>
  have hnil := fun w => Lib.run_eql_slice_nil (P := Try.prog) w 26 3 (some a) l.length cap 0 0 Try.underlying26
  go_enter Try.func94, Try.ntmps94
  go_upto_region 3 with fail
  clear hnil
  have hOw : (w.alloc (.cells #[] 3)).ownsRow w.heap.size 3 1 (.slice (some ⟨w.heap.size, 0, none⟩) 0 0) 0 [] := World.ownsRow_lit w #[] 0 (Nat.le_refl _) (Nat.zero_le _) rfl
  have hnews : ∀ j u, (l.flatMap eI)[j]? = some u → (w.alloc (.cells #[] 3)).cell? (a.add j) = some u := by
   intro j u hu
   have hR := HR.out.up EI ((Below.refl w.heap.size w).alloc (Nat.le_refl _) (.cells #[] 3))
   have hne : l ≠ [] := by intro e; subst e; simp at hu
   obtain ⟨A, cap', he, h1, h2, h3⟩ := HR.out
   injection he with e1 _ e3
   obtain ⟨b, o, hA, -⟩ := h3 hne
   rw [← e1] at hA
   injection hA with hA
   subst hA
   exact hR.news EI (by decide) j u hu
  have hnl : (l.flatMap eI).length = l.length * 1 := flat_len EI l
  have hone : ∀ u ∈ l.flatMap eI, u.oneCell' = true := fun u h => flat_one EI h
  have HOw := Lib.hid hOw
  have HNW := Lib.hid hnews
  have HNL := Lib.hid hnl
  have HON := Lib.hid hone
  clear hOw hnews hnl hone
  go_wp2_with (at_builtin; refine wpList_append_own _ rfl _ _ 26 rfl w.heap.size 3 i0 _ 1 8 Try.underlying26 hi hz0 hz1 hz2 rfl (by decide) _ _ _ rfl HOw.out a l.length cap (l.flatMap eI) rfl HNL.out HNW.out HON.out (by unfold maxLen; omega) (by omega) (by simp) ?_; intro v' w1 hown hgrow hnn)
  refine bodyPost_ret (results_tmp rfl _ _ _) rfl ⟨⟨v', rfl, ?_⟩, ?_⟩
  ·have h2 := hown
   rw [Nat.zero_add, List.nil_append] at h2
   exact h2
  ·refine ((Below.refl w.heap.size w).alloc (Nat.le_refl _) _).grown hgrow (by simp) (fun k e => ?_)
   have e' : some w.heap.size = some k := e
   injection e' with e'
   omega
end Go.Proofs.Ytlfbbofcnonhdaa
