/- Contracts of the numbers of 128 bits of package fixed: product, plus, compare, up. -/
import Derived.Test.YthkhhjfldkebcaaGreatDoorA
import Derived.Laws.Externs
import Derived.Deep.RegionWith
import Derived.WalkMore
import Derived.StillTailTactics
import Derived.Test.YthkhhjfldkebcaaGreatDoorShelf
namespace Go.Proofs.YthkhhjfldkebcaaGreatDoor
open Go.RowKit Go.Proofs

theorem mul64_any (x y : Int) (w : World) (hx0 : 0 ≤ x) (hx : x ≤ 18446744073709551615) (hy0 : 0 ≤ y) (hy : y ≤ 18446744073709551615) :
    Calls Tryz.prog 125 #[.int .u64 x, .int .u64 y] w fun e w' => e = .returned (.tuple #[.int .u64 (hiU (x * y)), .int .u64 (loU (x * y))]) ∧ w = w' := by
  obtain ⟨X, rfl⟩ := Int.eq_ofNat_of_zero_le hx0
  obtain ⟨Y, rfl⟩ := Int.eq_ofNat_of_zero_le hy0
  refine (Tryz.bits_Mul64 X Y (by omega) (by omega) w).mono ?_
  rintro e w' ⟨rfl, rfl⟩
  refine ⟨?_, rfl⟩
  simp only [hiU, loU]
  congr 5

theorem add64_run (x y c : Int) (hx : 0 ≤ x) (hy : 0 ≤ y) (hc0 : 0 ≤ c) (hc : c ≤ 1) (w : World) :
    (callFunc 150 #[.int .u64 x, .int .u64 y, .int .u64 c]).run Tryz.prog w = .ok (.value (.tuple #[.int .u64 (loU (x + y + c)), .int .u64 (hiU (x + y + c))])) w := by
  rw [run_callFunc_extern Tryz.func150 (by kernel_rfl) (by kernel_rfl) (by kernel_rfl) (e := add64Entry) (by kernel_rfl), run_add64 x y c hx hy hc0 hc]
  rfl

theorem product_any (x y : Int) (w : World) (hx0 : 0 ≤ x) (hx : x ≤ 18446744073709551615) (hy0 : 0 ≤ y) (hy : y ≤ 18446744073709551615) :
    Calls Tryz.prog 62 #[.int .u64 x, .int .u64 y] w fun e w' => e = .returned (.agg #[.int .u64 (hiU (x * y)), .int .u64 (loU (x * y))]) ∧ Below w.heap.size w w' := by
  go_enter Tryz.func62, Tryz.ntmps62
  go_wp2_with (go_at_call 125; refine (mul64_any _ _ _ hx0 hx hy0 hy).mono ?_; rintro e w' ⟨rfl, rfl⟩)
  refine bodyPost_ret (v := .agg #[.int .u64 (hiU (x * y)), .int .u64 (loU (x * y))]) (by simp [results, Tryz.results62, go_sem]) rfl ⟨rfl, ?_⟩
  exact (Below.refl _ _).alloc (Nat.le_refl _) _

theorem plus_any (h1 l1 h2 l2 : Int) (w : World) (a1 : 0 ≤ h1) (a2 : 0 ≤ l1) (b1 : 0 ≤ h2) (b2 : 0 ≤ l2) (a3 : l1 ≤ 18446744073709551615) (b3 : l2 ≤ 18446744073709551615) :
    Calls Tryz.prog 124 #[.agg #[.int .u64 h1, .int .u64 l1], .agg #[.int .u64 h2, .int .u64 l2]] w fun e w' =>
      e = .returned (.agg #[.int .u64 (loU (h1 + h2 + hiU (l1 + l2))), .int .u64 (loU (l1 + l2))]) ∧ Below w.heap.size w w' := by
  have r1 := fun w => add64_run l1 l2 0 a2 b2 (by omega) (by omega) w
  have r2 := fun w => add64_run h1 h2 (hiU (l1 + l2)) a1 b1 (by unfold hiU; omega) (by unfold hiU; omega) w
  simp only [Int.add_zero] at r1
  clear a1 a2 a3 b1 b2 b3
  go_enter Tryz.func124, Tryz.ntmps124
  go_wp2
  refine bodyPost_ret (v := .agg #[.int .u64 (loU (h1 + h2 + hiU (l1 + l2))), .int .u64 (loU (l1 + l2))]) (by simp [results, Tryz.results124, go_sem]) rfl ⟨rfl, ?_⟩
  exact (((Below.refl _ _).alloc (Nat.le_refl _) _).alloc (by simp) _).alloc (by simp; omega) _
theorem or2_fst (b : Nat) (x : Int) (w : World) (hc : w.cell? ⟨b, 0, none⟩ = some (.int .i64 x)) (hx : (x != 0) = true) :
    Calls Tryz.prog 135 #[.slice (some ⟨b, 0, none⟩) 2 2] w fun e w' => e = .returned (.int .i64 x) ∧ w = w' := by
  go_enter Tryz.func135, Tryz.ntmps135
  go_wp2
  refine wp_loop_rounds 1 ?_
  rw [rounds_succ]
  go_wp2
  go_ret
  exact ⟨rfl, rfl⟩

theorem or2_snd (b : Nat) (y : Int) (w : World) (hc : w.cell? ⟨b, 0, none⟩ = some (.int .i64 0)) (hd : w.cell? ⟨b, 1, none⟩ = some (.int .i64 y)) :
    Calls Tryz.prog 135 #[.slice (some ⟨b, 0, none⟩) 2 2] w fun e w' => e = .returned (.int .i64 y) ∧ w = w' := by
  by_cases hy : y = 0
  · subst hy
    go_enter Tryz.func135, Tryz.ntmps135
    go_wp2
    refine wp_loop_rounds 3 ?_
    rw [rounds_succ]
    go_wp2
    rw [rounds_succ]
    go_wp2
    rw [rounds_succ]
    go_wp2
    go_ret
    exact ⟨rfl, rfl⟩
  · have hy' : (y != 0) = true := by simpa using hy
    clear hy
    go_enter Tryz.func135, Tryz.ntmps135
    go_wp2
    refine wp_loop_rounds 2 ?_
    rw [rounds_succ]
    go_wp2
    rw [rounds_succ]
    go_wp2
    go_ret
    exact ⟨rfl, rfl⟩
/-- Go's cmp.Or of two. -/
def orI (x y : Int) : Int := if x = 0 then y else x
theorem or2_any (b : Nat) (x y : Int) (w : World) (hc : w.cell? ⟨b, 0, none⟩ = some (.int .i64 x)) (hd : w.cell? ⟨b, 1, none⟩ = some (.int .i64 y)) :
    Calls Tryz.prog 135 #[.slice (some ⟨b, 0, none⟩) 2 2] w fun e w' => e = .returned (.int .i64 (orI x y)) ∧ w = w' := by
  by_cases h : x = 0
  · subst h; exact or2_snd b y w hc hd
  · unfold orI; rw [if_neg h]; exact or2_fst b x w hc (by simpa using h)
theorem wp_region_tail {P : Program} {id : Nat} {Q : Exit → Act → World → Prop} {a : Act} {w : World} {l : List Oper} (n : Nat) (hm : P.follows .mixedOrders = true) (hB : Region.lexTailB .any l.toArray n = true)
    (h : wpStill P l.toArray w.drew (fun a' => wpList P l.toArray Q (l.drop n) a' w.drew) (l.take n) a) : (Code.region id l.toArray true).wp P Q a w :=
  wp_region_still_tail n hm hB h
set_option maxRecDepth 20000 in
theorem compare_any (h1 l1 h2 l2 : Int) (w : World) :
    Calls Tryz.prog 95 #[.agg #[.int .u64 h1, .int .u64 l1], .agg #[.int .u64 h2, .int .u64 l2]] w fun e w' =>
      e = .returned (.int .i64 (orI (cmpI h1 h2) (cmpI l1 l2))) ∧ Below w.heap.size w w' := by
  have c0 : ∀ o1 o2 o3, (((w.alloc o1).alloc o2).alloc (.cells #[.int .i64 (cmpI h1 h2), .int .i64 (cmpI l1 l2)] o3)).cell? ⟨w.heap.size + 1 + 1, 0, none⟩ = some (.int .i64 (cmpI h1 h2)) := by intros; simp [go_sem]
  have c1 : ∀ o1 o2 o3, (((w.alloc o1).alloc o2).alloc (.cells #[.int .i64 (cmpI h1 h2), .int .i64 (cmpI l1 l2)] o3)).cell? ⟨w.heap.size + 1 + 1, 1, none⟩ = some (.int .i64 (cmpI l1 l2)) := by intros; simp [go_sem]
  go_enter Tryz.func95, Tryz.ntmps95
  go_wp2_with fail
  refine wp_region_tail 10 (by kernel_rfl) (by kernel_rfl) ?_
  simp only [List.take_succ_cons, List.take_zero, List.drop_succ_cons, List.drop_zero]
  repeat still_step
  still_call ((compareU_any _ _ _).mono fun e w' h => ⟨h.1, h.2.symm⟩)
  repeat still_step
  still_call ((compareU_any _ _ _).mono fun e w' h => ⟨h.1, h.2.symm⟩)
  refine wpStill_nil ?_
  go_wp2_with (go_at_call 135; refine (or2_any _ (cmpI h1 h2) (cmpI l1 l2) _ (by exact c0 _ _ _) (by exact c1 _ _ _)).mono ?_; rintro e w' ⟨rfl, rfl⟩)
  go_ret
  exact ⟨rfl, ((((Below.refl _ _).alloc (Nat.le_refl _) _).alloc (by simp) _).alloc (by simp; omega) _).drew⟩
end Go.Proofs.YthkhhjfldkebcaaGreatDoor
