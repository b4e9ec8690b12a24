/- Contracts: bits3, below, share. -/
import Derived.Test.YthkhhjfldkebcaaGreatDoorS2
import Derived.Test.YthkhhjfldkebcaaGreatDoorX
namespace Go.Proofs.YthkhhjfldkebcaaGreatDoor
open Go.RowKit Go.Proofs Go.Shelf

theorem wd_mul (a b : Int) : a * b = a * hiU b * 18446744073709551616 + a * loU b := by
  have : b = hiU b * 18446744073709551616 + loU b := by unfold hiU loU; omega
  conv => lhs; rw [this]
  rw [Int.mul_add, Int.mul_assoc]

theorem product_exact (x y : Int) (w : World) (hx0 : 0 ≤ x) (hx : x ≤ 18446744073709551615) (hy0 : 0 ≤ y) (hy : y ≤ 18446744073709551615) :
    Calls Tryz.prog 62 #[.int .u64 x, .int .u64 y] w fun e w' => e = .returned (Wd (x * y)) ∧ w.alloc (.cells #[.int .u64 (hiU (x * y)), .int .u64 (loU (x * y))] 86) = w' := by
  go_enter Tryz.func62, Tryz.ntmps62
  go_wp2_with (go_at_call 125; refine (mul64_any _ _ _ hx0 hx hy0 hy).mono ?_; rintro e w' ⟨rfl, rfl⟩)
  refine bodyPost_ret (v := .agg #[.int .u64 (hiU (x * y)), .int .u64 (loU (x * y))]) (by simp [results, Tryz.results62, go_sem]) rfl ⟨rfl, ?_⟩
  rfl

theorem zero_cells {w : World} {b : Nat} {x y : Value} {t : TypeId} (h : w.heap[b]? = some (.cells #[x, y] t)) :
    w.cell? ⟨b, 0, none⟩ = some x ∧ w.cell? ⟨b, 1, none⟩ = some y ∧ w.frozen? ⟨b, 0, none⟩ = false ∧ w.frozen? ⟨b, 1, none⟩ = false := by
  refine ⟨?_, ?_, ?_, ?_⟩ <;> simp [World.cell?, World.frozen?, h]
theorem stored4 {w : World} {b1 b2 : Nat} {x1 y1 x2 y2 : Value} (c10 : w.cell? ⟨b1, 0, none⟩ = some x1) (c11 : w.cell? ⟨b1, 1, none⟩ = some y1) (c20 : w.cell? ⟨b2, 0, none⟩ = some x2) (c21 : w.cell? ⟨b2, 1, none⟩ = some y2) (hne : b1 ≠ b2)
    (u1 v1 u2 v2 : Value) (N : Nat) (g1 : N ≤ b1) (g2 : N ≤ b2) :
    ((((w.setCell ⟨b1, 0, none⟩ u1).setCell ⟨b1, 1, none⟩ v1).setCell ⟨b2, 0, none⟩ u2).setCell ⟨b2, 1, none⟩ v2).cell? ⟨b1, 0, none⟩ = some u1 ∧ ((((w.setCell ⟨b1, 0, none⟩ u1).setCell ⟨b1, 1, none⟩ v1).setCell ⟨b2, 0, none⟩ u2).setCell ⟨b2, 1, none⟩ v2).cell? ⟨b1, 1, none⟩ = some v1 ∧ ((((w.setCell ⟨b1, 0, none⟩ u1).setCell ⟨b1, 1, none⟩ v1).setCell ⟨b2, 0, none⟩ u2).setCell ⟨b2, 1, none⟩ v2).cell? ⟨b2, 0, none⟩ = some u2 ∧ ((((w.setCell ⟨b1, 0, none⟩ u1).setCell ⟨b1, 1, none⟩ v1).setCell ⟨b2, 0, none⟩ u2).setCell ⟨b2, 1, none⟩ v2).cell? ⟨b2, 1, none⟩ = some v2 ∧ Below N w ((((w.setCell ⟨b1, 0, none⟩ u1).setCell ⟨b1, 1, none⟩ v1).setCell ⟨b2, 0, none⟩ u2).setCell ⟨b2, 1, none⟩ v2) ∧ ((((w.setCell ⟨b1, 0, none⟩ u1).setCell ⟨b1, 1, none⟩ v1).setCell ⟨b2, 0, none⟩ u2).setCell ⟨b2, 1, none⟩ v2).heap.size = w.heap.size := by
  have o : ∀ (w : World) (b b' o o' : Nat) (v : Value), b ≠ b' → (w.setCell ⟨b', o', none⟩ v).cell? ⟨b, o, none⟩ = w.cell? ⟨b, o, none⟩ := fun w b b' o o' v h => World.cell?_setCell_other _ _ _ _ (by first | (simp; done) | (simp; omega))
  obtain ⟨t0, t1⟩ := two_cells c10 c11 u1 v1
  obtain ⟨t2, t3⟩ := two_cells (w := (w.setCell ⟨b1, 0, none⟩ u1).setCell ⟨b1, 1, none⟩ v1) (b := b2) (by rw [o _ _ _ _ _ _ hne.symm, o _ _ _ _ _ _ hne.symm]; exact c20) (by rw [o _ _ _ _ _ _ hne.symm, o _ _ _ _ _ _ hne.symm]; exact c21) u2 v2
  refine ⟨by rw [o _ _ _ _ _ _ hne, o _ _ _ _ _ _ hne]; exact t0, by rw [o _ _ _ _ _ _ hne, o _ _ _ _ _ _ hne]; exact t1, t2, t3, ?_, by simp [World.setCell]⟩
  exact ((((Below.refl _ _).setCell (p := ⟨b1, 0, none⟩) g1 _).setCell (p := ⟨b1, 1, none⟩) g1 _).setCell (p := ⟨b2, 0, none⟩) g2 _).setCell (p := ⟨b2, 1, none⟩) g2 _
set_option maxHeartbeats 1000000 in
theorem bits3_parts (a H L : Int) (w : World) (ha : 0 ≤ a) (ha' : a ≤ 18446744073709551615) (h1 : 0 ≤ H) (h2 : H ≤ 18446744073709551615) (l1 : 0 ≤ L) (l2 : L ≤ 18446744073709551615) :
    Calls Tryz.prog 151 #[.int .u64 a, .agg #[.int .u64 H, .int .u64 L]] w fun e w' => e = .returned (.tuple #[Wd (a * H + hiU (a * L)), .int .u64 (loU (a * L))]) ∧ Below w.heap.size w w' := by
  have p1 := Int.mul_nonneg ha h1
  have p2 := Int.mul_nonneg ha l1
  have q1 := Int.mul_le_mul ha' h2 h1 (by omega)
  have q2 := Int.mul_le_mul ha' l2 l1 (by omega)
  have PS : Hid (a * H + hiU (a * L) < 340282366920938463463374607431768211456) := by show _ < _; unfold hiU; omega
  have PH : Hid (0 ≤ a * H) := p1
  have PL : Hid (0 ≤ hiU (a * L)) := hiU_nn p2
  have PU : Hid (hiU (a * L) ≤ 18446744073709551615) := by show _ ≤ _; unfold hiU; omega
  have PZ : Hid (∀ w, Calls Tryz.prog 124 #[Wd (a * H), .agg #[.int .u64 0, .int .u64 (hiU (a * L))]] w fun e w' => e = .returned (Wd (a * H + hiU (a * L))) ∧ Below w.heap.size w w') := by
    intro w
    have := plus2 (a * H) (hiU (a * L)) w p1 (hiU_nn p2) PS.out
    have e1 : hiU (hiU (a * L)) = 0 := by unfold hiU; omega
    have e2 : loU (hiU (a * L)) = hiU (a * L) := by unfold hiU loU; omega
    simp only [Wd, e1, e2] at this ⊢
    exact this
  clear p1 p2 q1 q2
  have P1 := Lib.hid (fun w => product2 a L w ha ha' l1 l2)
  have P2 := Lib.hid (fun w => product2 a H w ha ha' h1 h2)
  go_enter Tryz.func151, Tryz.ntmps151
  go_wp2_with fail
  refine wp_region_two_allocs 8 (.cells #[.int .u64 0, .int .u64 0] 86) (.cells #[.int .u64 0, .int .u64 0] 86) (by kernel_rfl) (by kernel_rfl) (by intro o ho ρ w; simp only [List.getElem?_cons_succ, List.getElem?_cons_zero, Option.some.injEq] at ho; subst ho; simp [go_sem]) (by intro o ho ρ w; simp only [List.getElem?_cons_succ, List.getElem?_cons_zero, Option.some.injEq] at ho; subst ho; simp [go_sem]) ?_
  apply Exists.intro
  refine ⟨?_, ?_⟩
  · intro W0 hW0
    have hc := hW0.size
    simp only [World.size_alloc] at hc
    have X0 : ∀ X : BW W0, X.to.cell? ⟨w.heap.size, 0, none⟩ = some (.int .u64 H) := fun X => (X.cell _ _ (by omega)).trans ((hW0.cell (p := ⟨w.heap.size, 0, none⟩) (by simp; omega)).trans (by simp [go_sem]))
    have X1 : ∀ X : BW W0, X.to.cell? ⟨w.heap.size, 1, none⟩ = some (.int .u64 L) := fun X => (X.cell _ _ (by omega)).trans ((hW0.cell (p := ⟨w.heap.size, 1, none⟩) (by simp; omega)).trans (by simp [go_sem]))
    simp only [List.take_succ_cons, List.take_zero]
    repeat (go_big_quiet_step ((first
      | (go_at_call 62; exact quietB (product2 _ _ _ (by omega) (by omega) (by omega) (by omega))))))
    exact wpQuiet_nil rfl
  · intro b1 b2 w2 hb g1 g2 hne s1 s2 k1 k2
    have hsz := hb.size
    simp only [World.size_alloc] at hsz g1 g2
    obtain ⟨c10, c11, f10, f11⟩ := zero_cells k1
    obtain ⟨c20, c21, f20, f21⟩ := zero_cells k2
    simp only [List.drop_succ_cons, List.drop_zero, List.getElem?_cons_succ, List.getElem?_cons_zero, Option.bind_some, Act.put]
    go_wp2_with fail
    have hres := hb.cell (p := ⟨w.heap.size + 1, 0, none⟩) (by simp)
    have hres' := hb.cell (p := ⟨w.heap.size + 1, 1, none⟩) (by simp)
    have hfr := hb.frozen (p := ⟨w.heap.size + 1, 0, none⟩) (by simp)
    have hfr' := hb.frozen (p := ⟨w.heap.size + 1, 1, none⟩) (by simp)
    obtain ⟨y1, y2, y3, y4, hbW, hsW⟩ := stored4 c10 c11 c20 c21 hne (.int .u64 (hiU (a * L))) (.int .u64 (loU (a * L))) (.int .u64 (hiU (a * H))) (.int .u64 (loU (a * H))) (w.heap.size + 1 + 1) g1 g2
    generalize (((w2.setCell ⟨b1, 0, none⟩ (.int .u64 (hiU (a * L)))).setCell ⟨b1, 1, none⟩ (.int .u64 (loU (a * L)))).setCell ⟨b2, 0, none⟩ (.int .u64 (hiU (a * H)))).setCell ⟨b2, 1, none⟩ (.int .u64 (loU (a * H))) = W at *
    have hbb := hb.trans (hbW.mono (by simp))
    have z0 : W.cell? ⟨w.heap.size + 1, 0, none⟩ = some (.int .u64 0) := (hbb.cell (p := ⟨w.heap.size + 1, 0, none⟩) (by simp)).trans (by simp [go_sem])
    have z1 : W.cell? ⟨w.heap.size + 1, 1, none⟩ = some (.int .u64 0) := (hbb.cell (p := ⟨w.heap.size + 1, 1, none⟩) (by simp)).trans (by simp [go_sem])
    have z2 : W.frozen? ⟨w.heap.size + 1, 0, none⟩ = false := (hbb.frozen (p := ⟨w.heap.size + 1, 0, none⟩) (by simp)).trans (by simp [go_sem])
    have z3 : W.frozen? ⟨w.heap.size + 1, 1, none⟩ = false := (hbb.frozen (p := ⟨w.heap.size + 1, 1, none⟩) (by simp)).trans (by simp [go_sem])
    have s1' : b1 < W.heap.size := by omega
    have s2' : b2 < W.heap.size := by omega
    have n1 : b1 ≠ w.heap.size + 1 := by omega
    have n2 : b2 ≠ w.heap.size + 1 := by omega
    clear c10 c11 c20 c21 f10 f11 f20 f21 hres hres' hfr hfr' k1 k2
    have s3' : w.heap.size + 1 < W.heap.size := by omega
    go_region_with (go_at_call 124; refine (PZ.out _).mono ?_; rintro e w3 ⟨rfl, hb3⟩; have m0 := hb3.cell (p := ⟨b1, 0, none⟩) s1'; have m1 := hb3.cell (p := ⟨b1, 1, none⟩) s1'; have m2 := hb3.cell (p := ⟨w.heap.size + 1, 0, none⟩) s3'; have m3 := hb3.cell (p := ⟨w.heap.size + 1, 1, none⟩) s3'; have m4 := hb3.frozen (p := ⟨w.heap.size + 1, 0, none⟩) s3'; have m5 := hb3.frozen (p := ⟨w.heap.size + 1, 1, none⟩) s3')
    all_goals
      have q0 : w3.cell? ⟨w.heap.size + 1, 0, none⟩ = some (.int .u64 0) := m2.trans z0
      have q1 : w3.cell? ⟨w.heap.size + 1, 1, none⟩ = some (.int .u64 0) := m3.trans z1
      go_wp2_with fail
      obtain ⟨t0, t1⟩ := two_cells q0 q1 (.int .u64 (hiU (a * H + hiU (a * L)))) (.int .u64 (loU (a * H + hiU (a * L))))
      refine bodyPost_ret (v := .tuple #[Wd (a * H + hiU (a * L)), .int .u64 (loU (a * L))]) (by simp [results, Tryz.results151, go_sem, t0, t1]) rfl ⟨rfl, ?_⟩
      exact (((((Below.refl _ _).alloc (Nat.le_refl _) _).alloc (by simp) _).trans (hbb.mono (by simp; omega))).drew.trans (hb3.mono (show w.heap.size ≤ W.heap.size by omega))).setCell (p := ⟨w.heap.size + 1, 0, none⟩) (by simp) _ |>.setCell (p := ⟨w.heap.size + 1, 1, none⟩) (by simp) _

theorem bits3_any (a b : Int) (w : World) (ha : 0 ≤ a) (ha' : a ≤ 18446744073709551615) (hb : 0 ≤ b) (hb' : b < 340282366920938463463374607431768211456) :
    Calls Tryz.prog 151 #[.int .u64 a, Wd b] w fun e w' => e = .returned (.tuple #[Wd (hiU (a * b)), .int .u64 (loU (a * b))]) ∧ Below w.heap.size w w' := by
  have h2 : hiU b ≤ 18446744073709551615 := by unfold hiU; omega
  have e := wd_mul a b
  have r1 : hiU (a * b) = a * hiU b + hiU (a * loU b) := by
    rw [e]; generalize a * hiU b = x; generalize a * loU b = y; unfold hiU; omega
  have r2 : loU (a * b) = loU (a * loU b) := by
    rw [e]; generalize a * hiU b = x; generalize a * loU b = y; unfold loU; omega
  rw [r1, r2]
  exact bits3_parts a (hiU b) (loU b) w ha ha' (hiU_nn hb) h2 (loU_nn b) (loU_le b)
end Go.Proofs.YthkhhjfldkebcaaGreatDoor
