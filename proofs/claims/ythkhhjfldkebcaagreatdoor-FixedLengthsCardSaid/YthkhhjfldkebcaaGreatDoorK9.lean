import Derived.Test.YthkhhjfldkebcaaGreatDoorCb
import Derived.Test.YthkhhjfldkebcaaGreatDoorJ4
import Derived.Test.YthkhhjfldkebcaaGreatDoorBj
import Derived.Test.YthkhhjfldkebcaaGreatDoorFr
import Derived.Lib.SmallJoins
/- Contracts of the document's product, sum. -/
namespace Go.Proofs.YthkhhjfldkebcaaGreatDoor
open Go.RowKit Go.Proofs Go.Shelf

/-- A call that gives back a number with a sign. -/
def SumOut (w : World) (m : Bool) (N : Nat) (e : Ending) (w' : World) : Prop := ∃ v, e = .returned (.agg #[.bool m, v]) ∧ BigN w' v N ∧ Below w.heap.size w w'

/-- A store into a block that begins with a bool. -/
theorem BigN.setBool {w : World} {v : Value} {N b : Nat} {c : Bool} (h : BigN w v N) (hc : w.cell? ⟨b, 0, none⟩ = some (.bool c)) (i : Nat) (u : Value) : BigN (w.setCell ⟨b, i, none⟩ u) v N := by
  obtain ⟨l, ⟨A, cap, rfl, h1, h2, h3⟩, hl, hv⟩ := h
  refine ⟨l, ⟨A, cap, rfl, h1, h2, fun hne => ?_⟩, hl, hv⟩
  obtain ⟨g, rfl, hcell⟩ := h3 hne
  refine ⟨g, rfl, fun j hj => ?_⟩
  have hgb : g ≠ b := by
    rintro rfl
    have h0 := hcell 0 (List.length_pos_iff.2 hne)
    rw [hc] at h0
    cases h0
  rw [World.cell?_setCell_other _ _ _ _ (by rintro h; injection h with h' _ _; exact hgb h'.symm), hcell j hj]
theorem BigN.set2 {w : World} {v : Value} {N b : Nat} {c : Bool} (h : BigN w v N) (hc : w.cell? ⟨b, 0, none⟩ = some (.bool c)) (m : Bool) (u : Value) : BigN ((w.setCell ⟨b, 0, none⟩ (.bool m)).setCell ⟨b, 1, none⟩ u) v N :=
  (h.setBool hc 0 (.bool m)).setBool (World.cell?_setCell_same _ _ _ hc) 1 u

set_option maxHeartbeats 1000000 in
theorem refProduct (a b : Int) (m : Bool) (w : World) (ha : Val a) (hb : Val b) (hm : (!(decide (a < 0) == decide (b < 0))) = m) :
    Calls Tryz.prog 98 #[.int .i64 a, .int .i64 b] w (SumOut w m ((sz a).toNat * (sz b).toNat)) := by
  obtain ⟨X, hX⟩ : ∃ X, (sz a).toNat = X := ⟨_, rfl⟩
  obtain ⟨Y, hY⟩ : ∃ Y, (sz b).toNat = Y := ⟨_, rfl⟩
  have lx := sz_lim ha; have ly := sz_lim hb
  rw [hX] at lx
  rw [hY] at ly
  rw [hX, hY]
  obtain ⟨sx, hsx⟩ : ∃ s, sz a = s := ⟨_, rfl⟩
  obtain ⟨sy, hsy⟩ : ∃ s, sz b = s := ⟨_, rfl⟩
  have S1 : Hid (∀ w, Calls Tryz.prog 73 #[.int .i64 a] w fun e w' => e = .returned (.int .i64 sx) ∧ w = w') := fun w => by rw [← hsx]; exact refSize a w ha
  have S2 : Hid (∀ w, Calls Tryz.prog 73 #[.int .i64 b] w fun e w' => e = .returned (.int .i64 sy) ∧ w = w') := fun w => by rw [← hsy]; exact refSize b w hb
  have O1 : Hid (∀ w, Calls Tryz.prog 72 #[.int .i64 sx] w (BigOut w X)) := fun w => by rw [← hX, ← hsx]; exact of_any (sz a) w (sz_nn a) (by have := sz_le ha.1 ha.2; omega)
  have O2 : Hid (∀ w, Calls Tryz.prog 72 #[.int .i64 sy] w (BigOut w Y)) := fun w => by rw [← hY, ← hsy]; exact of_any (sz b) w (sz_nn b) (by have := sz_le hb.1 hb.2; omega)
  have LX : Hid (Lim X) := lim_of (k := 50) (by omega) (by decide)
  have LY : Hid (Lim Y) := lim_of (k := 50) (by omega) (by decide)
  have Z0 : ∀ w1 : World, Below (w.alloc (.cells #[.bool false, .slice none 0 0] 113)).heap.size (w.alloc (.cells #[.bool false, .slice none 0 0] 113)) w1 → w1.cell? ⟨w.heap.size, 0, none⟩ = some (.bool false) ∧ w1.cell? ⟨w.heap.size, 1, none⟩ = some (.slice none 0 0) ∧ w1.frozen? ⟨w.heap.size, 0, none⟩ = false ∧ w1.frozen? ⟨w.heap.size, 1, none⟩ = false := fun w1 hb =>
    ⟨upc (by simp [go_sem]) hb, upc (by simp [go_sem]) hb, (hb.frozen (p := ⟨w.heap.size, 0, none⟩) (by simp)).trans (by simp [go_sem]), (hb.frozen (p := ⟨w.heap.size, 1, none⟩) (by simp)).trans (by simp [go_sem])⟩
  have HZ := Lib.hid Z0
  clear hX hY hsx hsy ha hb Z0
  go_enter Tryz.func98, Tryz.ntmps98
  go_wp2_with (first
    | (go_at_call 73; ((with_reducible refine (S1.out _).mono ?_); rintro e w' ⟨rfl, rfl⟩))
    | (go_at_call 73; ((with_reducible refine (S2.out _).mono ?_); rintro e w' ⟨rfl, rfl⟩))
    | (go_at_call 72; ((with_reducible refine (O1.out _).mono ?_); rintro e w1 ⟨v1, rfl, k1, hb1⟩; have G1 := Lib.hid k1; obtain ⟨X1, n1, cap1, rfl⟩ := k1.form; clear k1))
    | (go_at_call 72; ((with_reducible refine (O2.out _).mono ?_); rintro e w2 ⟨v2, rfl, k2, hb2⟩; have G2 := Lib.hid k2; obtain ⟨X2, n2, cap2, rfl⟩ := k2.form; clear k2))
    | (go_at_call 102; refine (times_N _ _ _ _ _ (G1.out.up hb2) G2.out LX.out LY.out).mono ?_; rintro e w3 ⟨v3, rfl, k3, hb3⟩; have G3 := Lib.hid k3; obtain ⟨X3, n3, cap3, rfl⟩ := k3.form; clear k3; obtain ⟨z0, z1, g0, g1⟩ := HZ.out w3 ((hb1.trans (hb2.mono hb1.size)).trans (hb3.mono (Nat.le_trans hb1.size hb2.size)))))
  obtain ⟨t0, t1⟩ := two_cells z0 z1 (.bool m) (.slice X3 n3 cap3)
  refine bodyPost_ret (v := .agg #[.bool m, .slice X3 n3 cap3]) (by simp [results, Tryz.results98, go_sem, t0, t1]) rfl ⟨_, rfl, ?_, ?_⟩
  · exact G3.out.set2 z0 m _
  · have b1 : Below w.heap.size w w1 := ((Below.refl _ _).alloc (Nat.le_refl _) _).trans (hb1.mono (by simp))
    have b2 := b1.trans (hb2.mono b1.size)
    have b3 := b2.trans (hb3.mono b2.size)
    exact (b3.setCell (p := ⟨w.heap.size, 0, none⟩) (Nat.le_refl _) _).setCell (p := ⟨w.heap.size, 1, none⟩) (Nat.le_refl _) _

def sumM (m1 m2 : Bool) (N1 N2 : Nat) : Bool := if m1 = m2 then m1 else if N2 ≤ N1 then m1 else m2
def sumN (m1 m2 : Bool) (N1 N2 : Nat) : Nat := if m1 = m2 then N1 + N2 else if N2 ≤ N1 then N1 - N2 else N2 - N1
theorem BigN.drew {w : World} {v : Value} {N : Nat} (h : BigN w v N) : BigN w.drew v N := h

set_option maxRecDepth 100000 in
set_option maxHeartbeats 4000000 in
theorem refSum (m1 m2 : Bool) (v1 v2 : Value) (N1 N2 : Nat) (w : World) (h1 : BigN w v1 N1) (h2 : BigN w v2 N2) (l1 : Lim N1) (l2 : Lim N2) :
    Calls Tryz.prog 99 #[.agg #[.bool m1, v1], .agg #[.bool m2, v2]] w (SumOut w (sumM m1 m2 N1 N2) (sumN m1 m2 N1 N2)) := by
  have W0 : Hid (BigN (((w.alloc (.cells #[.bool m1, v1] 113)).alloc (.cells #[.bool m2, v2] 113)).alloc (.cells #[.bool false, .slice none 0 0] 113)) v1 N1 ∧ BigN (((w.alloc (.cells #[.bool m1, v1] 113)).alloc (.cells #[.bool m2, v2] 113)).alloc (.cells #[.bool false, .slice none 0 0] 113)) v2 N2) := ⟨((h1.alloc _).alloc _).alloc _, ((h2.alloc _).alloc _).alloc _⟩
  obtain ⟨X1, n1, cap1, rfl⟩ := h1.form
  obtain ⟨X2, n2, cap2, rfl⟩ := h2.form
  have L1 := Lib.hid l1
  have L2 := Lib.hid l2
  have BX : Hid (Below w.heap.size w (((w.alloc (.cells #[.bool m1, .slice X1 n1 cap1] 113)).alloc (.cells #[.bool m2, .slice X2 n2 cap2] 113)).alloc (.cells #[.bool false, .slice none 0 0] 113))) := (((Below.refl _ _).alloc (Nat.le_refl _) _).alloc (by simp) _).alloc (by simp; omega) _
  obtain ⟨W, hW⟩ : ∃ W, ((w.alloc (.cells #[.bool m1, .slice X1 n1 cap1] 113)).alloc (.cells #[.bool m2, .slice X2 n2 cap2] 113)).alloc (.cells #[.bool false, .slice none 0 0] 113) = W := ⟨_, rfl⟩
  have x0 : W.cell? ⟨w.heap.size, 0, none⟩ = some (.bool m1) := by rw [← hW]; simp [go_sem]
  have x1 : W.cell? ⟨w.heap.size, 1, none⟩ = some (.slice X1 n1 cap1) := by rw [← hW]; simp [go_sem]
  have x2 : W.cell? ⟨w.heap.size + 1, 0, none⟩ = some (.bool m2) := by rw [← hW]; simp [go_sem]
  have x3 : W.cell? ⟨w.heap.size + 1, 1, none⟩ = some (.slice X2 n2 cap2) := by rw [← hW]; simp [go_sem]
  have x4 : W.cell? ⟨w.heap.size + 1 + 1, 0, none⟩ = some (.bool false) := by rw [← hW]; simp [go_sem]
  have x5 : W.cell? ⟨w.heap.size + 1 + 1, 1, none⟩ = some (.slice none 0 0) := by rw [← hW]; simp [go_sem]
  have y4 : W.frozen? ⟨w.heap.size + 1 + 1, 0, none⟩ = false := by rw [← hW]; simp [go_sem]
  have y5 : W.frozen? ⟨w.heap.size + 1 + 1, 1, none⟩ = false := by rw [← hW]; simp [go_sem]
  rw [hW] at W0 BX
  clear h1 h2 l1 l2
  obtain ⟨rm, hrm⟩ : ∃ m, sumM m1 m2 N1 N2 = m := ⟨_, rfl⟩
  obtain ⟨rn, hrn⟩ : ∃ n, sumN m1 m2 N1 N2 = n := ⟨_, rfl⟩
  have HRM := Lib.hid hrm
  have HRN := Lib.hid hrn
  rw [hrm, hrn]
  clear hrm hrn
  by_cases hm : m1 = m2
  · subst hm
    have e1 : rm = m1 := by rw [← HRM.out]; unfold sumM; rw [if_pos rfl]
    have e2 : N1 + N2 = rn := by rw [← HRN.out]; unfold sumN; rw [if_pos rfl]
    subst e1
    have E2 := Lib.hid e2
    clear e2
    go_enter Tryz.func99, Tryz.ntmps99
    go_wp2_with fail
    go_region_with (go_at_call 110; refine (plus_N _ _ N1 N2 W.drew W0.out.1.drew W0.out.2.drew L1.out L2.out).mono ?_; rintro e w3 ⟨v3, rfl, k3, hb3⟩; have G3 := Lib.hid k3; obtain ⟨X3, n3, cap3, rfl⟩ := k3.form; clear k3; have z0 := (hb3.cell (p := ⟨w.heap.size, 0, none⟩) (lt_cell x0)).trans x0; have z4 := (hb3.cell (p := ⟨w.heap.size + 1 + 1, 0, none⟩) (lt_cell x4)).trans x4; have z5 := (hb3.cell (p := ⟨w.heap.size + 1 + 1, 1, none⟩) (lt_cell x5)).trans x5; have u4 := (hb3.frozen (p := ⟨w.heap.size + 1 + 1, 0, none⟩) (lt_cell x4)).trans y4; have u5 := (hb3.frozen (p := ⟨w.heap.size + 1 + 1, 1, none⟩) (lt_cell x5)).trans y5)
    all_goals
      try go_wp2_with fail
      obtain ⟨t0, t1⟩ := two_cells z4 z5 (.bool rm) (.slice X3 n3 cap3)
      refine bodyPost_ret (v := .agg #[.bool rm, .slice X3 n3 cap3]) (by simp [results, Tryz.results99, go_sem, t0, t1]) rfl ⟨_, rfl, ?_, ?_⟩
      · rw [← E2.out]; exact G3.out.set2 z4 rm _
      · exact (((BX.out.drew).trans (hb3.mono BX.out.size)).setCell (p := ⟨w.heap.size + 1 + 1, 0, none⟩) (by simp; omega) _).setCell (p := ⟨w.heap.size + 1 + 1, 1, none⟩) (by simp; omega) _
  · have hm2 : (m1 == m2) = false := by simpa using hm
    have HO : Hid (∀ w va vb, BigN w va N1 → BigN w vb N2 → Calls Tryz.prog 96 #[va, vb] w fun e w' => e = .returned (.int .i64 (cmpI (N1 : Int) (N2 : Int))) ∧ Below w.heap.size w w') := fun w va vb k1 k2 => order_N va vb N1 N2 w k1 k2 L1.out L2.out
    by_cases hle : N2 ≤ N1
    · obtain ⟨c, hc⟩ : ∃ c, cmpI (N1 : Int) (N2 : Int) = c := ⟨_, rfl⟩
      have hc0 : 0 ≤ c := by rw [← hc]; exact cmp_ge hle
      have e1 : rm = m1 := by rw [← HRM.out]; unfold sumM; rw [if_neg hm, if_pos hle]
      have e2 : N1 - N2 = rn := by rw [← HRN.out]; unfold sumN; rw [if_neg hm, if_pos hle]
      subst e1
      have E2 := Lib.hid e2
      have HLE := Lib.hid hle
      rw [hc] at HO
      clear e2 hc hle hm
      go_enter Tryz.func99, Tryz.ntmps99
      go_wp2_with (go_at_call 96; refine (HO.out _ _ _ W0.out.1 W0.out.2).mono ?_; rintro e w2 ⟨rfl, hb2⟩; have z0 := upc x0 hb2; have z1 := upc x1 hb2; have z2 := upc x2 hb2; have z3 := upc x3 hb2; have z4 := upc x4 hb2; have z5 := upc x5 hb2; have u4 := (hb2.frozen (p := ⟨w.heap.size + 1 + 1, 0, none⟩) (lt_cell x4)).trans y4; have u5 := (hb2.frozen (p := ⟨w.heap.size + 1 + 1, 1, none⟩) (lt_cell x5)).trans y5)
      have B2 : Hid (Below w.heap.size w w2) := BX.out.trans (hb2.mono BX.out.size)
      have K1 : Hid (BigN w2 (.slice X1 n1 cap1) N1) := W0.out.1.up hb2
      have K2 : Hid (BigN w2 (.slice X2 n2 cap2) N2) := W0.out.2.up hb2
      clear x0 x1 x2 x3 x4 x5 y4 y5 hb2
      go_region_with (go_at_call 137; refine (minus_N _ _ N1 N2 w2.drew K1.out.drew K2.out.drew L1.out HLE.out).mono ?_; rintro e w3 ⟨v3, rfl, k3, hb3⟩; have G3 := Lib.hid k3; obtain ⟨X3, n3, cap3, rfl⟩ := k3.form; clear k3; have q0 := (hb3.cell (p := ⟨w.heap.size, 0, none⟩) (lt_cell z0)).trans z0; have q4 := (hb3.cell (p := ⟨w.heap.size + 1 + 1, 0, none⟩) (lt_cell z4)).trans z4; have q5 := (hb3.cell (p := ⟨w.heap.size + 1 + 1, 1, none⟩) (lt_cell z5)).trans z5; have r4 := (hb3.frozen (p := ⟨w.heap.size + 1 + 1, 0, none⟩) (lt_cell z4)).trans u4; have r5 := (hb3.frozen (p := ⟨w.heap.size + 1 + 1, 1, none⟩) (lt_cell z5)).trans u5)
      all_goals
        try go_wp2_with fail
        obtain ⟨t0, t1⟩ := two_cells q4 q5 (.bool rm) (.slice X3 n3 cap3)
        refine bodyPost_ret (v := .agg #[.bool rm, .slice X3 n3 cap3]) (by simp [results, Tryz.results99, go_sem, t0, t1]) rfl ⟨_, rfl, ?_, ?_⟩
        · rw [← E2.out]; exact G3.out.set2 q4 rm _
        · exact (((B2.out.drew).trans (hb3.mono B2.out.size)).setCell (p := ⟨w.heap.size + 1 + 1, 0, none⟩) (by simp; omega) _).setCell (p := ⟨w.heap.size + 1 + 1, 1, none⟩) (by simp; omega) _
    · have hc : cmpI (N1 : Int) (N2 : Int) = -1 := by unfold cmpI; rw [if_pos (by omega)]
      have e1 : rm = m2 := by rw [← HRM.out]; unfold sumM; rw [if_neg hm, if_neg hle]
      have e2 : N2 - N1 = rn := by rw [← HRN.out]; unfold sumN; rw [if_neg hm, if_neg hle]
      subst e1
      have E2 := Lib.hid e2
      have HLE : Hid (N1 ≤ N2) := by show _ ≤ _; omega
      rw [hc] at HO
      clear e2 hc hle hm
      go_enter Tryz.func99, Tryz.ntmps99
      go_wp2_with (go_at_call 96; refine (HO.out _ _ _ W0.out.1 W0.out.2).mono ?_; rintro e w2 ⟨rfl, hb2⟩; have z0 := upc x0 hb2; have z1 := upc x1 hb2; have z2 := upc x2 hb2; have z3 := upc x3 hb2; have z4 := upc x4 hb2; have z5 := upc x5 hb2; have u4 := (hb2.frozen (p := ⟨w.heap.size + 1 + 1, 0, none⟩) (lt_cell x4)).trans y4; have u5 := (hb2.frozen (p := ⟨w.heap.size + 1 + 1, 1, none⟩) (lt_cell x5)).trans y5)
      have B2 : Hid (Below w.heap.size w w2) := BX.out.trans (hb2.mono BX.out.size)
      have K1 : Hid (BigN w2 (.slice X1 n1 cap1) N1) := W0.out.1.up hb2
      have K2 : Hid (BigN w2 (.slice X2 n2 cap2) N2) := W0.out.2.up hb2
      clear x0 x1 x2 x3 x4 x5 y4 y5 hb2
      go_region_with (go_at_call 137; refine (minus_N _ _ N2 N1 w2.drew K2.out.drew K1.out.drew L2.out HLE.out).mono ?_; rintro e w3 ⟨v3, rfl, k3, hb3⟩; have G3 := Lib.hid k3; obtain ⟨X3, n3, cap3, rfl⟩ := k3.form; clear k3; have q0 := (hb3.cell (p := ⟨w.heap.size + 1, 0, none⟩) (lt_cell z2)).trans z2; have q4 := (hb3.cell (p := ⟨w.heap.size + 1 + 1, 0, none⟩) (lt_cell z4)).trans z4; have q5 := (hb3.cell (p := ⟨w.heap.size + 1 + 1, 1, none⟩) (lt_cell z5)).trans z5; have r4 := (hb3.frozen (p := ⟨w.heap.size + 1 + 1, 0, none⟩) (lt_cell z4)).trans u4; have r5 := (hb3.frozen (p := ⟨w.heap.size + 1 + 1, 1, none⟩) (lt_cell z5)).trans u5)
      all_goals
        try go_wp2_with fail
        obtain ⟨t0, t1⟩ := two_cells q4 q5 (.bool rm) (.slice X3 n3 cap3)
        refine bodyPost_ret (v := .agg #[.bool rm, .slice X3 n3 cap3]) (by simp [results, Tryz.results99, go_sem, t0, t1]) rfl ⟨_, rfl, ?_, ?_⟩
        · rw [← E2.out]; exact G3.out.set2 q4 rm _
        · exact (((B2.out.drew).trans (hb3.mono B2.out.size)).setCell (p := ⟨w.heap.size + 1 + 1, 0, none⟩) (by simp; omega) _).setCell (p := ⟨w.heap.size + 1 + 1, 1, none⟩) (by simp; omega) _
end Go.Proofs.YthkhhjfldkebcaaGreatDoor

/- Contracts of the document's Turn, and of alike. -/
namespace Go.Proofs.YthkhhjfldkebcaaGreatDoor
open Go.RowKit Go.Proofs Go.Shelf

theorem sum_sig (m1 m2 : Bool) (N1 N2 : Nat) (P Q : Int) (h1 : P = if m1 = true then -(N1 : Int) else N1) (h2 : Q = if m2 = true then -(N2 : Int) else N2) :
    sig (P + Q) = if sumN m1 m2 N1 N2 = 0 then 0 else if sumM m1 m2 N1 N2 = true then -1 else 1 := by
  subst h1 h2
  unfold sig sumN sumM
  cases m1 <;> cases m2 <;> simp
  all_goals (repeat' split)
  all_goals (try omega)
  all_goals simp_all
  all_goals omega
theorem prod_sgn (a b : Int) : a * b = if (!(decide (a < 0) == decide (b < 0))) = true then -(((sz a).toNat * (sz b).toNat : Nat) : Int) else (((sz a).toNat * (sz b).toNat : Nat) : Int) := by
  have e := sz_mul a b
  have e1 : (((sz a).toNat * (sz b).toNat : Nat) : Int) = sz a * sz b := by
    rw [Int.natCast_mul, Int.toNat_of_nonneg (sz_nn a), Int.toNat_of_nonneg (sz_nn b)]
  rw [e1, e]
  cases decide (a < 0) <;> cases decide (b < 0) <;> simp

theorem alike_eq (x y e : Int) (w : World) : Calls Tryz.prog 48 #[.agg #[.int .i64 x, .int .i64 y], .int .i64 e, .agg #[.int .i64 x, .int .i64 y], .int .i64 e] w fun r w' => r = .returned (.bool true) ∧ Below w.heap.size w w' := by
  go_enter Tryz.func48, Tryz.ntmps48
  go_wp2_with fail
  go_ret
  exact ⟨rfl, ((Below.refl _ _).alloc (Nat.le_refl _) _).alloc (by simp) _⟩

set_option maxRecDepth 100000 in
set_option maxHeartbeats 4000000 in
theorem refTurn (x1 y1 x2 y2 : Int) (w : World) :
    Calls Tryz.prog 45 #[.agg #[.int .i64 x1, .int .i64 y1], .agg #[.int .i64 x2, .int .i64 y2]] w fun e w' => e = .returned (.tuple #[.int .i64 (valE 0 (turnR x1 y1 x2 y2)), .int .i64 (errE (turnR x1 y1 x2 y2))]) ∧ Below w.heap.size w w' := by
  have H1 := Lib.hid (fun w => refSpot x1 y1 w)
  have H2 := Lib.hid (fun w => refSpot x2 y2 w)
  have BX : Hid (Below w.heap.size w ((w.alloc (.cells #[.int .i64 x1, .int .i64 y1] 45)).alloc (.cells #[.int .i64 x2, .int .i64 y2] 45))) := ((Below.refl _ _).alloc (Nat.le_refl _) _).alloc (by simp) _
  by_cases hv : (Val x1 ∧ Val y1) ∧ Val x2 ∧ Val y2
  · rw [decide_eq_true hv.1] at H1
    rw [decide_eq_true hv.2] at H2
    have e : Hid (turnR x1 y1 x2 y2 = .ok (sig (x1 * y2 - y1 * x2))) := by show _ = _; unfold turnR; rw [if_pos ⟨hv.1.1, hv.1.2, hv.2.1, hv.2.2⟩, turnV_sig]
    rw [e.out]
    obtain ⟨ny, hny⟩ : ∃ n, -y1 = n := ⟨_, rfl⟩
    have hv1 := hv.1.2
    have vn : Val ny := by unfold Val at hv1 ⊢; omega
    have hw : IntKind.i64.wrap (-y1) = ny := by rw [hny]; unfold Val at vn; exact IntWalk.i64_in _ (by omega)
    obtain ⟨m1, hm1⟩ : ∃ m, (!(decide (x1 < 0) == decide (y2 < 0))) = m := ⟨_, rfl⟩
    obtain ⟨m2, hm2⟩ : ∃ m, (!(decide (ny < 0) == decide (x2 < 0))) = m := ⟨_, rfl⟩
    have P1 := Lib.hid (fun w => refProduct x1 y2 m1 w hv.1.1 hv.2.2 hm1)
    have P2 := Lib.hid (fun w => refProduct ny x2 m2 w vn hv.2.1 hm2)
    have S := sum_sig m1 m2 ((sz x1).toNat * (sz y2).toNat) ((sz ny).toNat * (sz x2).toNat) (x1 * y2) (ny * x2) (by rw [← hm1]; exact prod_sgn _ _) (by rw [← hm2]; exact prod_sgn _ _)
    rw [show x1 * y2 + ny * x2 = x1 * y2 - y1 * x2 by rw [← hny, Int.neg_mul]; omega] at S
    have l1 : Lim ((sz x1).toNat * (sz y2).toNat) := lim_of (k := 100) (Nat.lt_of_le_of_lt (Nat.mul_le_mul (sz_lim hv.1.1) (sz_lim hv.2.2)) (by decide)) (by decide)
    have l2 : Lim ((sz ny).toNat * (sz x2).toNat) := lim_of (k := 100) (Nat.lt_of_le_of_lt (Nat.mul_le_mul (sz_lim vn) (sz_lim hv.2.1)) (by decide)) (by decide)
    generalize (sz x1).toNat * (sz y2).toNat = N1 at *
    generalize (sz ny).toNat * (sz x2).toNat = N2 at *
    generalize sig (x1 * y2 - y1 * x2) = r at *
    have SU : Hid (∀ w va vb, BigN w va N1 → BigN w vb N2 → Calls Tryz.prog 99 #[.agg #[.bool m1, va], .agg #[.bool m2, vb]] w (SumOut w (sumM m1 m2 N1 N2) (sumN m1 m2 N1 N2))) := fun w va vb k1 k2 => refSum m1 m2 va vb N1 N2 w k1 k2 l1 l2
    have hy0 : -70368744177664 ≤ y1 ∧ y1 ≤ 70368744177664 := by unfold Val at hv1; exact hv1
    obtain ⟨hya, hyb⟩ := hy0
    have S' := Lib.hid S
    generalize sumM m1 m2 N1 N2 = rm at *
    generalize sumN m1 m2 N1 N2 = rn at *
    clear hm1 hm2 hv hv1 vn S l1 l2 e
    go_enter Tryz.func45, Tryz.ntmps45
    go_upto_region 5 with (first
      | (go_at_call 90; ((with_reducible refine (H1.out _).mono ?_); rintro e w1 ⟨rfl, hb1⟩; have c0 : w1.cell? ⟨w.heap.size, 0, none⟩ = some (.int .i64 x1) := (upc (by simp [go_sem]) hb1); have c1 : w1.cell? ⟨w.heap.size, 1, none⟩ = some (.int .i64 y1) := (upc (by simp [go_sem]) hb1); have c2 : w1.cell? ⟨w.heap.size + 1, 0, none⟩ = some (.int .i64 x2) := (upc (by simp [go_sem]) hb1); have c3 : w1.cell? ⟨w.heap.size + 1, 1, none⟩ = some (.int .i64 y2) := (upc (by simp [go_sem]) hb1)))
      | (go_at_call 90; ((with_reducible refine (H2.out _).mono ?_); rintro e w2 ⟨rfl, hb2⟩; have d0 := upc c0 hb2; have d1 := upc c1 hb2; have d2 := upc c2 hb2; have d3 := upc c3 hb2)))
    have B2 : Hid (Below w.heap.size w w2) := (BX.out.trans (hb1.mono BX.out.size)).trans (hb2.mono (Nat.le_trans BX.out.size hb1.size))
    clear c0 c1 c2 c3 hb1 hb2
    go_upto_region 6 with (go_at_call 98; refine (P1.out _).mono ?_; rintro e w3 ⟨v3, rfl, k3, hb3⟩; have G3 := Lib.hid k3; obtain ⟨X3, n3, cap3, rfl⟩ := k3.form; clear k3; have e1 := fun o => upa (upc d1 hb3) o; have e2 := fun o => upa (upc d2 hb3) o)
    have B3 : Hid (Below w.heap.size w (w3.alloc (.cells #[.bool m1, .slice X3 n3 cap3] 113))) := by
      have b1 := B2.out.trans (hb3.mono B2.out.size)
      exact b1.alloc b1.size _
    clear d0 d1 d2 d3 hb3 P1
    go_upto_region 7 with (go_at_call 98; refine (P2.out _).mono ?_; rintro e w4 ⟨v4, rfl, k4, hb4⟩; have G4 := Lib.hid k4; obtain ⟨X4, n4, cap4, rfl⟩ := k4.form; clear k4; have a0 : ∀ o, (w4.alloc o).cell? ⟨w3.heap.size, 0, none⟩ = some (.bool m1) := (fun o => upa (upc (by simp [go_sem]) hb4) o); have a1 : ∀ o, (w4.alloc o).cell? ⟨w3.heap.size, 1, none⟩ = some (.slice X3 n3 cap3) := (fun o => upa (upc (by simp [go_sem]) hb4) o))
    have B4 : Hid (Below w.heap.size w (w4.alloc (.cells #[.bool m2, .slice X4 n4 cap4] 113))) := by
      have b1 := B3.out.trans (hb4.mono B3.out.size)
      exact b1.alloc b1.size _
    have K3 : Hid (BigN (w4.alloc (.cells #[.bool m2, .slice X4 n4 cap4] 113)) (.slice X3 n3 cap3) N1) := ((G3.out.alloc _).up hb4).alloc _
    have K4 : Hid (BigN (w4.alloc (.cells #[.bool m2, .slice X4 n4 cap4] 113)) (.slice X4 n4 cap4) N2) := G4.out.alloc _
    clear e1 e2 hb4 P2 B3 B2
    go_upto_region 8 with (go_at_call 99; refine (SU.out _ _ _ K3.out K4.out).mono ?_; rintro e w5 ⟨v5, rfl, k5, hb5⟩; have G5 := Lib.hid k5; obtain ⟨X5, n5, cap5, rfl⟩ := k5.form; clear k5)
    have B5 : Hid (Below w.heap.size w (w5.alloc (.cells #[.bool rm, .slice X5 n5 cap5] 113))) := by
      have b1 := B4.out.trans (hb5.mono B4.out.size)
      exact b1.alloc b1.size _
    clear hb5 B4 a0 a1 K3 K4
    by_cases hz : rn = 0
    · obtain rfl : n5 = 0 := G5.out.len0.1 hz
      have hr : r = 0 := by rw [S'.out, if_pos hz]
      subst hr
      clear hz
      go_wp2_with fail
      go_ret2
      exact ⟨rfl, B5.out⟩
    · have hn0 : ((n5 : Int) == 0) = false := by have h9 : ¬ n5 = 0 := fun h => hz (G5.out.len0.2 h); simp; omega
      have hr : r = if rm = true then -1 else 1 := by rw [S'.out, if_neg hz]
      clear hz
      cases rm
      · obtain rfl : r = 1 := hr
        go_wp2_with fail
        go_ret2
        exact ⟨rfl, B5.out⟩
      · obtain rfl : r = -1 := hr
        go_wp2_with fail
        go_ret2
        exact ⟨rfl, B5.out⟩
  · have e : Hid (turnR x1 y1 x2 y2 = .error 2) := by show _ = _; unfold turnR; rw [if_neg (fun h => hv ⟨⟨h.1, h.2.1⟩, h.2.2⟩)]
    rw [e.out]
    by_cases h1 : Val x1 ∧ Val y1
    · have h2 : ¬ (Val x2 ∧ Val y2) := fun h => hv ⟨h1, h⟩
      rw [decide_eq_true h1] at H1
      rw [decide_eq_false h2] at H2
      clear hv h1 h2
      go_enter Tryz.func45, Tryz.ntmps45
      go_wp2_with (first
        | (go_at_call 90; ((with_reducible refine (H1.out _).mono ?_); rintro e w1 ⟨rfl, hb1⟩; have c0 : w1.cell? ⟨w.heap.size, 0, none⟩ = some (.int .i64 x1) := (upc (by simp [go_sem]) hb1); have c1 : w1.cell? ⟨w.heap.size, 1, none⟩ = some (.int .i64 y1) := (upc (by simp [go_sem]) hb1); have c2 : w1.cell? ⟨w.heap.size + 1, 0, none⟩ = some (.int .i64 x2) := (upc (by simp [go_sem]) hb1); have c3 : w1.cell? ⟨w.heap.size + 1, 1, none⟩ = some (.int .i64 y2) := (upc (by simp [go_sem]) hb1)))
        | (go_at_call 90; ((with_reducible refine (H2.out _).mono ?_); rintro e w2 ⟨rfl, hb2⟩)))
      go_ret2
      exact ⟨rfl, (BX.out.trans (hb1.mono BX.out.size)).trans (hb2.mono (Nat.le_trans BX.out.size hb1.size))⟩
    · rw [decide_eq_false h1] at H1
      obtain ⟨b, hb⟩ : ∃ b, decide (Val x2 ∧ Val y2) = b := ⟨_, rfl⟩
      rw [hb] at H2
      clear hv h1 hb
      go_enter Tryz.func45, Tryz.ntmps45
      go_wp2_with (first
        | (go_at_call 90; ((with_reducible refine (H1.out _).mono ?_); rintro e w1 ⟨rfl, hb1⟩; have c2 : w1.cell? ⟨w.heap.size + 1, 0, none⟩ = some (.int .i64 x2) := (upc (by simp [go_sem]) hb1); have c3 : w1.cell? ⟨w.heap.size + 1, 1, none⟩ = some (.int .i64 y2) := (upc (by simp [go_sem]) hb1)))
        | (go_at_call 90; ((with_reducible refine (H2.out _).mono ?_); rintro e w2 ⟨rfl, hb2⟩)))
      go_ret2
      exact ⟨rfl, (BX.out.trans (hb1.mono BX.out.size)).trans (hb2.mono (Nat.le_trans BX.out.size hb1.size))⟩
end Go.Proofs.YthkhhjfldkebcaaGreatDoor

/- The walk of FixedLengths. -/
namespace Go.Proofs.YthkhhjfldkebcaaGreatDoor
open Go.RowKit Go.Proofs Go.Shelf

set_option maxRecDepth 100000 in
set_option maxHeartbeats 4000000 in
theorem Lengths_any (x1 y1 x2 y2 r how : Int) (w : World) (hM : Mem w) :
    Calls Tryz.prog 8 #[.agg #[.int .i64 x1, .int .i64 y1], .agg #[.int .i64 x2, .int .i64 y2], .int .i64 r, .int .i64 how] w fun e w' => e = .returned (.bool true) ∧ Below w.heap.size w w' := by
  have C1 := Lib.hid (fun w => Length_any x1 y1 how w)
  have C2 := Lib.hid (fun w => refLength x1 y1 how w)
  have C3 := Lib.hid (fun w => Unit_any x1 y1 w)
  have C4 := Lib.hid (fun w => refUnit x1 y1 w)
  have C5 := Lib.hid (fun w => Farther_any x1 y1 x2 y2 w)
  have C6 := Lib.hid (fun w => refFarther x1 y1 x2 y2 w)
  have C7 := Lib.hid (fun w => Turn_any x1 y1 x2 y2 w)
  have C8 := Lib.hid (fun w => refTurn x1 y1 x2 y2 w)
  have C9 := Lib.hid (fun w => Within_any x1 y1 r w)
  have C10 := Lib.hid (fun w => refWithin x1 y1 r w)
  obtain ⟨u, hu⟩ : ∃ u, valE (0, 0) (unitR x1 y1) = u := ⟨_, rfl⟩
  obtain ⟨ue, hue⟩ : ∃ u, errE (unitR x1 y1) = u := ⟨_, rfl⟩
  obtain ⟨a, b⟩ := u
  rw [hu, hue] at C3 C4
  generalize valE 0 (lenR x1 y1 how) = l1 at *
  generalize errE (lenR x1 y1 how) = l2 at *
  generalize valE 0 (farR x1 y1 x2 y2) = f1 at *
  generalize errE (farR x1 y1 x2 y2) = f2 at *
  generalize valE 0 (turnR x1 y1 x2 y2) = t1 at *
  generalize errE (turnR x1 y1 x2 y2) = t2 at *
  generalize valE false (inR x1 y1 r) = i1 at *
  generalize errE (inR x1 y1 r) = i2 at *
  have D3 : Hid (∀ w, Calls Tryz.prog 28 #[.agg #[.int .i64 x1, .int .i64 y1]] w fun e w' => e = .returned (.tuple #[.agg #[.int .i64 a, .int .i64 b], .int .i64 ue]) ∧ Below w.heap.size w w') := fun w => C3.out w
  have D4 : Hid (∀ w, Calls Tryz.prog 41 #[.agg #[.int .i64 x1, .int .i64 y1]] w fun e w' => e = .returned (.tuple #[.agg #[.int .i64 a, .int .i64 b], .int .i64 ue]) ∧ Below w.heap.size w w') := fun w => C4.out w
  have HM := Lib.hid hM
  have BX : Hid (Below w.heap.size w ((w.alloc (.cells #[.int .i64 x1, .int .i64 y1] 45)).alloc (.cells #[.int .i64 x2, .int .i64 y2] 45))) := ((Below.refl _ _).alloc (Nat.le_refl _) _).alloc (by simp) _
  clear hM hu hue C3 C4
  go_enter Tryz.func8, Tryz.ntmps8
  go_upto_region 2 with (go_at_call 30; refine (C1.out _).mono ?_; rintro e w1 ⟨rfl, hb1⟩; have c0 : w1.cell? ⟨w.heap.size, 0, none⟩ = some (.int .i64 x1) := (upc (by simp [go_sem]) hb1); have c1 : w1.cell? ⟨w.heap.size, 1, none⟩ = some (.int .i64 y1) := (upc (by simp [go_sem]) hb1); have c2 : w1.cell? ⟨w.heap.size + 1, 0, none⟩ = some (.int .i64 x2) := (upc (by simp [go_sem]) hb1); have c3 : w1.cell? ⟨w.heap.size + 1, 1, none⟩ = some (.int .i64 y2) := (upc (by simp [go_sem]) hb1))
  have B1 : Hid (Below w.heap.size w w1) := BX.out.trans (hb1.mono BX.out.size)
  clear hb1 BX C1
  go_upto_region 3 with (go_at_call 40; refine (C2.out _).mono ?_; rintro e w2 ⟨rfl, hb2⟩; have d0 := upc c0 hb2; have d1 := upc c1 hb2; have d2 := upc c2 hb2; have d3 := upc c3 hb2)
  have B2 : Hid (Below w.heap.size w w2) := B1.out.trans (hb2.mono B1.out.size)
  clear c0 c1 c2 c3 hb2 B1 C2
  go_upto_region 4 with (go_at_call 28; refine (D3.out _).mono ?_; rintro e w3 ⟨rfl, hb3⟩; have e0 := fun o => upa (upc d0 hb3) o; have e1 := fun o => upa (upc d1 hb3) o; have e2 := fun o => upa (upc d2 hb3) o; have e3 := fun o => upa (upc d3 hb3) o)
  have B3 : Hid (Below w.heap.size w (w3.alloc (.cells #[.int .i64 a, .int .i64 b] 45))) := by
    have b1 := B2.out.trans (hb3.mono B2.out.size)
    exact b1.alloc b1.size _
  clear d0 d1 d2 d3 hb3 B2 D3
  go_upto_region 5 with (go_at_call 41; refine (D4.out _).mono ?_; rintro e w4 ⟨rfl, hb4⟩; have f0 := fun o => upa (upc (e0 _) hb4) o; have f1 := fun o => upa (upc (e1 _) hb4) o; have f2 := fun o => upa (upc (e2 _) hb4) o; have f3 := fun o => upa (upc (e3 _) hb4) o; have p0 : ∀ o, (w4.alloc o).cell? ⟨w3.heap.size, 0, none⟩ = some (.int .i64 a) := (fun o => upa (upc (by simp [go_sem]) hb4) o); have p1 : ∀ o, (w4.alloc o).cell? ⟨w3.heap.size, 1, none⟩ = some (.int .i64 b) := (fun o => upa (upc (by simp [go_sem]) hb4) o))
  have B4 : Hid (Below w.heap.size w (w4.alloc (.cells #[.int .i64 a, .int .i64 b] 45))) := by
    have b1 := B3.out.trans (hb4.mono B3.out.size)
    exact b1.alloc b1.size _
  clear e0 e1 e2 e3 hb4 B3 D4
  go_upto_region 6 with (go_at_call 42; refine (C5.out _).mono ?_; rintro e w5 ⟨rfl, hb5⟩; have c0 := upc (f0 _) hb5; have c1 := upc (f1 _) hb5; have c2 := upc (f2 _) hb5; have c3 := upc (f3 _) hb5; have q0 := upc (p0 _) hb5; have q1 := upc (p1 _) hb5; have r0 : w5.cell? ⟨w4.heap.size, 0, none⟩ = some (.int .i64 a) := (upc (by simp [go_sem]) hb5); have r1 : w5.cell? ⟨w4.heap.size, 1, none⟩ = some (.int .i64 b) := (upc (by simp [go_sem]) hb5))
  have B5 : Hid (Below w.heap.size w w5) := B4.out.trans (hb5.mono B4.out.size)
  clear f0 f1 f2 f3 p0 p1 hb5 B4 C5
  go_upto_region 7 with (go_at_call 43; refine (C6.out _).mono ?_; rintro e w6 ⟨rfl, hb6⟩; have d0 := upc c0 hb6; have d1 := upc c1 hb6; have d2 := upc c2 hb6; have d3 := upc c3 hb6; have s0 := upc q0 hb6; have s1 := upc q1 hb6; have s2 := upc r0 hb6; have s3 := upc r1 hb6)
  have B6 : Hid (Below w.heap.size w w6) := B5.out.trans (hb6.mono B5.out.size)
  clear c0 c1 c2 c3 q0 q1 r0 r1 hb6 B5 C6
  go_upto_region 8 with (go_at_call 44; refine (C7.out _).mono ?_; rintro e w7 ⟨rfl, hb7⟩; have c0 := upc d0 hb7; have c1 := upc d1 hb7; have c2 := upc d2 hb7; have c3 := upc d3 hb7; have q0 := upc s0 hb7; have q1 := upc s1 hb7; have r0 := upc s2 hb7; have r1 := upc s3 hb7)
  have B7 : Hid (Below w.heap.size w w7) := B6.out.trans (hb7.mono B6.out.size)
  clear d0 d1 d2 d3 s0 s1 s2 s3 hb7 B6 C7
  go_upto_region 9 with (go_at_call 45; refine (C8.out _).mono ?_; rintro e w8 ⟨rfl, hb8⟩; have d0 := upc c0 hb8; have d1 := upc c1 hb8; have s0 := upc q0 hb8; have s1 := upc q1 hb8; have s2 := upc r0 hb8; have s3 := upc r1 hb8)
  have B8 : Hid (Below w.heap.size w w8) := B7.out.trans (hb8.mono B7.out.size)
  clear c0 c1 c2 c3 q0 q1 r0 r1 hb8 B7 C8
  go_upto_region 10 with (go_at_call 46; refine (C9.out _).mono ?_; rintro e w9 ⟨rfl, hb9⟩; have c0 := upc d0 hb9; have c1 := upc d1 hb9; have q0 := upc s0 hb9; have q1 := upc s1 hb9; have r0 := upc s2 hb9; have r1 := upc s3 hb9)
  have B9 : Hid (Below w.heap.size w w9) := B8.out.trans (hb9.mono B8.out.size)
  clear d0 d1 s0 s1 s2 s3 hb9 B8 C9
  go_upto_region 11 with (go_at_call 47; refine (C10.out _).mono ?_; rintro e w10 ⟨rfl, hb10⟩; have s0 := upc q0 hb10; have s1 := upc q1 hb10; have s2 := upc r0 hb10; have s3 := upc r1 hb10)
  have B10 : Hid (Below w.heap.size w w10) := B9.out.trans (hb10.mono B9.out.size)
  clear c0 c1 q0 q1 r0 r1 hb10 B9 C10
  go_wp2_with (first
    | (go_at_call 27; refine (same_eq _ _ _).mono ?_; rintro e w' ⟨rfl, rfl⟩)
    | (go_at_call 48; refine (alike_eq _ _ _ _).mono ?_; rintro e w11 ⟨rfl, hb11⟩)
    | (go_at_call 13; refine (alive_any _ (HM.out.up (B10.out.trans (hb11.mono B10.out.size)))).mono ?_; rintro e w12 ⟨rfl, hb12⟩))
  go_ret
  have b11 := B10.out.trans (hb11.mono B10.out.size)
  exact ⟨rfl, b11.trans (hb12.mono b11.size)⟩
end Go.Proofs.YthkhhjfldkebcaaGreatDoor

/- FixedLengths: the row and the card: for every input, the law answers true and its input reads as it did. No condition beside the row's own list of the library's variables. -/
namespace Go.Proofs.YthkhhjfldkebcaaGreatDoor
open Go.ChangeShapes Go.WideShapes Go.ChangeAt Go.RowKit Go.Joins
theorem cells45 : Tryz.prog.cellsOf 45 = 2 := by kernel_rfl

set_option maxRecDepth 100000 in
theorem FixedLengths_lifted (os : Os) (started : os.Started) (H : Type) (enc : TypeId × Value → H) :
    ReturnsInHanded {} Tryz.checked os 8 .any (fun w args => (Rows.fixedLengthsSpec.pre enc Tryz.prog Tryz.f8 [] false w args ∧ laidMetH Tryz.prog laid7 w) ∧ sizedMet enc Tryz.prog Tryz.f8 (OpenSpec.ofChange Rows.fixedLengthsSpec) false w args)
      (Rows.fixedLengthsSpec.post enc Tryz.prog Tryz.f8 false true false false) := by
  refine row_wrap (C := Tryz.checked) (X := fun w _ => laidMetH Tryz.prog laid7 w) (fun _ _ _ hh h => h.of_heap hh) own started (by kernel_rfl) Tryz.func8
    (ChangeSpec.witness_shaped (enc := enc) (C := Tryz.checked) (os := os) (X := fun w _ => laidMetH Tryz.prog laid7 w) false (World.laidAll Tryz.prog os laid7) #[.agg #[.int .i64 0, .int .i64 0], .agg #[.int .i64 0, .int .i64 0], .int .i64 0, .int .i64 0] 8 (World.laidAll_os _ _ _)
      (shaped7 os _) (by kernel_rfl) (by kernel_rfl) (by kernel_rfl) (met7 os _)) ?_
  intro W base args ds gs before hval0 hW hL hS
  have hval : ∀ (j : Nat) t v, Tryz.f8.params[j]? = some t → args[j]? = some v → Value.okWide Tryz.prog W .any base t v := hval0
  have hW' := hW
  obtain ⟨p, q, hA0, hV, rfl, _, _⟩ := hW
  have hA : DataW.TrodAll enc Tryz.prog W 0 (fun _ => true) true Tryz.f8.params.toList args.toList ds p := hA0
  rw [Tryz.params8] at hA hval
  obtain ⟨v0, v1, v2, v3, d0, d1, d2, d3, p0, p1, p2, p3, rfl, rfl, rfl, h0, h1, h2, h3⟩ := trodAll_four hA
  obtain ⟨rfl, rfl⟩ := trodVars_none hV
  obtain ⟨c00, c01, z00, z01, m0, rfl, rfl, rfl, hy00, hy01⟩ := open_agg2 Tryz.underlying45 (by kernel_rfl) cells45 (hval 0 45 v0 rfl rfl) h0
  obtain ⟨x0, e00, rfl, wx0⟩ := DataW.trod_int Tryz.underlying23 hy00
  obtain ⟨x1, e01, rfl, wx1⟩ := DataW.trod_int Tryz.underlying23 hy01
  simp at e00 e01
  subst e00 e01
  obtain ⟨c10, c11, z10, z11, m1, rfl, rfl, rfl, hy10, hy11⟩ := open_agg2 Tryz.underlying45 (by kernel_rfl) cells45 (hval 1 45 v1 rfl rfl) h1
  obtain ⟨y0, e10, rfl, wy0⟩ := DataW.trod_int Tryz.underlying23 hy10
  obtain ⟨y1, e11, rfl, wy1⟩ := DataW.trod_int Tryz.underlying23 hy11
  simp at e10 e11
  subst e10 e11
  obtain ⟨z, rfl, rfl, rfl, wz⟩ := open_int Tryz.underlying23 (hval 2 23 v2 rfl rfl) h2
  obtain ⟨u, rfl, rfl, rfl, wu⟩ := open_int Tryz.underlying3 (hval 3 3 v3 rfl rfl) h3
  simp only [List.append_nil] at hW'
  have read0 : ∀ (W' : World) (sp : Nat → Bool), DataW.Trod enc Tryz.prog W' 0 sp true 45 (.agg #[.int .i64 x0, .int .i64 x1]) (.agg [.lit (.int .i64 x0), .lit (.int .i64 x1)]) [] := fun W' sp =>
    shut_agg2 (y0 := (.lit (.int .i64 x0), [])) (y1 := (.lit (.int .i64 x1), [])) Tryz.underlying45 (by kernel_rfl) cells45 ⟨1, by simp [DataW.trod, Tryz.underlying23, wx0]⟩ ⟨1, by simp [DataW.trod, Tryz.underlying23, wx1]⟩
  have read1 : ∀ (W' : World) (sp : Nat → Bool), DataW.Trod enc Tryz.prog W' 0 sp true 45 (.agg #[.int .i64 y0, .int .i64 y1]) (.agg [.lit (.int .i64 y0), .lit (.int .i64 y1)]) [] := fun W' sp =>
    shut_agg2 (y0 := (.lit (.int .i64 y0), [])) (y1 := (.lit (.int .i64 y1), [])) Tryz.underlying45 (by kernel_rfl) cells45 ⟨1, by simp [DataW.trod, Tryz.underlying23, wy0]⟩ ⟨1, by simp [DataW.trod, Tryz.underlying23, wy1]⟩
  refine (Lengths_any x0 x1 y0 y1 z u W (mem_of hL hS)).mono fun e W' ⟨he, hb⟩ => ?_
  subst he
  exact ⟨_, rfl, _, _, _, [], [], [], hW', trodAll_mk1 (shut_bool Tryz.underlying4 _), trodAll_mk4 (read0 _ _) (read1 _ _) (shut_int Tryz.underlying23 wz) (shut_int Tryz.underlying3 wu), rfl, hb.frame _, fun h => by cases h⟩

theorem FixedLengths_said : Rows.FixedLengthsSaid :=
  OpenClaim.holds_of_wide 8 Tryz.f8 rfl rfl rfl rfl rfl rfl rfl ⟨rfl, rfl, rfl, rfl, rfl⟩ rfl rfl rfl rfl rfl (by kernel_rfl) Tryz.func8 (by kernel_rfl)
    (of_decide_eq_true (by kernel_rfl)) (by unfold Func.isWrapper; first | (rw [if_pos (by decide +kernel)]; kernel_rfl) | (rw [if_neg (by decide +kernel)]; exact ⟨rfl, rfl⟩))
    (fun os started H enc _ => FixedLengths_lifted os started H enc)

theorem FixedLengths_plain (f : FuncId) (fn : Func) (hf : Tryz.pinned.checked.prog.funcNamed "besom/besomlaw01.FixedLengths" = some f) (hfn : Tryz.pinned.checked.prog.funcs[f]? = some fn) :
    true = Tryz.pinned.checked.prog.looks [] ∧ ∀ (j : Nat) t, fn.params[j]? = some t → Tryz.pinned.checked.prog.wantsStandIn t = false := by
  obtain rfl : f = 8 := Option.some.inj ((show Tryz.prog.funcNamed "besom/besomlaw01.FixedLengths" = some 8 by kernel_rfl).symm.trans hf) |>.symm
  obtain rfl : fn = Tryz.f8 := (Option.some.inj (Tryz.func8.symm.trans hfn)).symm
  refine ⟨by kernel_rfl, fun j t ht => ?_⟩
  rw [Tryz.params8] at ht
  have ht' : t = 45 ∨ t = 23 ∨ t = 3 := by simpa using Array.mem_of_getElem? ht
  rcases ht' with rfl | rfl | rfl
  · exact (show Tryz.prog.wantsStandIn 45 = false by kernel_rfl)
  · exact (show Tryz.prog.wantsStandIn 23 = false by kernel_rfl)
  · exact (show Tryz.prog.wantsStandIn 3 = false by kernel_rfl)

/-- The card. -/
theorem FixedLengths_card : Rows.FixedLengthsCardSaid :=
  Claim7.holds_tied_plain_at .later [] _ _ _ _ FixedLengths_said (fun _ h => by cases h) (by kernel_rfl) (fun _ h => by cases h) fixedLengths_row_tie rfl ⟨rfl, rfl⟩ (by kernel_rfl) rfl FixedLengths_plain (by kernel_rfl)
end Go.Proofs.YthkhhjfldkebcaaGreatDoor
