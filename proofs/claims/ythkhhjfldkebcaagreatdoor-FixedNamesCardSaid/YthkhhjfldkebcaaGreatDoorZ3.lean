/- Contracts: each, Unit. -/
import Derived.Test.YthkhhjfldkebcaaGreatDoorZ2
namespace Go.Proofs.YthkhhjfldkebcaaGreatDoor
open Go.RowKit Go.Proofs Go.Shelf

set_option maxHeartbeats 1000000 in
theorem cl132_ok (f : FuncId) (caps : Array Value) (hf : ∀ args w, (callFunc f args).run Tryz.prog w = .ok (.enter f args) w) (a b c : Nat) (x1 y1 x2 y2 rx ry : Int) (w : World)
    (ha : w.cell? ⟨a, 0, none⟩ = some (.int .i64 x1)) (ha' : w.cell? ⟨a, 1, none⟩ = some (.int .i64 y1)) (hb : w.cell? ⟨b, 0, none⟩ = some (.int .i64 x2)) (hb' : w.cell? ⟨b, 1, none⟩ = some (.int .i64 y2)) (hc : w.cell? ⟨c, 0, none⟩ = some (.func (.func f) #[] caps))
    (hv : Val x1 ∧ Val y1 ∧ Val x2 ∧ Val y2)
    (F1 : ∀ W, Below w.heap.size w W → Calls Tryz.prog f (#[.int .i64 x1, .int .i64 x2] ++ caps) W fun e w' => e = .returned (.int .i64 rx) ∧ Below W.heap.size W w')
    (F2 : ∀ W, Below w.heap.size w W → Calls Tryz.prog f (#[.int .i64 y1, .int .i64 y2] ++ caps) W fun e w' => e = .returned (.int .i64 ry) ∧ Below W.heap.size W w') :
    Calls Tryz.prog 132 #[.pointer (some ⟨a, 0, none⟩), .pointer (some ⟨b, 0, none⟩), .pointer (some ⟨c, 0, none⟩)] w fun e w' => e = .returned (Sp (rx, ry)) ∧ Below w.heap.size w w' := by
  have la := lt_cell ha; have lb := lt_cell hb; have lc := lt_cell hc
  have HV := Lib.hid hv
  have up : ∀ o1 o2 (X : BW ((w.alloc o1).alloc o2)) (d k : Nat) (v : Value), d < w.heap.size → w.cell? ⟨d, k, none⟩ = some v → X.to.cell? ⟨d, k, none⟩ = some v := fun o1 o2 X d k v h hh =>
    (X.cell _ _ (by simp; omega)).trans ((up2c h o1 o2 k).trans hh)
  have X1 := fun o1 o2 X => up o1 o2 X a 0 _ la ha
  have X2 := fun o1 o2 X => up o1 o2 X a 1 _ la ha'
  have X3 := fun o1 o2 X => up o1 o2 X b 0 _ lb hb
  have X4 := fun o1 o2 X => up o1 o2 X b 1 _ lb hb'
  have X5 := fun o1 o2 X => up o1 o2 X c 0 _ lc hc
  have bx : ∀ o1 o2 (X : BW ((w.alloc o1).alloc o2)), Below w.heap.size w X.to := fun o1 o2 X => (((Below.refl _ _).alloc (Nat.le_refl _) _).alloc (by simp) _).trans (X.same.mono (by simp; omega))
  have G1 : Hid (∀ o1 o2 (X : BW ((w.alloc o1).alloc o2)), Calls Tryz.prog f (#[.int .i64 x1, .int .i64 x2] ++ caps) X.to fun e w' => e = .returned (.int .i64 rx) ∧ Below X.to.heap.size X.to w') := fun o1 o2 X => F1 _ (bx o1 o2 X)
  have G2 : Hid (∀ o1 o2 (X : BW ((w.alloc o1).alloc o2)), Calls Tryz.prog f (#[.int .i64 y1, .int .i64 y2] ++ caps) X.to fun e w' => e = .returned (.int .i64 ry) ∧ Below X.to.heap.size X.to w') := fun o1 o2 X => F2 _ (bx o1 o2 X)
  clear F1 F2 up bx hv
  go_enter Tryz.func132, Tryz.ntmps132
  go_wp2_with (go_at_call 59; refine (right4_ok x1 y1 x2 y2 _ _ HV.out (by simp [go_sem]) (by simp [go_sem]) (by simp [go_sem]) (by simp [go_sem])).mono ?_; rintro e w' ⟨rfl, rfl⟩)
  refine wp_region_quiet_tail 13 (by kernel_rfl) (by kernel_rfl) ?_
  simp only [List.take_succ_cons, List.take_zero, List.drop_succ_cons, List.drop_zero]
  repeat (go_big_quiet_step ((first
    | exact quietB (G1.out _ _ _)
    | exact quietB (G2.out _ _ _))))
  refine wpQuiet_nil ?_
  rintro wy ⟨⟨wz, hby⟩, hwz⟩
  change wy = wz at hwz
  subst hwz
  have hcc := bcell hby
  have hsz := hby.size
  simp only [World.size_alloc] at hcc hsz
  have z0 : wy.cell? ⟨w.heap.size, 0, none⟩ = some (.int .i64 0) := by rw [hcc.1 _ _ (by omega)]; simp [go_sem]
  have z1 : wy.cell? ⟨w.heap.size, 1, none⟩ = some (.int .i64 0) := by rw [hcc.1 _ _ (by omega)]; simp [go_sem]
  have g0 : wy.frozen? ⟨w.heap.size, 0, none⟩ = false := by rw [hcc.2 _ _ (by omega)]; simp [go_sem]
  have g1 : wy.frozen? ⟨w.heap.size, 1, none⟩ = false := by rw [hcc.2 _ _ (by omega)]; simp [go_sem]
  clear hcc
  go_wp2_with fail
  obtain ⟨y0, y1⟩ := two_cells z0 z1 (.int .i64 rx) (.int .i64 ry)
  refine bodyPost_ret (v := Sp (rx, ry)) (by simp [results, Tryz.results132, go_sem, y0, y1]) rfl ⟨rfl, ?_⟩
  exact ((((Below.refl _ _).alloc (Nat.le_refl _) _).alloc (by simp) _).trans (hby.mono (by simp; omega))).setCell (p := ⟨w.heap.size, 0, none⟩) (Nat.le_refl _) _ |>.setCell (p := ⟨w.heap.size, 1, none⟩) (Nat.le_refl _) _

set_option maxHeartbeats 1000000 in
/-- each, at a function whose closure is met by a contract. -/
theorem each_any (f : FuncId) (caps : Array Value) (x1 y1 x2 y2 : Int) (r : Except Int (Int × Int)) (w : World)
    (hcl : ∀ W a b c, Below w.heap.size w W → W.cell? ⟨a, 0, none⟩ = some (.int .i64 x1) → W.cell? ⟨a, 1, none⟩ = some (.int .i64 y1) → W.cell? ⟨b, 0, none⟩ = some (.int .i64 x2) → W.cell? ⟨b, 1, none⟩ = some (.int .i64 y2) → W.cell? ⟨c, 0, none⟩ = some (.func (.func f) #[] caps) →
      Calls Tryz.prog 132 #[.pointer (some ⟨a, 0, none⟩), .pointer (some ⟨b, 0, none⟩), .pointer (some ⟨c, 0, none⟩)] W (Do W (r.map Sp))) :
    Calls Tryz.prog 83 #[.agg #[.int .i64 x1, .int .i64 y1], .agg #[.int .i64 x2, .int .i64 y2], .func (.func f) #[] caps] w fun e w' => e = .returned (.tuple #[Sp (valE (0, 0) r), .int .i64 (errE r)]) ∧ Below w.heap.size w w' := by
  have hmf : ∀ (fn : Fn) (first cap : Array Value) (w : World), (Instr.makeFunc fn first cap).run Tryz.prog w = .ok (.func fn first cap) w := fun _ _ _ _ => rfl
  have HC : Hid (∀ W, Below ((((w.alloc (.cells #[.int .i64 x1, .int .i64 y1] 45)).alloc (.cells #[.int .i64 x2, .int .i64 y2] 45)).alloc (.cells #[.func (.func f) #[] caps] 98)).alloc (.cells #[.int .i64 0, .int .i64 0] 45)).heap.size ((((w.alloc (.cells #[.int .i64 x1, .int .i64 y1] 45)).alloc (.cells #[.int .i64 x2, .int .i64 y2] 45)).alloc (.cells #[.func (.func f) #[] caps] 98)).alloc (.cells #[.int .i64 0, .int .i64 0] 45)) W →
      Calls Tryz.prog 132 #[.pointer (some ⟨w.heap.size, 0, none⟩), .pointer (some ⟨w.heap.size + 1, 0, none⟩), .pointer (some ⟨w.heap.size + 1 + 1, 0, none⟩)] W (Do W (r.map Sp))) := by
    intro W hW
    have hc := (bcell hW).1
    simp only [World.size_alloc] at hc
    refine hcl W _ _ _ ((((((Below.refl _ _).alloc (Nat.le_refl _) _).alloc (by simp) _).alloc (by simp; omega) _).alloc (by simp; omega) _).trans (hW.mono (by simp; omega))) ?_ ?_ ?_ ?_ ?_
    · rw [hc _ _ (by omega)]; simp [go_sem]
    · rw [hc _ _ (by omega)]; simp [go_sem]
    · rw [hc _ _ (by omega)]; simp [go_sem]
    · rw [hc _ _ (by omega)]; simp [go_sem]
    · rw [hc _ _ (by omega)]; simp [go_sem]
  clear hcl
  obtain ⟨v, hv⟩ : ∃ v, valE (0, 0) r = v := ⟨_, rfl⟩
  have HV := Lib.hid hv
  rw [hv]
  clear hv
  obtain ⟨v1, v2⟩ := v
  go_enter Tryz.func83, Tryz.ntmps83
  go_wp2_with (go_at_call 80; refine (triedSpot 132 _ _ _ (enters_of Tryz.func132 (by kernel_rfl) rfl) HC.out).mono ?_; rintro e w1 ⟨rfl, hb⟩; rw [HV.out]; have hc := bcell hb; have hsz := hb.size; simp only [World.size_alloc] at hc hsz; have z0 : w1.cell? ⟨w.heap.size + 1 + 1 + 1, 0, none⟩ = some (.int .i64 0) := (by rw [hc.1 _ _ (by omega)]; simp [go_sem]); have z1 : w1.cell? ⟨w.heap.size + 1 + 1 + 1, 1, none⟩ = some (.int .i64 0) := (by rw [hc.1 _ _ (by omega)]; simp [go_sem]); have g0 : w1.frozen? ⟨w.heap.size + 1 + 1 + 1, 0, none⟩ = false := (by rw [hc.2 _ _ (by omega)]; simp [go_sem]); have g1 : w1.frozen? ⟨w.heap.size + 1 + 1 + 1, 1, none⟩ = false := (by rw [hc.2 _ _ (by omega)]; simp [go_sem]); clear hc)
  obtain ⟨y0, y1⟩ := two_cells z0 z1 (.int .i64 v1) (.int .i64 v2)
  refine bodyPost_ret (v := .tuple #[Sp (v1, v2), .int .i64 (errE r)]) (by simp [results, Tryz.results83, go_sem, y0, y1]) rfl ⟨rfl, ?_⟩
  exact ((((((Below.refl _ _).alloc (Nat.le_refl _) _).alloc (by simp) _).alloc (by simp; omega) _).alloc (by simp; omega) _).trans (hb.mono (by simp; omega))).setCell (p := ⟨w.heap.size + 1 + 1 + 1, 0, none⟩) (by simp; omega) _ |>.setCell (p := ⟨w.heap.size + 1 + 1 + 1, 1, none⟩) (by simp; omega) _

/-- What Unit comes to. -/
noncomputable def unitR (x y : Int) : Except Int (Int × Int) := if Val x ∧ Val y then (if sq x y = 0 then .error 10 else .ok (unitC (sq x y) x, unitC (sq x y) y)) else .error 2

set_option maxHeartbeats 1000000 in
theorem cl81 (p : Nat) (x y : Int) (w : World) (hp : w.cell? ⟨p, 0, none⟩ = some (.int .i64 x)) (hp' : w.cell? ⟨p, 1, none⟩ = some (.int .i64 y)) :
    Calls Tryz.prog 81 #[.pointer (some ⟨p, 0, none⟩)] w (Do w ((unitR x y).map Sp)) := by
  have hmf : ∀ (fn : Fn) (first cap : Array Value) (w : World), (Instr.makeFunc fn first cap).run Tryz.prog w = .ok (.func fn first cap) w := fun _ _ _ _ => rfl
  have lp := lt_cell hp
  unfold unitR
  by_cases hv : Val x ∧ Val y
  · rw [if_pos hv]
    have HS : Hid (sq x y ≤ 9903520314283042199192993792) := sq_le hv
    have HN : Hid (0 ≤ sq x y) := sq_nn x y
    have HV := Lib.hid hv
    clear hv
    have HSQ : Hid (∀ w, Calls Tryz.prog 82 #[.agg #[.int .i64 x, .int .i64 y]] w fun e w' => e = .returned (.agg #[.int .u64 (hiU (sq x y)), .int .u64 (loU (sq x y))]) ∧ Below w.heap.size w w') := fun w => square_ok x y w HV.out
    obtain ⟨s, hs⟩ : ∃ s, sq x y = s := ⟨_, rfl⟩
    rw [hs] at HS HN HSQ ⊢
    clear hs
    obtain ⟨H, hH⟩ : ∃ H, hiU s = H := ⟨_, rfl⟩
    obtain ⟨L, hL⟩ : ∃ L, loU s = L := ⟨_, rfl⟩
    have HH := Lib.hid hH
    have HL := Lib.hid hL
    rw [hH, hL] at HSQ
    have hz : s = 0 ↔ H = 0 ∧ L = 0 := by rw [← hH, ← hL]; have := HN.out; unfold hiU loU; omega
    have HZ := Lib.hid hz
    clear hH hL hz
    have HE : Hid (s ≠ 0 → ∀ W b, W.cell? ⟨b, 0, none⟩ = some (.int .u64 H) → W.cell? ⟨b, 1, none⟩ = some (.int .u64 L) → Calls Tryz.prog 83 #[.agg #[.int .i64 x, .int .i64 y], .agg #[.int .i64 x, .int .i64 y], .func (.func 84) #[] #[.pointer (some ⟨b, 0, none⟩)]] W fun e w' => e = .returned (.tuple #[.agg #[.int .i64 (unitC s x), .int .i64 (unitC s y)], .int .i64 0]) ∧ Below W.heap.size W w') := by
      intro _ W b k0 k1
      have lb := lt_cell k0
      refine each_any 84 _ x y x y (.ok (unitC s x, unitC s y)) W ?_
      intro W2 a b2 c hW a0 a1 b0 b1 c0
      have up : ∀ W3, Below W2.heap.size W2 W3 → W3.cell? ⟨b, 0, none⟩ = some (.int .u64 (hiU s)) ∧ W3.cell? ⟨b, 1, none⟩ = some (.int .u64 (loU s)) := fun W3 h3 => by
        have hsz := hW.size
        rw [HH.out, HL.out]
        exact ⟨((h3.cell (p := ⟨b, 0, none⟩) (show b < W2.heap.size by omega)).trans (hW.cell (p := ⟨b, 0, none⟩) lb)).trans k0, ((h3.cell (p := ⟨b, 1, none⟩) (show b < W2.heap.size by omega)).trans (hW.cell (p := ⟨b, 1, none⟩) lb)).trans k1⟩
      exact cl132_ok 84 _ (enters_of Tryz.func84 (by kernel_rfl) rfl) a b2 c x y x y (unitC s x) (unitC s y) W2 a0 a1 b0 b1 c0 ⟨HV.out.1, HV.out.2, HV.out.1, HV.out.2⟩
        (fun W3 h3 => cl84 x x s b W3 HV.out.1 HN.out HS.out (up W3 h3).1 (up W3 h3).2) (fun W3 h3 => cl84 y y s b W3 HV.out.2 HN.out HS.out (up W3 h3).1 (up W3 h3).2)
    by_cases h0 : s = 0
    · rw [if_pos h0]
      obtain ⟨rfl, rfl⟩ := HZ.out.1 h0
      clear h0
      go_enter Tryz.func81, Tryz.ntmps81
      go_wp2_with (first
        | (go_at_call 82; refine (HSQ.out _).mono ?_; rintro e w1 ⟨rfl, hb1⟩; have hs1 := hb1.size; simp only [World.size_alloc] at hs1; have d0 := fun o => (World.cell?_alloc_past (w := w1) o p 0 (show p < w1.heap.size by omega)).trans ((hb1.cell (p := ⟨p, 0, none⟩) (by simp; omega)).trans ((World.cell?_alloc_past (w := w) _ p 0 lp).trans hp)); have d1 := fun o => (World.cell?_alloc_past (w := w1) o p 1 (show p < w1.heap.size by omega)).trans ((hb1.cell (p := ⟨p, 1, none⟩) (by simp; omega)).trans ((World.cell?_alloc_past (w := w) _ p 1 lp).trans hp')))
        | (go_at_call 60; refine (need_any _ _ _).mono ?_; rintro e w' ⟨rfl, he⟩; simp only [if_false, Bool.false_eq_true] at he; subst he))
      exact ⟨rfl, Do.no rfl (((Below.refl _ _).alloc (Nat.le_refl _) _).trans (hb1.mono (by simp)) |>.alloc (by omega) _)⟩
    · rw [if_neg h0]
      have HSN := Lib.hid h0
      by_cases hH0 : H = 0
      · have hL0 : ¬ L = 0 := fun h => h0 (HZ.out.2 ⟨hH0, h⟩)
        subst hH0
        clear h0
        go_enter Tryz.func81, Tryz.ntmps81
        go_wp2_with (first
          | (go_at_call 82; refine (HSQ.out _).mono ?_; rintro e w1 ⟨rfl, hb1⟩; have hs1 := hb1.size; simp only [World.size_alloc] at hs1; have d0 := fun o => (World.cell?_alloc_past (w := w1) o p 0 (show p < w1.heap.size by omega)).trans ((hb1.cell (p := ⟨p, 0, none⟩) (by simp; omega)).trans ((World.cell?_alloc_past (w := w) _ p 0 lp).trans hp)); have d1 := fun o => (World.cell?_alloc_past (w := w1) o p 1 (show p < w1.heap.size by omega)).trans ((hb1.cell (p := ⟨p, 1, none⟩) (by simp; omega)).trans ((World.cell?_alloc_past (w := w) _ p 1 lp).trans hp')))
          | (go_at_call 60; refine (need_any _ _ _).mono ?_; rintro e w' ⟨rfl, he⟩; simp only [if_true] at he; subst he)
          | (go_at_call 83; refine (HE.out HSN.out _ w1.heap.size (by simp [go_sem]) (by simp [go_sem])).mono ?_; rintro e w2 ⟨rfl, hb2⟩; have hs2 := hb2.size; simp only [World.size_alloc] at hs2; have bW : ∀ o, Below (w.alloc (.cells #[.int .i64 0, .int .i64 0] 45)).heap.size (w.alloc (.cells #[.int .i64 0, .int .i64 0] 45)) (w2.alloc o) := fun o => ((hb1.alloc hb1.size _).trans (hb2.mono (by simp; omega))).alloc (by simp; omega) _; have z0 := fun o => ((bW o).cell (p := ⟨w.heap.size, 0, none⟩) (by simp)).trans (show (w.alloc (.cells #[.int .i64 0, .int .i64 0] 45)).cell? ⟨w.heap.size, 0, none⟩ = some (.int .i64 0) by simp [go_sem]); have z1 := fun o => ((bW o).cell (p := ⟨w.heap.size, 1, none⟩) (by simp)).trans (show (w.alloc (.cells #[.int .i64 0, .int .i64 0] 45)).cell? ⟨w.heap.size, 1, none⟩ = some (.int .i64 0) by simp [go_sem]); have g0 := fun o => ((bW o).frozen (p := ⟨w.heap.size, 0, none⟩) (by simp)).trans (show (w.alloc (.cells #[.int .i64 0, .int .i64 0] 45)).frozen? ⟨w.heap.size, 0, none⟩ = false by simp [go_sem]); have g1 := fun o => ((bW o).frozen (p := ⟨w.heap.size, 1, none⟩) (by simp)).trans (show (w.alloc (.cells #[.int .i64 0, .int .i64 0] 45)).frozen? ⟨w.heap.size, 1, none⟩ = false by simp [go_sem])))
        have z0 := z0 (.cells #[.int .i64 (unitC s x), .int .i64 (unitC s y)] 45)
        have z1 := z1 (.cells #[.int .i64 (unitC s x), .int .i64 (unitC s y)] 45)
        have bW := bW (.cells #[.int .i64 (unitC s x), .int .i64 (unitC s y)] 45)
        generalize w2.alloc (.cells #[.int .i64 (unitC s x), .int .i64 (unitC s y)] 45) = W at z0 z1 bW ⊢
        obtain ⟨y0, y1⟩ := two_cells z0 z1 (.int .i64 (unitC s x)) (.int .i64 (unitC s y))
        refine bodyPost_ret (v := Sp (unitC s x, unitC s y)) (by simp [results, Tryz.results81, go_sem, y0, y1]) rfl (Do.ok rfl ?_)
        exact (((Below.refl _ _).alloc (Nat.le_refl _) _).trans (bW.mono (by simp))).setCell (p := ⟨w.heap.size, 0, none⟩) (Nat.le_refl _) _ |>.setCell (p := ⟨w.heap.size, 1, none⟩) (Nat.le_refl _) _
      · clear h0
        go_enter Tryz.func81, Tryz.ntmps81
        go_wp2_with (first
          | (go_at_call 82; refine (HSQ.out _).mono ?_; rintro e w1 ⟨rfl, hb1⟩; have hs1 := hb1.size; simp only [World.size_alloc] at hs1; have d0 := fun o => (World.cell?_alloc_past (w := w1) o p 0 (show p < w1.heap.size by omega)).trans ((hb1.cell (p := ⟨p, 0, none⟩) (by simp; omega)).trans ((World.cell?_alloc_past (w := w) _ p 0 lp).trans hp)); have d1 := fun o => (World.cell?_alloc_past (w := w1) o p 1 (show p < w1.heap.size by omega)).trans ((hb1.cell (p := ⟨p, 1, none⟩) (by simp; omega)).trans ((World.cell?_alloc_past (w := w) _ p 1 lp).trans hp')))
          | (go_at_call 60; refine (need_any _ _ _).mono ?_; rintro e w' ⟨rfl, he⟩; simp only [if_true] at he; subst he)
          | (go_at_call 83; refine (HE.out HSN.out _ w1.heap.size (by simp [go_sem]) (by simp [go_sem])).mono ?_; rintro e w2 ⟨rfl, hb2⟩; have hs2 := hb2.size; simp only [World.size_alloc] at hs2; have bW : ∀ o, Below (w.alloc (.cells #[.int .i64 0, .int .i64 0] 45)).heap.size (w.alloc (.cells #[.int .i64 0, .int .i64 0] 45)) (w2.alloc o) := fun o => ((hb1.alloc hb1.size _).trans (hb2.mono (by simp; omega))).alloc (by simp; omega) _; have z0 := fun o => ((bW o).cell (p := ⟨w.heap.size, 0, none⟩) (by simp)).trans (show (w.alloc (.cells #[.int .i64 0, .int .i64 0] 45)).cell? ⟨w.heap.size, 0, none⟩ = some (.int .i64 0) by simp [go_sem]); have z1 := fun o => ((bW o).cell (p := ⟨w.heap.size, 1, none⟩) (by simp)).trans (show (w.alloc (.cells #[.int .i64 0, .int .i64 0] 45)).cell? ⟨w.heap.size, 1, none⟩ = some (.int .i64 0) by simp [go_sem]); have g0 := fun o => ((bW o).frozen (p := ⟨w.heap.size, 0, none⟩) (by simp)).trans (show (w.alloc (.cells #[.int .i64 0, .int .i64 0] 45)).frozen? ⟨w.heap.size, 0, none⟩ = false by simp [go_sem]); have g1 := fun o => ((bW o).frozen (p := ⟨w.heap.size, 1, none⟩) (by simp)).trans (show (w.alloc (.cells #[.int .i64 0, .int .i64 0] 45)).frozen? ⟨w.heap.size, 1, none⟩ = false by simp [go_sem])))
        have z0 := z0 (.cells #[.int .i64 (unitC s x), .int .i64 (unitC s y)] 45)
        have z1 := z1 (.cells #[.int .i64 (unitC s x), .int .i64 (unitC s y)] 45)
        have bW := bW (.cells #[.int .i64 (unitC s x), .int .i64 (unitC s y)] 45)
        generalize w2.alloc (.cells #[.int .i64 (unitC s x), .int .i64 (unitC s y)] 45) = W at z0 z1 bW ⊢
        obtain ⟨y0, y1⟩ := two_cells z0 z1 (.int .i64 (unitC s x)) (.int .i64 (unitC s y))
        refine bodyPost_ret (v := Sp (unitC s x, unitC s y)) (by simp [results, Tryz.results81, go_sem, y0, y1]) rfl (Do.ok rfl ?_)
        exact (((Below.refl _ _).alloc (Nat.le_refl _) _).trans (bW.mono (by simp))).setCell (p := ⟨w.heap.size, 0, none⟩) (Nat.le_refl _) _ |>.setCell (p := ⟨w.heap.size, 1, none⟩) (Nat.le_refl _) _
  · rw [if_neg hv]
    have HV := Lib.hid hv
    clear hv
    go_enter Tryz.func81, Tryz.ntmps81
    go_wp2_with (go_at_call 82; refine (square_no x y _ HV.out).mono ?_; rintro e w1 ⟨rfl, hb1⟩)
    exact ⟨rfl, Do.no rfl (((Below.refl _ _).alloc (Nat.le_refl _) _).trans (hb1.mono (by simp)))⟩

set_option maxHeartbeats 1000000 in
theorem Unit_any (x y : Int) (w : World) :
    Calls Tryz.prog 28 #[.agg #[.int .i64 x, .int .i64 y]] w fun e w' => e = .returned (.tuple #[Sp (valE (0, 0) (unitR x y)), .int .i64 (errE (unitR x y))]) ∧ Below w.heap.size w w' := by
  have hmf : ∀ (fn : Fn) (first cap : Array Value) (w : World), (Instr.makeFunc fn first cap).run Tryz.prog w = .ok (.func fn first cap) w := fun _ _ _ _ => rfl
  have HC : Hid (∀ W, Below ((w.alloc (.cells #[.int .i64 x, .int .i64 y] 45)).alloc (.cells #[.int .i64 0, .int .i64 0] 45)).heap.size ((w.alloc (.cells #[.int .i64 x, .int .i64 y] 45)).alloc (.cells #[.int .i64 0, .int .i64 0] 45)) W →
      Calls Tryz.prog 81 #[.pointer (some ⟨w.heap.size, 0, none⟩)] W (Do W ((unitR x y).map Sp))) := by
    intro W hW
    have hc := (bcell hW).1
    simp only [World.size_alloc] at hc
    exact cl81 _ x y W (by rw [hc _ _ (by omega)]; simp [go_sem]) (by rw [hc _ _ (by omega)]; simp [go_sem])
  obtain ⟨r, hr⟩ : ∃ r, unitR x y = r := ⟨_, rfl⟩
  rw [hr] at HC ⊢
  clear hr
  obtain ⟨v, hv⟩ : ∃ v, valE (0, 0) r = v := ⟨_, rfl⟩
  have HV := Lib.hid hv
  rw [hv]
  clear hv
  obtain ⟨v1, v2⟩ := v
  go_enter Tryz.func28, Tryz.ntmps28
  go_wp2_with (go_at_call 80; refine (triedSpot 81 _ _ _ (enters_of Tryz.func81 (by kernel_rfl) rfl) HC.out).mono ?_; rintro e w1 ⟨rfl, hb⟩; rw [HV.out]; have hc := bcell hb; have hsz := hb.size; simp only [World.size_alloc] at hc hsz; have z0 : w1.cell? ⟨w.heap.size + 1, 0, none⟩ = some (.int .i64 0) := (by rw [hc.1 _ _ (by omega)]; simp [go_sem]); have z1 : w1.cell? ⟨w.heap.size + 1, 1, none⟩ = some (.int .i64 0) := (by rw [hc.1 _ _ (by omega)]; simp [go_sem]); have g0 : w1.frozen? ⟨w.heap.size + 1, 0, none⟩ = false := (by rw [hc.2 _ _ (by omega)]; simp [go_sem]); have g1 : w1.frozen? ⟨w.heap.size + 1, 1, none⟩ = false := (by rw [hc.2 _ _ (by omega)]; simp [go_sem]); clear hc)
  obtain ⟨y0, y1⟩ := two_cells z0 z1 (.int .i64 v1) (.int .i64 v2)
  refine bodyPost_ret (v := .tuple #[Sp (v1, v2), .int .i64 (errE r)]) (by simp [results, Tryz.results28, go_sem, y0, y1]) rfl ⟨rfl, ?_⟩
  exact ((((Below.refl _ _).alloc (Nat.le_refl _) _).alloc (by simp) _).trans (hb.mono (by simp; omega))).setCell (p := ⟨w.heap.size + 1, 0, none⟩) (by simp) _ |>.setCell (p := ⟨w.heap.size + 1, 1, none⟩) (by simp) _
end Go.Proofs.YthkhhjfldkebcaaGreatDoor
