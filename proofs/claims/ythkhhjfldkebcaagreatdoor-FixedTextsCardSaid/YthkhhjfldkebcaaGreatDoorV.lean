/- Contracts of products and quotients: Int, Mul, Div, Scale. -/
import Derived.Test.YthkhhjfldkebcaaGreatDoorU
import Derived.Test.YthkhhjfldkebcaaGreatDoorR
namespace Go.Proofs.YthkhhjfldkebcaaGreatDoor
open Go.RowKit Go.Proofs Go.Shelf

/-- A quotient, rounded by way k, with a sign; or the error. -/
def quoR (n d : Int) (neg : Bool) (k : Nat) : Except Int Int := if 18446744073709551616 ≤ n / d then .error 4 else fitR (n / d + b2i (bump k (n % d) d neg)) neg
/-- The sum with what it is rounded by does not wrap round. -/
def NW (n d : Int) (neg : Bool) (k : Nat) : Prop := n / d < 18446744073709551616 → n / d + b2i (bump k (n % d) d neg) ≠ 18446744073709551616

theorem b2i_le (b : Bool) : 0 ≤ b2i b ∧ b2i b ≤ 1 := by cases b <;> simp [b2i]
theorem quot_do {h l n : Int} (H : InW h l n) (k : Nat) (d : Int) (neg : Bool) (w : World) (h1 : 1 ≤ d) (h2 : d ≤ 18446744073709551615)
    (hk : k = 119 ∨ k = 120 ∨ k = 121 ∨ k = 122) (hw : NW n d neg k) :
    Calls Tryz.prog 61 #[.agg #[.int .u64 h, .int .u64 l], .int .u64 d, .bool neg, .func (.func k) #[] #[]] w (Do w ((quoR n d neg k).map (.int .i64 ·))) := by
  have e := H.e; have a := H.l0; have b := H.l1; have c := H.h0
  unfold quoR
  by_cases hh : h < d
  · have hq : n / d < 18446744073709551616 := by rw [Int.ediv_lt_iff_lt_mul (by omega)]; omega
    rw [if_neg (by omega)]
    have := b2i_le (bump k (n % d) d neg)
    refine (quot_any H k d neg w h1 h2 hh hk (by have := hw hq; omega)).mono fun e w' h => h.toDo
  · have hq : 18446744073709551616 ≤ n / d := by rw [Int.le_ediv_iff_mul_le (by omega)]; omega
    rw [if_pos hq]
    refine (quot_big k d neg w (by omega)).mono ?_
    rintro e w' ⟨rfl, hb⟩
    exact Do.no rfl hb

theorem Do.quiet {P : Program} {f : FuncId} {args : Array Value} {w : World} {X : BW w} {v : Value} {r : Except Int Value} (h : Calls P f args X.to (Do X.to r)) (hr : r = .ok v) :
    Calls P f args X.to fun e w'' => e = .returned v ∧ ∃ Y : BW w, w'' = Y.to := quietB (h.mono fun _ _ h => by subst hr; exact h)
theorem panicsB {P : Program} {ops : Array Oper} {w w0 : World} {fn : Func} {K : Act → World → Prop} {r : Except Int Value} {c : Int} {o : Oper} {a : Act} {f : FuncId} {args : Array Value}
    (hwant : Region.wanted o (yielded ops a.tmps) = true) (hrun : ∀ X : BW w, (execOp a.eval o).run P X.to = .ok (.enter f args) X.to) (hc : ∀ X : BW w, Calls P f args X.to fun e w' => e = .panicked (Mis c) ∧ Below X.to.heap.size X.to w')
    (hr : r = .error c) (hb : Below w0.heap.size w0 w) : PanicsIn P ops (fun w' => ∃ X : BW w, w' = X.to) [] (Exit.then K (bodyPost P fn (Do w0 r))) o a := by
  refine ⟨hwant, ?_⟩
  rintro _ ⟨X, rfl⟩
  refine ⟨f, args, hrun X, (hc X).mono ?_⟩
  rintro e w'' ⟨rfl, hb'⟩
  exact ⟨Mis c, rfl, fun a' ha' => ⟨ha', Do.no hr (hb.trans ((X.same.trans (hb'.mono X.same.size)).mono hb.size))⟩⟩

def HowOk (how : Int) : Prop := 0 ≤ how ∧ how ≤ 3
instance (how : Int) : Decidable (HowOk how) := by unfold HowOk; infer_instance
theorem kOf {how : Int} (h : HowOk how) : 119 + how.toNat = 119 ∨ 119 + how.toNat = 120 ∨ 119 + how.toNat = 121 ∨ 119 + how.toNat = 122 := by unfold HowOk at h; omega

theorem need_any (b : Bool) (c : Int) (w : World) : Calls Tryz.prog 60 #[.bool b, .int .i64 c] w fun e w' => w = w' ∧ e = if b = true then .returned (.tuple #[]) else .panicked (Mis c) := by
  cases b
  · exact (need_no c w).mono fun e w' h => ⟨h.2, h.1⟩
  · exact (need_ok c w).mono fun e w' h => ⟨h.2, h.1⟩

/-- What mul comes to. -/
def mulQ (a b : Int) (k : Nat) : Except Int Int := if Val a ∧ Val b then quoR (sz a * sz b) 65536 (decide (a < 0) != decide (b < 0)) k else .error 2

set_option maxHeartbeats 1000000 in
theorem mul_any (a b : Int) (k : Nat) (w : World) (hk : k = 119 ∨ k = 120 ∨ k = 121 ∨ k = 122) (hw : NW (sz a * sz b) 65536 (decide (a < 0) != decide (b < 0)) k) :
    Calls Tryz.prog 56 #[.int .i64 a, .int .i64 b, .func (.func k) #[] #[]] w (Do w ((mulQ a b k).map (.int .i64 ·))) := by
  unfold mulQ
  by_cases hv : Val a ∧ Val b
  · rw [if_pos hv]
    have HV := Lib.hid hv
    obtain ⟨⟨v1, v2⟩, v3, v4⟩ := hv
    have sa := sz_nn a; have sb := sz_nn b
    have sa' : sz a ≤ 70368744177664 := sz_le v1 v2
    have sb' : sz b ≤ 70368744177664 := sz_le v3 v4
    obtain ⟨na, hna⟩ : ∃ na, decide (a < 0) = na := ⟨_, rfl⟩
    obtain ⟨nb, hnb⟩ : ∃ nb, decide (b < 0) = nb := ⟨_, rfl⟩
    rw [hna, hnb] at hw ⊢
    obtain ⟨r, hr⟩ : ∃ r, quoR (sz a * sz b) 65536 (na != nb) k = r := ⟨_, rfl⟩
    rw [hr]
    have HQ : Hid (∀ h l w, InW h l (sz a * sz b) → Calls Tryz.prog 61 #[.agg #[.int .u64 h, .int .u64 l], .int .u64 65536, .bool (na != nb), .func (.func k) #[] #[]] w (Do w (r.map (.int .i64 ·)))) := by
      intro h l w H; rw [← hr]; exact quot_do H k 65536 _ w (by omega) (by omega) hk hw
    clear hr hw hk
    cases r with
    | ok v =>
      go_enter Tryz.func56, Tryz.ntmps56
      go_wp2_with (first
        | (go_at_call 59; refine (right2_ok a b _ _ HV.out (by simp [go_sem]) (by simp [go_sem])).mono ?_; rintro e w' ⟨rfl, rfl⟩)
        | (go_at_call 63; refine (size_any _ _ (by omega) (by omega)).mono ?_; rintro e w' ⟨rfl, rfl⟩)
        | (go_at_call 62; refine (productW _ _ _ sa (by omega) sb (by omega)).mono ?_; rintro e w1 ⟨h, l, rfl, hW, hb1⟩)
        | (go_at_call 61; refine (HQ.out _ _ _ hW.out).mono ?_; rintro e w2 hd; obtain ⟨rfl, hb2⟩ := Do.at_ok hd))
      go_ret
      exact Do.ok rfl ((((Below.refl _ _).alloc (Nat.le_refl _) _).trans (hb1.mono (by simp))).trans (hb2.mono (by have := hb1.size; simp at this; omega)))
    | error c =>
      go_enter Tryz.func56, Tryz.ntmps56
      go_wp2_with (first
        | (go_at_call 59; refine (right2_ok a b _ _ HV.out (by simp [go_sem]) (by simp [go_sem])).mono ?_; rintro e w' ⟨rfl, rfl⟩)
        | (go_at_call 63; refine (size_any _ _ (by omega) (by omega)).mono ?_; rintro e w' ⟨rfl, rfl⟩)
        | (go_at_call 62; refine (productW _ _ _ sa (by omega) sb (by omega)).mono ?_; rintro e w1 ⟨h, l, rfl, hW, hb1⟩)
        | (go_at_call 61; refine (HQ.out _ _ _ hW.out).mono ?_; rintro e w2 hd; obtain ⟨rfl, hb2⟩ := Do.at_no hd))
      exact ⟨rfl, Do.no rfl ((((Below.refl _ _).alloc (Nat.le_refl _) _).trans (hb1.mono (by simp))).trans (hb2.mono (by have := hb1.size; simp at this; omega)))⟩
  · rw [if_neg hv]
    have HV := Lib.hid hv
    clear hv
    go_enter Tryz.func56, Tryz.ntmps56
    go_wp2_with (go_at_call 59; refine (right2_no a b _ _ HV.out (by simp [go_sem]) (by simp [go_sem])).mono ?_; rintro e w' ⟨rfl, rfl⟩)
    exact ⟨rfl, Do.no rfl ((Below.refl _ _).alloc (Nat.le_refl _) _)⟩

/-- What Mul comes to. -/
def mulR (a b how : Int) : Except Int Int := if HowOk how then mulQ a b (119 + how.toNat) else .error 2

theorem lt_cell {w : World} {b o : Nat} {v : Value} (h : w.cell? ⟨b, o, none⟩ = some v) : b < w.heap.size := by
  rcases Nat.lt_or_ge b w.heap.size with h' | h'
  · exact h'
  · simp [World.cell?, Array.getElem?_eq_none h'] at h

set_option maxHeartbeats 1000000 in
theorem cl55 (p q r : Nat) (a b how : Int) (w : World) (hp : w.cell? ⟨p, 0, none⟩ = some (.int .i64 a)) (hq : w.cell? ⟨q, 0, none⟩ = some (.int .i64 b)) (hr : w.cell? ⟨r, 0, none⟩ = some (.int .i64 how))
    (hw : HowOk how → NW (sz a * sz b) 65536 (decide (a < 0) != decide (b < 0)) (119 + how.toNat)) :
    Calls Tryz.prog 55 #[.pointer (some ⟨p, 0, none⟩), .pointer (some ⟨q, 0, none⟩), .pointer (some ⟨r, 0, none⟩)] w (Do w ((mulR a b how).map (.int .i64 ·))) := by
  have lp := lt_cell hp; have lq := lt_cell hq; have lr := lt_cell hr
  have X0 : ∀ X : BW w, X.to.cell? ⟨p, 0, none⟩ = some (.int .i64 a) := fun X => (X.cell _ _ lp).trans hp
  have X1 : ∀ X : BW w, X.to.cell? ⟨q, 0, none⟩ = some (.int .i64 b) := fun X => (X.cell _ _ lq).trans hq
  have X2 : ∀ X : BW w, X.to.cell? ⟨r, 0, none⟩ = some (.int .i64 how) := fun X => (X.cell _ _ lr).trans hr
  clear lp lq lr
  unfold mulR
  by_cases hh : HowOk how
  · rw [if_pos hh]
    obtain ⟨h0, h3⟩ := hh
    have HQ : Hid (∀ w, Calls Tryz.prog 56 #[.int .i64 a, .int .i64 b, .func (.func (119 + how.toNat)) #[] #[]] w (Do w ((mulQ a b (119 + how.toNat)).map (.int .i64 ·)))) :=
      fun w => mul_any a b _ w (kOf ⟨h0, h3⟩) (hw ⟨h0, h3⟩)
    clear hw
    obtain ⟨x, hx⟩ : ∃ x, mulQ a b (119 + how.toNat) = x := ⟨_, rfl⟩
    rw [hx] at HQ ⊢
    clear hx
    cases x with
    | ok v =>
      go_enter Tryz.func55, Tryz.ntmps55
      go_wp2_with fail
      refine wp_region_quietB (by kernel_rfl) (by kernel_rfl) ?_
      repeat (go_big_quiet_step ((first
        | (go_at_call 57; exact quietS (ways_ok _ _ h0 h3))
        | (go_at_call 56; exact Do.quiet (HQ.out _) rfl))))
      refine wpQuiet_nil ?_
      rintro _ ⟨⟨wy, hby⟩, rfl⟩
      go_wp2_with fail
      go_ret
      exact Do.ok rfl hby
    | error c =>
      go_enter Tryz.func55, Tryz.ntmps55
      go_wp2_with fail
      refine wp_region_ends_lit [true, true, true, true] [false, false, false, false, true] [5] (by kernel_rfl) (by kernel_rfl) (by simp) (by simp) ?_
      simp only [maskSel]
      repeat (go_big_quiet_step ((first
        | (go_at_call 57; exact quietS (ways_ok _ _ h0 h3)))))
      refine wpQuiet_nil ?_
      intro o ho
      simp only [List.mem_singleton] at ho
      subst ho
      exact panicsB rfl (fun X => by simp [go_sem]) (fun X => HQ.out _) rfl (Below.refl _ _)
  · rw [if_neg hh]
    clear hw
    go_enter Tryz.func55, Tryz.ntmps55
    go_wp2_with fail
    refine wp_region_ends_lit [true, true, true] [false, false, false, true] [4, 5] (by kernel_rfl) (by kernel_rfl) (by simp) (by simp) ?_
    simp only [maskSel]
    repeat (go_big_quiet_step ((fail)))
    refine wpQuiet_nil ?_
    intro o ho
    simp only [List.mem_singleton] at ho
    subst ho
    exact panicsB rfl (fun X => by simp [go_sem]) (fun X => (ways_no how _ (by unfold HowOk at hh; omega)).mono fun e w' h => ⟨h.1, by rw [← h.2]; exact Below.refl _ _⟩) rfl (Below.refl _ _)

/-- What Div comes to. -/
def divR (a b how : Int) : Except Int Int := if Val a ∧ Val b then (if HowOk how then (if b = 0 then .error 10 else quoR (sz a * 65536) (sz b) (decide (a < 0) != decide (b < 0)) (119 + how.toNat)) else .error 2) else .error 2

set_option maxHeartbeats 1000000 in
theorem cl58 (p q r : Nat) (a b how : Int) (w : World) (hp : w.cell? ⟨p, 0, none⟩ = some (.int .i64 a)) (hq : w.cell? ⟨q, 0, none⟩ = some (.int .i64 b)) (hr : w.cell? ⟨r, 0, none⟩ = some (.int .i64 how)) :
    Calls Tryz.prog 58 #[.pointer (some ⟨p, 0, none⟩), .pointer (some ⟨q, 0, none⟩), .pointer (some ⟨r, 0, none⟩)] w (Do w ((divR a b how).map (.int .i64 ·))) := by
  have lp := lt_cell hp
  have lq := lt_cell hq
  have lr := lt_cell hr
  have Xp : ∀ o (X : BW (w.alloc o)), X.to.cell? ⟨p, 0, none⟩ = some (.int .i64 a) := fun o X => (X.cell _ _ (by simp; omega)).trans ((World.cell?_alloc_past _ _ _ lp).trans hp)
  have Xq : ∀ o (X : BW (w.alloc o)), X.to.cell? ⟨q, 0, none⟩ = some (.int .i64 b) := fun o X => (X.cell _ _ (by simp; omega)).trans ((World.cell?_alloc_past _ _ _ lq).trans hq)
  have Xr : ∀ o (X : BW (w.alloc o)), X.to.cell? ⟨r, 0, none⟩ = some (.int .i64 how) := fun o X => (X.cell _ _ (by simp; omega)).trans ((World.cell?_alloc_past _ _ _ lr).trans hr)
  unfold divR
  by_cases hv : Val a ∧ Val b
  · rw [if_pos hv]
    have HV := Lib.hid hv
    obtain ⟨⟨v1, v2⟩, v3, v4⟩ := hv
    by_cases hh : HowOk how
    · rw [if_pos hh]
      have GH := Lib.hid hh
      obtain ⟨h0, h3⟩ := hh
      by_cases hz : b = 0
      · rw [if_pos hz]
        subst hz
        go_enter Tryz.func58, Tryz.ntmps58
        go_wp2_with (first
          | (go_at_call 59; refine (right2_ok a 0 _ _ HV.out (by simp [go_sem]) (by simp [go_sem])).mono ?_; rintro e w' ⟨rfl, rfl⟩)
          | (go_at_call 57; refine (ways_ok _ _ h0 h3).mono ?_; rintro e w' ⟨rfl, rfl⟩)
          | (go_at_call 60; refine (need_no _ _).mono ?_; rintro e w' ⟨rfl, rfl⟩))
        exact ⟨rfl, Do.no rfl ((Below.refl _ _).alloc (Nat.le_refl _) _)⟩
      · rw [if_neg hz]
        have hz' : (b != 0) = true := by simpa using hz
        have sa := sz_nn a; have sb : 1 ≤ sz b := by unfold sz; split <;> omega
        have sa' : sz a ≤ 70368744177664 := sz_le v1 v2
        have sb' : sz b ≤ 70368744177664 := sz_le v3 v4
        obtain ⟨na, hna⟩ : ∃ na, decide (a < 0) = na := ⟨_, rfl⟩
        obtain ⟨nb, hnb⟩ : ∃ nb, decide (b < 0) = nb := ⟨_, rfl⟩
        rw [hna, hnb]
        obtain ⟨x, hx⟩ : ∃ x, quoR (sz a * 65536) (sz b) (na != nb) (119 + how.toNat) = x := ⟨_, rfl⟩
        rw [hx]
        have HQ : Hid (∀ w, Calls Tryz.prog 61 #[.agg #[.int .u64 (hiU (sz a * 65536)), .int .u64 (loU (sz a * 65536))], .int .u64 (sz b), .bool (na != nb), .func (.func (119 + how.toNat)) #[] #[]] w (Do w (x.map (.int .i64 ·)))) := by
          intro w; rw [← hx]
          refine quot_do (InW.mk' (by omega) (by omega)) _ (sz b) _ w sb (by omega) (kOf GH.out) ?_
          have := Int.ediv_le_self (sz b) (show 0 ≤ sz a * 65536 by omega)
          have := b2i_le (bump (119 + how.toNat) (sz a * 65536 % sz b) (sz b) (na != nb))
          unfold NW; intro _; omega
        clear hx hz
        cases x with
        | ok v =>
          go_enter Tryz.func58, Tryz.ntmps58
          go_wp2_with (first
            | (go_at_call 59; refine (right2_ok a b _ _ HV.out (by simp [go_sem]) (by simp [go_sem])).mono ?_; rintro e w' ⟨rfl, rfl⟩)
            | (go_at_call 57; refine (ways_ok _ _ h0 h3).mono ?_; rintro e w' ⟨rfl, rfl⟩)
            | (go_at_call 60; refine (need_ok _ _).mono ?_; rintro e w' ⟨rfl, rfl⟩))
          refine wp_region_quietB (by kernel_rfl) (by kernel_rfl) ?_
          repeat (go_big_quiet_step ((first
            | (go_at_call 63; exact quietS (size_any _ _ (by omega) (by omega)))
            | (go_at_call 62; exact quietB (product_any _ _ _ (by omega) (by omega) (by omega) (by omega)))
            | (go_at_call 61; exact Do.quiet (HQ.out _) rfl))))
          refine wpQuiet_nil ?_
          rintro _ ⟨⟨wy, hby⟩, rfl⟩
          go_wp2_with fail
          go_ret
          exact Do.ok rfl (((Below.refl _ _).alloc (Nat.le_refl _) _).trans (hby.mono (by simp)))
        | error c =>
          go_enter Tryz.func58, Tryz.ntmps58
          go_wp2_with (first
            | (go_at_call 59; refine (right2_ok a b _ _ HV.out (by simp [go_sem]) (by simp [go_sem])).mono ?_; rintro e w' ⟨rfl, rfl⟩)
            | (go_at_call 57; refine (ways_ok _ _ h0 h3).mono ?_; rintro e w' ⟨rfl, rfl⟩)
            | (go_at_call 60; refine (need_ok _ _).mono ?_; rintro e w' ⟨rfl, rfl⟩))
          refine wp_region_ends_lit [true, true, true, true, true, true, true, true, true, true, true] [false, false, false, false, false, false, false, false, false, false, false, true] [12] (by kernel_rfl) (by kernel_rfl) (by simp) (by simp) ?_
          simp only [maskSel]
          repeat (go_big_quiet_step (((first
            | (go_at_call 63; exact quietS (size_any _ _ (by omega) (by omega)))
            | (go_at_call 62; exact quietB (product_any _ _ _ (by omega) (by omega) (by omega) (by omega)))))))
          refine wpQuiet_nil ?_
          intro o ho
          simp only [List.mem_singleton] at ho
          subst ho
          exact panicsB rfl (fun X => by simp [go_sem]; cases na <;> cases nb <;> rfl) (fun X => HQ.out _) rfl ((Below.refl _ _).alloc (Nat.le_refl _) _)
    · rw [if_neg hh]
      go_enter Tryz.func58, Tryz.ntmps58
      go_wp2_with (first
        | (go_at_call 59; refine (right2_ok a b _ _ HV.out (by simp [go_sem]) (by simp [go_sem])).mono ?_; rintro e w' ⟨rfl, rfl⟩)
        | (go_at_call 57; refine (ways_no _ _ (by unfold HowOk at hh; omega)).mono ?_; rintro e w' ⟨rfl, rfl⟩))
      exact ⟨rfl, Do.no rfl ((Below.refl _ _).alloc (Nat.le_refl _) _)⟩
  · rw [if_neg hv]
    have HV := Lib.hid hv
    clear hv
    go_enter Tryz.func58, Tryz.ntmps58
    go_wp2_with (go_at_call 59; refine (right2_no a b _ _ HV.out (by simp [go_sem]) (by simp [go_sem])).mono ?_; rintro e w' ⟨rfl, rfl⟩)
    exact ⟨rfl, Do.no rfl ((Below.refl _ _).alloc (Nat.le_refl _) _)⟩

def RateOk (n : Int) : Prop := -2147483648 ≤ n ∧ n ≤ 2147483648
instance (n : Int) : Decidable (RateOk n) := by unfold RateOk; infer_instance
/-- What Scale comes to. -/
def scaleR (a num den how : Int) : Except Int Int := if Val a then (if HowOk how then (if RateOk num ∧ RateOk den then (if den = 0 then .error 10 else quoR (sz a * sz num) (sz den) (decide (a < 0) != (decide (num < 0) != decide (den < 0))) (119 + how.toNat)) else .error 2) else .error 2) else .error 2

set_option maxHeartbeats 2000000 in
theorem cl88 (p q r s : Nat) (a how num den : Int) (w : World) (hp : w.cell? ⟨p, 0, none⟩ = some (.int .i64 a)) (hq : w.cell? ⟨q, 0, none⟩ = some (.int .i64 how)) (hr : w.cell? ⟨r, 0, none⟩ = some (.int .i64 num)) (hs : w.cell? ⟨s, 0, none⟩ = some (.int .i64 den))
    (hw : Val a ∧ HowOk how ∧ RateOk num ∧ RateOk den ∧ den ≠ 0 → NW (sz a * sz num) (sz den) (decide (a < 0) != (decide (num < 0) != decide (den < 0))) (119 + how.toNat)) :
    Calls Tryz.prog 88 #[.pointer (some ⟨p, 0, none⟩), .pointer (some ⟨q, 0, none⟩), .pointer (some ⟨r, 0, none⟩), .pointer (some ⟨s, 0, none⟩)] w (Do w ((scaleR a num den how).map (.int .i64 ·))) := by
  have lp := lt_cell hp
  have lq := lt_cell hq
  have lr := lt_cell hr
  have ls := lt_cell hs
  have Xp : ∀ o (X : BW (w.alloc o)), X.to.cell? ⟨p, 0, none⟩ = some (.int .i64 a) := fun o X => (X.cell _ _ (by simp; omega)).trans ((World.cell?_alloc_past _ _ _ lp).trans hp)
  have Xq : ∀ o (X : BW (w.alloc o)), X.to.cell? ⟨q, 0, none⟩ = some (.int .i64 how) := fun o X => (X.cell _ _ (by simp; omega)).trans ((World.cell?_alloc_past _ _ _ lq).trans hq)
  have Xr : ∀ o (X : BW (w.alloc o)), X.to.cell? ⟨r, 0, none⟩ = some (.int .i64 num) := fun o X => (X.cell _ _ (by simp; omega)).trans ((World.cell?_alloc_past _ _ _ lr).trans hr)
  have Xs : ∀ o (X : BW (w.alloc o)), X.to.cell? ⟨s, 0, none⟩ = some (.int .i64 den) := fun o X => (X.cell _ _ (by simp; omega)).trans ((World.cell?_alloc_past _ _ _ ls).trans hs)
  unfold scaleR
  have GW := Lib.hid hw
  clear hw
  by_cases hv : Val a
  · rw [if_pos hv]
    have HV := Lib.hid hv
    obtain ⟨v1, v2⟩ := hv
    by_cases hh : HowOk how
    · rw [if_pos hh]
      have GH := Lib.hid hh
      obtain ⟨h0, h3⟩ := hh
      by_cases hm : RateOk num ∧ RateOk den
      · rw [if_pos hm]
        have GM := Lib.hid hm
        obtain ⟨⟨m1, m2⟩, m3, m4⟩ := hm
        by_cases hz : den = 0
        · rw [if_pos hz]
          subst hz
          go_enter Tryz.func88, Tryz.ntmps88
          go_wp2_with (first
            | (go_at_call 59; refine (right1_ok a _ _ HV.out (by simp [go_sem])).mono ?_; rintro e w' ⟨rfl, rfl⟩)
            | (go_at_call 57; refine (ways_ok _ _ h0 h3).mono ?_; rintro e w' ⟨rfl, rfl⟩)
            | (go_at_call 60; refine (need_any _ _ _).mono ?_; rintro e w' ⟨rfl, he⟩; simp only [if_true, if_false, Bool.false_eq_true] at he; subst he))
          exact ⟨rfl, Do.no rfl ((Below.refl _ _).alloc (Nat.le_refl _) _)⟩
        · rw [if_neg hz]
          have hz' : (den != 0) = true := by simpa using hz
          have sa := sz_nn a; have sn := sz_nn num; have sd : 1 ≤ sz den := by unfold sz; split <;> omega
          have sa' : sz a ≤ 70368744177664 := sz_le v1 v2
          have sn' : sz num ≤ 2147483648 := sz_le m1 m2
          have sd' : sz den ≤ 2147483648 := sz_le m3 m4
          have hn := GW.out ⟨HV.out, GH.out, GM.out.1, GM.out.2, hz⟩
          obtain ⟨na, hna⟩ : ∃ na, decide (a < 0) = na := ⟨_, rfl⟩
          obtain ⟨nb, hnb⟩ : ∃ nb, decide (num < 0) = nb := ⟨_, rfl⟩
          obtain ⟨nc, hnc⟩ : ∃ nc, decide (den < 0) = nc := ⟨_, rfl⟩
          rw [hna, hnb, hnc] at hn ⊢
          obtain ⟨x, hx⟩ : ∃ x, quoR (sz a * sz num) (sz den) (na != (nb != nc)) (119 + how.toNat) = x := ⟨_, rfl⟩
          rw [hx]
          have HQ : Hid (∀ w, Calls Tryz.prog 61 #[.agg #[.int .u64 (hiU (sz a * sz num)), .int .u64 (loU (sz a * sz num))], .int .u64 (sz den), .bool (na != (nb != nc)), .func (.func (119 + how.toNat)) #[] #[]] w (Do w (x.map (.int .i64 ·)))) := by
            intro w; rw [← hx]
            have := Int.mul_le_mul sa' sn' sn (by omega)
            exact quot_do (InW.mk' (Int.mul_nonneg sa sn) (by omega)) _ (sz den) _ w sd (by omega) (kOf GH.out) hn
          clear hx hz hn
          cases x with
          | ok v =>
            go_enter Tryz.func88, Tryz.ntmps88
            go_wp2_with (first
              | (go_at_call 59; refine (right1_ok a _ _ HV.out (by simp [go_sem])).mono ?_; rintro e w' ⟨rfl, rfl⟩)
              | (go_at_call 57; refine (ways_ok _ _ h0 h3).mono ?_; rintro e w' ⟨rfl, rfl⟩)
              | (go_at_call 60; refine (need_ok _ _).mono ?_; rintro e w' ⟨rfl, rfl⟩))
            refine wp_region_quietB (by kernel_rfl) (by kernel_rfl) ?_
            repeat (go_big_quiet_step ((first
              | (go_at_call 63; exact quietS (size_any _ _ (by omega) (by omega)))
              | (go_at_call 89; exact quietS (sizeInt_any _ _ (by omega) (by omega)))
              | (go_at_call 62; exact quietB (product_any _ _ _ (by omega) (by omega) (by omega) (by omega)))
              | (go_at_call 61; exact Do.quiet (HQ.out _) rfl))))
            refine wpQuiet_nil ?_
            rintro _ ⟨⟨wy, hby⟩, rfl⟩
            go_wp2_with fail
            go_ret
            exact Do.ok rfl (((Below.refl _ _).alloc (Nat.le_refl _) _).trans (hby.mono (by simp)))
          | error c =>
            go_enter Tryz.func88, Tryz.ntmps88
            go_wp2_with (first
              | (go_at_call 59; refine (right1_ok a _ _ HV.out (by simp [go_sem])).mono ?_; rintro e w' ⟨rfl, rfl⟩)
              | (go_at_call 57; refine (ways_ok _ _ h0 h3).mono ?_; rintro e w' ⟨rfl, rfl⟩)
              | (go_at_call 60; refine (need_ok _ _).mono ?_; rintro e w' ⟨rfl, rfl⟩))
            refine wp_region_ends_lit [true, true, true, true, true, true, true, true, true, true, true, true, true, true, true, true] [false, false, false, false, false, false, false, false, false, false, false, false, false, false, false, false, true] [17] (by kernel_rfl) (by kernel_rfl) (by simp) (by simp) ?_
            simp only [maskSel]
            repeat (go_big_quiet_step (((first
              | (go_at_call 63; exact quietS (size_any _ _ (by omega) (by omega)))
              | (go_at_call 89; exact quietS (sizeInt_any _ _ (by omega) (by omega)))
              | (go_at_call 62; exact quietB (product_any _ _ _ (by omega) (by omega) (by omega) (by omega)))))))
            refine wpQuiet_nil ?_
            intro o ho
            simp only [List.mem_singleton] at ho
            subst ho
            exact panicsB rfl (fun X => by simp [go_sem]; cases na <;> cases nb <;> cases nc <;> rfl) (fun X => HQ.out _) rfl ((Below.refl _ _).alloc (Nat.le_refl _) _)
      · rw [if_neg hm]
        have hm' : (decide (-2147483648 ≤ num) = false) ∨ (-2147483648 ≤ num ∧ decide (num ≤ 2147483648) = false) ∨ (-2147483648 ≤ num ∧ num ≤ 2147483648 ∧ decide (-2147483648 ≤ den) = false) ∨ (-2147483648 ≤ num ∧ num ≤ 2147483648 ∧ -2147483648 ≤ den ∧ decide (den ≤ 2147483648) = false) := by
          unfold RateOk at hm; simp only [decide_eq_false_iff_not]; omega
        clear hm
        rcases hm' with m1 | ⟨m1, m2⟩ | ⟨m1, m2, m3⟩ | ⟨m1, m2, m3, m4⟩
        all_goals
          go_enter Tryz.func88, Tryz.ntmps88
          go_wp2_with (first
            | (go_at_call 59; refine (right1_ok a _ _ HV.out (by simp [go_sem])).mono ?_; rintro e w' ⟨rfl, rfl⟩)
            | (go_at_call 57; refine (ways_ok _ _ h0 h3).mono ?_; rintro e w' ⟨rfl, rfl⟩)
            | (go_at_call 60; refine (need_no _ _).mono ?_; rintro e w' ⟨rfl, rfl⟩))
          exact ⟨rfl, Do.no rfl ((Below.refl _ _).alloc (Nat.le_refl _) _)⟩
    · rw [if_neg hh]
      go_enter Tryz.func88, Tryz.ntmps88
      go_wp2_with (first
        | (go_at_call 59; refine (right1_ok a _ _ HV.out (by simp [go_sem])).mono ?_; rintro e w' ⟨rfl, rfl⟩)
        | (go_at_call 57; refine (ways_no _ _ (by unfold HowOk at hh; omega)).mono ?_; rintro e w' ⟨rfl, rfl⟩))
      exact ⟨rfl, Do.no rfl ((Below.refl _ _).alloc (Nat.le_refl _) _)⟩
  · rw [if_neg hv]
    have HV := Lib.hid hv
    clear hv
    go_enter Tryz.func88, Tryz.ntmps88
    go_wp2_with (go_at_call 59; refine (right1_no a _ _ HV.out (by simp [go_sem])).mono ?_; rintro e w' ⟨rfl, rfl⟩)
    exact ⟨rfl, Do.no rfl ((Below.refl _ _).alloc (Nat.le_refl _) _)⟩

/-- What Int comes to. -/
def intR (a how : Int) : Except Int Int := if Val a then (if HowOk how then quoR (sz a) 65536 (decide (a < 0)) (119 + how.toNat) else .error 2) else .error 2

set_option maxHeartbeats 1000000 in
theorem cl68 (p q : Nat) (a how : Int) (w : World) (hp : w.cell? ⟨p, 0, none⟩ = some (.int .i64 a)) (hq : w.cell? ⟨q, 0, none⟩ = some (.int .i64 how)) :
    Calls Tryz.prog 68 #[.pointer (some ⟨p, 0, none⟩), .pointer (some ⟨q, 0, none⟩)] w (Do w ((intR a how).map (.int .i64 ·))) := by
  have lp := lt_cell hp
  have lq := lt_cell hq
  have Xp : ∀ o (X : BW (w.alloc o)), X.to.cell? ⟨p, 0, none⟩ = some (.int .i64 a) := fun o X => (X.cell _ _ (by simp; omega)).trans ((World.cell?_alloc_past _ _ _ lp).trans hp)
  have Xq : ∀ o (X : BW (w.alloc o)), X.to.cell? ⟨q, 0, none⟩ = some (.int .i64 how) := fun o X => (X.cell _ _ (by simp; omega)).trans ((World.cell?_alloc_past _ _ _ lq).trans hq)
  unfold intR
  by_cases hv : Val a
  · rw [if_pos hv]
    have HV := Lib.hid hv
    obtain ⟨v1, v2⟩ := hv
    by_cases hh : HowOk how
    · rw [if_pos hh]
      have GH := Lib.hid hh
      obtain ⟨h0, h3⟩ := hh
      have sa := sz_nn a
      have sa' : sz a ≤ 70368744177664 := sz_le v1 v2
      obtain ⟨na, hna⟩ : ∃ na, decide (a < 0) = na := ⟨_, rfl⟩
      rw [hna]
      obtain ⟨x, hx⟩ : ∃ x, quoR (sz a) 65536 na (119 + how.toNat) = x := ⟨_, rfl⟩
      rw [hx]
      have HQ : Hid (∀ w, Calls Tryz.prog 61 #[.agg #[.int .u64 0, .int .u64 (sz a)], .int .u64 65536, .bool na, .func (.func (119 + how.toNat)) #[] #[]] w (Do w (x.map (.int .i64 ·)))) := by
        intro w; rw [← hx]
        refine quot_do (InW.small (by omega) (by omega)) _ 65536 _ w (by omega) (by omega) (kOf GH.out) ?_
        have := b2i_le (bump (119 + how.toNat) (sz a % 65536) 65536 na)
        unfold NW; intro _; omega
      clear hx
      cases x with
      | ok v =>
        go_enter Tryz.func68, Tryz.ntmps68
        go_wp2_with (go_at_call 59; refine (right1_ok a _ _ HV.out (by simp [go_sem])).mono ?_; rintro e w' ⟨rfl, rfl⟩)
        refine wp_region_quietB (by kernel_rfl) (by kernel_rfl) ?_
        repeat (go_big_quiet_step ((first
          | (go_at_call 63; exact quietS (size_any _ _ (by omega) (by omega)))
          | (go_at_call 57; exact quietS (ways_ok _ _ h0 h3))
          | (go_at_call 61; exact Do.quiet (HQ.out _) rfl))))
        refine wpQuiet_nil ?_
        rintro _ ⟨⟨wy, hby⟩, rfl⟩
        go_wp2_with fail
        go_ret
        exact Do.ok rfl (((Below.refl _ _).alloc (Nat.le_refl _) _).trans (hby.mono (by simp)))
      | error c =>
        go_enter Tryz.func68, Tryz.ntmps68
        go_wp2_with (go_at_call 59; refine (right1_ok a _ _ HV.out (by simp [go_sem])).mono ?_; rintro e w' ⟨rfl, rfl⟩)
        refine wp_region_ends_lit [true, true, true, true, true, true, true] [false, false, false, false, false, false, false, true] [8] (by kernel_rfl) (by kernel_rfl) (by simp) (by simp) ?_
        simp only [maskSel]
        repeat (go_big_quiet_step (((first
          | (go_at_call 63; exact quietS (size_any _ _ (by omega) (by omega)))
          | (go_at_call 57; exact quietS (ways_ok _ _ h0 h3))))))
        refine wpQuiet_nil ?_
        intro o ho
        simp only [List.mem_singleton] at ho
        subst ho
        exact panicsB rfl (fun X => by simp [go_sem]) (fun X => HQ.out _) rfl ((Below.refl _ _).alloc (Nat.le_refl _) _)
    · rw [if_neg hh]
      go_enter Tryz.func68, Tryz.ntmps68
      go_wp2_with (go_at_call 59; refine (right1_ok a _ _ HV.out (by simp [go_sem])).mono ?_; rintro e w' ⟨rfl, rfl⟩)
      refine wp_region_ends_lit [true, true, true, true, true, true] [false, false, false, false, false, false, true] [7, 8] (by kernel_rfl) (by kernel_rfl) (by simp) (by simp) ?_
      simp only [maskSel]
      repeat (go_big_quiet_step (((first
        | (go_at_call 63; exact quietS (size_any _ _ (by omega) (by omega)))))))
      refine wpQuiet_nil ?_
      intro o ho
      simp only [List.mem_singleton] at ho
      subst ho
      exact panicsB rfl (fun X => by simp [go_sem]) (fun X => (ways_no how _ (by unfold HowOk at hh; omega)).mono fun e w' h => ⟨h.1, by rw [← h.2]; exact Below.refl _ _⟩) rfl ((Below.refl _ _).alloc (Nat.le_refl _) _)
  · rw [if_neg hv]
    have HV := Lib.hid hv
    clear hv
    go_enter Tryz.func68, Tryz.ntmps68
    go_wp2_with (go_at_call 59; refine (right1_no a _ _ HV.out (by simp [go_sem])).mono ?_; rintro e w' ⟨rfl, rfl⟩)
    exact ⟨rfl, Do.no rfl ((Below.refl _ _).alloc (Nat.le_refl _) _)⟩

theorem exists_root (A : Int) (h : 0 ≤ A) : ∃ n, IsRoot A n := by
  obtain ⟨m, rfl⟩ := Int.eq_ofNat_of_zero_le h
  have : ∀ m : Nat, ∃ n : Nat, n * n ≤ m ∧ m < (n + 1) * (n + 1) := by
    intro m
    induction m with
    | zero => exact ⟨0, by omega, by omega⟩
    | succ m ih =>
      obtain ⟨n, h1, h2⟩ := ih
      by_cases hx : m + 1 < (n + 1) * (n + 1)
      · exact ⟨n, by omega, hx⟩
      · refine ⟨n + 1, by omega, ?_⟩
        have : (n + 1 + 1) * (n + 1 + 1) = (n + 1) * (n + 1) + (n + 1) + (n + 1) + 1 := by rw [Nat.add_mul, Nat.mul_add]; omega
        omega
  obtain ⟨n, h1, h2⟩ := this m
  exact ⟨n, by omega, by exact_mod_cast h1, by exact_mod_cast h2⟩
/-- The root of a number, rounded down. -/
noncomputable def isq (A : Int) : Int := if h : 0 ≤ A then Classical.choose (exists_root A h) else 0
theorem isq_spec {A : Int} (h : 0 ≤ A) : IsRoot A (isq A) := by unfold isq; rw [dif_pos h]; exact Classical.choose_spec (exists_root A h)
/-- A root, rounded by way k; or the error. -/
noncomputable def rooR (A : Int) (k : Nat) : Except Int Int := fitR (isq A + b2i (rbump k A (isq A))) false
/-- What Root comes to. -/
noncomputable def rootR (a how : Int) : Except Int Int := if Val a then (if HowOk how then (if a < 0 then .error 11 else rooR (a * 65536) (119 + how.toNat)) else .error 2) else .error 2

set_option maxHeartbeats 1000000 in
theorem cl64 (p q : Nat) (a how : Int) (w : World) (hp : w.cell? ⟨p, 0, none⟩ = some (.int .i64 a)) (hq : w.cell? ⟨q, 0, none⟩ = some (.int .i64 how)) :
    Calls Tryz.prog 64 #[.pointer (some ⟨p, 0, none⟩), .pointer (some ⟨q, 0, none⟩)] w (Do w ((rootR a how).map (.int .i64 ·))) := by
  have lp := lt_cell hp
  have lq := lt_cell hq
  have Xp : ∀ o (X : BW (w.alloc o)), X.to.cell? ⟨p, 0, none⟩ = some (.int .i64 a) := fun o X => (X.cell _ _ (by simp; omega)).trans ((World.cell?_alloc_past _ _ _ lp).trans hp)
  have Xq : ∀ o (X : BW (w.alloc o)), X.to.cell? ⟨q, 0, none⟩ = some (.int .i64 how) := fun o X => (X.cell _ _ (by simp; omega)).trans ((World.cell?_alloc_past _ _ _ lq).trans hq)
  unfold rootR
  by_cases hv : Val a
  · rw [if_pos hv]
    have HV := Lib.hid hv
    obtain ⟨v1, v2⟩ := hv
    by_cases hh : HowOk how
    · rw [if_pos hh]
      have GH := Lib.hid hh
      obtain ⟨h0, h3⟩ := hh
      by_cases hz : a < 0
      · rw [if_pos hz]
        have hz' : decide (0 ≤ a) = false := by simp; omega
        clear hz
        go_enter Tryz.func64, Tryz.ntmps64
        go_wp2_with (first
          | (go_at_call 59; refine (right1_ok a _ _ HV.out (by simp [go_sem])).mono ?_; rintro e w' ⟨rfl, rfl⟩)
          | (go_at_call 57; refine (ways_ok _ _ h0 h3).mono ?_; rintro e w' ⟨rfl, rfl⟩)
          | (go_at_call 60; refine (need_no _ _).mono ?_; rintro e w' ⟨rfl, rfl⟩))
        exact ⟨rfl, Do.no rfl ((Below.refl _ _).alloc (Nat.le_refl _) _)⟩
      · rw [if_neg hz]
        have hz' : 0 ≤ a := by omega
        clear hz
        obtain ⟨x, hx⟩ : ∃ x, rooR (a * 65536) (119 + how.toNat) = x := ⟨_, rfl⟩
        rw [hx]
        have HQ : Hid (∀ h l w, InW h l (a * 65536) → Calls Tryz.prog 65 #[.agg #[.int .u64 h, .int .u64 l], .func (.func (119 + how.toNat)) #[] #[]] w (Do w (x.map (.int .i64 ·)))) := by
          intro h l w H; rw [← hx]
          exact (root_any H _ w (isq_spec (by omega)) (by omega) (kOf GH.out)).mono fun e w' h => h.toDo
        clear hx
        cases x with
        | ok v =>
          go_enter Tryz.func64, Tryz.ntmps64
          go_wp2_with (first
            | (go_at_call 59; refine (right1_ok a _ _ HV.out (by simp [go_sem])).mono ?_; rintro e w' ⟨rfl, rfl⟩)
            | (go_at_call 57; refine (ways_ok _ _ h0 h3).mono ?_; rintro e w' ⟨rfl, rfl⟩)
            | (go_at_call 60; refine (need_ok _ _).mono ?_; rintro e w' ⟨rfl, rfl⟩)
            | (go_at_call 62; refine (productW _ _ _ hz' (by omega) (by omega) (by omega)).mono ?_; rintro e w1 ⟨h, l, rfl, hW, hb1⟩)
            | (go_at_call 65; refine (HQ.out _ _ _ hW.out).mono ?_; rintro e w2 hd; obtain ⟨rfl, hb2⟩ := Do.at_ok hd))
          go_ret
          exact Do.ok rfl ((((Below.refl _ _).alloc (Nat.le_refl _) _).trans (hb1.mono (by simp))).trans (hb2.mono (by have := hb1.size; simp at this; omega)))
        | error c =>
          go_enter Tryz.func64, Tryz.ntmps64
          go_wp2_with (first
            | (go_at_call 59; refine (right1_ok a _ _ HV.out (by simp [go_sem])).mono ?_; rintro e w' ⟨rfl, rfl⟩)
            | (go_at_call 57; refine (ways_ok _ _ h0 h3).mono ?_; rintro e w' ⟨rfl, rfl⟩)
            | (go_at_call 60; refine (need_ok _ _).mono ?_; rintro e w' ⟨rfl, rfl⟩)
            | (go_at_call 62; refine (productW _ _ _ hz' (by omega) (by omega) (by omega)).mono ?_; rintro e w1 ⟨h, l, rfl, hW, hb1⟩)
            | (go_at_call 65; refine (HQ.out _ _ _ hW.out).mono ?_; rintro e w2 hd; obtain ⟨rfl, hb2⟩ := Do.at_no hd))
          exact ⟨rfl, Do.no rfl ((((Below.refl _ _).alloc (Nat.le_refl _) _).trans (hb1.mono (by simp))).trans (hb2.mono (by have := hb1.size; simp at this; omega)))⟩
    · rw [if_neg hh]
      go_enter Tryz.func64, Tryz.ntmps64
      go_wp2_with (first
        | (go_at_call 59; refine (right1_ok a _ _ HV.out (by simp [go_sem])).mono ?_; rintro e w' ⟨rfl, rfl⟩)
        | (go_at_call 57; refine (ways_no _ _ (by unfold HowOk at hh; omega)).mono ?_; rintro e w' ⟨rfl, rfl⟩))
      exact ⟨rfl, Do.no rfl ((Below.refl _ _).alloc (Nat.le_refl _) _)⟩
  · rw [if_neg hv]
    have HV := Lib.hid hv
    clear hv
    go_enter Tryz.func64, Tryz.ntmps64
    go_wp2_with (go_at_call 59; refine (right1_no a _ _ HV.out (by simp [go_sem])).mono ?_; rintro e w' ⟨rfl, rfl⟩)
    exact ⟨rfl, Do.no rfl ((Below.refl _ _).alloc (Nat.le_refl _) _)⟩

set_option maxHeartbeats 1000000 in
theorem Mul_any (a b how : Int) (w : World) (hw : HowOk how → NW (sz a * sz b) 65536 (decide (a < 0) != decide (b < 0)) (119 + how.toNat)) :
    Calls Tryz.prog 14 #[.int .i64 a, .int .i64 b, .int .i64 how] w fun e w' => e = .returned (.tuple #[.int .i64 (valE 0 (mulR a b how)), .int .i64 (errE (mulR a b how))]) ∧ Below w.heap.size w w' := by
  have hmf : ∀ (fn : Fn) (first cap : Array Value) (w : World), (Instr.makeFunc fn first cap).run Tryz.prog w = .ok (.func fn first cap) w := fun _ _ _ _ => rfl
  have hcl : ∀ W, Below (((w.alloc (.cells #[.int .i64 a] 23)).alloc (.cells #[.int .i64 b] 23)).alloc (.cells #[.int .i64 how] 3)).heap.size (((w.alloc (.cells #[.int .i64 a] 23)).alloc (.cells #[.int .i64 b] 23)).alloc (.cells #[.int .i64 how] 3)) W → Calls Tryz.prog 55 #[.pointer (some ⟨w.heap.size, 0, none⟩), .pointer (some ⟨w.heap.size + 1, 0, none⟩), .pointer (some ⟨w.heap.size + 1 + 1, 0, none⟩)] W (Do W ((mulR a b how).map (.int .i64 ·))) := by
    intro W hW
    have hc := (bcell hW).1
    simp only [World.size_alloc] at hc
    have c0 : W.cell? ⟨w.heap.size, 0, none⟩ = some (.int .i64 a) := by rw [hc _ _ (by omega)]; simp [go_sem]
    have c1 : W.cell? ⟨w.heap.size + 1, 0, none⟩ = some (.int .i64 b) := by rw [hc _ _ (by omega)]; simp [go_sem]
    have c2 : W.cell? ⟨w.heap.size + 1 + 1, 0, none⟩ = some (.int .i64 how) := by rw [hc _ _ (by omega)]; simp [go_sem]
    exact cl55 _ _ _ a b how W c0 c1 c2 hw
  have HC := Lib.hid hcl
  clear hcl hw
  go_enter Tryz.func14, Tryz.ntmps14
  go_wp2_with (go_at_call 54; refine (triedFix 55 _ _ _ (enters_of Tryz.func55 (by kernel_rfl) rfl) HC.out).mono ?_; rintro e w1 ⟨rfl, hb⟩)
  go_ret2
  exact ⟨rfl, ((((Below.refl _ _).alloc (Nat.le_refl _) _).alloc (by simp) _).alloc (by simp; omega) _).trans (hb.mono (by simp; omega))⟩

set_option maxHeartbeats 1000000 in
theorem Div_any (a b how : Int) (w : World) :
    Calls Tryz.prog 15 #[.int .i64 a, .int .i64 b, .int .i64 how] w fun e w' => e = .returned (.tuple #[.int .i64 (valE 0 (divR a b how)), .int .i64 (errE (divR a b how))]) ∧ Below w.heap.size w w' := by
  have hmf : ∀ (fn : Fn) (first cap : Array Value) (w : World), (Instr.makeFunc fn first cap).run Tryz.prog w = .ok (.func fn first cap) w := fun _ _ _ _ => rfl
  have hcl : ∀ W, Below (((w.alloc (.cells #[.int .i64 a] 23)).alloc (.cells #[.int .i64 b] 23)).alloc (.cells #[.int .i64 how] 3)).heap.size (((w.alloc (.cells #[.int .i64 a] 23)).alloc (.cells #[.int .i64 b] 23)).alloc (.cells #[.int .i64 how] 3)) W → Calls Tryz.prog 58 #[.pointer (some ⟨w.heap.size, 0, none⟩), .pointer (some ⟨w.heap.size + 1, 0, none⟩), .pointer (some ⟨w.heap.size + 1 + 1, 0, none⟩)] W (Do W ((divR a b how).map (.int .i64 ·))) := by
    intro W hW
    have hc := (bcell hW).1
    simp only [World.size_alloc] at hc
    have c0 : W.cell? ⟨w.heap.size, 0, none⟩ = some (.int .i64 a) := by rw [hc _ _ (by omega)]; simp [go_sem]
    have c1 : W.cell? ⟨w.heap.size + 1, 0, none⟩ = some (.int .i64 b) := by rw [hc _ _ (by omega)]; simp [go_sem]
    have c2 : W.cell? ⟨w.heap.size + 1 + 1, 0, none⟩ = some (.int .i64 how) := by rw [hc _ _ (by omega)]; simp [go_sem]
    exact cl58 _ _ _ a b how W c0 c1 c2
  have HC := Lib.hid hcl
  clear hcl
  go_enter Tryz.func15, Tryz.ntmps15
  go_wp2_with (go_at_call 54; refine (triedFix 58 _ _ _ (enters_of Tryz.func58 (by kernel_rfl) rfl) HC.out).mono ?_; rintro e w1 ⟨rfl, hb⟩)
  go_ret2
  exact ⟨rfl, ((((Below.refl _ _).alloc (Nat.le_refl _) _).alloc (by simp) _).alloc (by simp; omega) _).trans (hb.mono (by simp; omega))⟩

set_option maxHeartbeats 1000000 in
theorem Scale_any (a num den how : Int) (w : World) (hw : Val a ∧ HowOk how ∧ RateOk num ∧ RateOk den ∧ den ≠ 0 → NW (sz a * sz num) (sz den) (decide (a < 0) != (decide (num < 0) != decide (den < 0))) (119 + how.toNat)) :
    Calls Tryz.prog 34 #[.int .i64 a, .int .i64 num, .int .i64 den, .int .i64 how] w fun e w' => e = .returned (.tuple #[.int .i64 (valE 0 (scaleR a num den how)), .int .i64 (errE (scaleR a num den how))]) ∧ Below w.heap.size w w' := by
  have hmf : ∀ (fn : Fn) (first cap : Array Value) (w : World), (Instr.makeFunc fn first cap).run Tryz.prog w = .ok (.func fn first cap) w := fun _ _ _ _ => rfl
  have hcl : ∀ W, Below ((((w.alloc (.cells #[.int .i64 a] 23)).alloc (.cells #[.int .i64 num] 3)).alloc (.cells #[.int .i64 den] 3)).alloc (.cells #[.int .i64 how] 3)).heap.size ((((w.alloc (.cells #[.int .i64 a] 23)).alloc (.cells #[.int .i64 num] 3)).alloc (.cells #[.int .i64 den] 3)).alloc (.cells #[.int .i64 how] 3)) W → Calls Tryz.prog 88 #[.pointer (some ⟨w.heap.size, 0, none⟩), .pointer (some ⟨w.heap.size + 1 + 1 + 1, 0, none⟩), .pointer (some ⟨w.heap.size + 1, 0, none⟩), .pointer (some ⟨w.heap.size + 1 + 1, 0, none⟩)] W (Do W ((scaleR a num den how).map (.int .i64 ·))) := by
    intro W hW
    have hc := (bcell hW).1
    simp only [World.size_alloc] at hc
    have c0 : W.cell? ⟨w.heap.size, 0, none⟩ = some (.int .i64 a) := by rw [hc _ _ (by omega)]; simp [go_sem]
    have c1 : W.cell? ⟨w.heap.size + 1, 0, none⟩ = some (.int .i64 num) := by rw [hc _ _ (by omega)]; simp [go_sem]
    have c2 : W.cell? ⟨w.heap.size + 1 + 1, 0, none⟩ = some (.int .i64 den) := by rw [hc _ _ (by omega)]; simp [go_sem]
    have c3 : W.cell? ⟨w.heap.size + 1 + 1 + 1, 0, none⟩ = some (.int .i64 how) := by rw [hc _ _ (by omega)]; simp [go_sem]
    exact cl88 _ _ _ _ a how num den W c0 c3 c1 c2 hw
  have HC := Lib.hid hcl
  clear hcl hw
  go_enter Tryz.func34, Tryz.ntmps34
  go_wp2_with (go_at_call 54; refine (triedFix 88 _ _ _ (enters_of Tryz.func88 (by kernel_rfl) rfl) HC.out).mono ?_; rintro e w1 ⟨rfl, hb⟩)
  go_ret2
  exact ⟨rfl, (((((Below.refl _ _).alloc (Nat.le_refl _) _).alloc (by simp) _).alloc (by simp; omega) _).alloc (by simp; omega) _).trans (hb.mono (by simp; omega))⟩

set_option maxHeartbeats 1000000 in
theorem Int_any (a how : Int) (w : World) :
    Calls Tryz.prog 19 #[.int .i64 a, .int .i64 how] w fun e w' => e = .returned (.tuple #[.int .i64 (valE 0 (intR a how)), .int .i64 (errE (intR a how))]) ∧ Below w.heap.size w w' := by
  have hmf : ∀ (fn : Fn) (first cap : Array Value) (w : World), (Instr.makeFunc fn first cap).run Tryz.prog w = .ok (.func fn first cap) w := fun _ _ _ _ => rfl
  have hcl : ∀ W, Below ((w.alloc (.cells #[.int .i64 a] 23)).alloc (.cells #[.int .i64 how] 3)).heap.size ((w.alloc (.cells #[.int .i64 a] 23)).alloc (.cells #[.int .i64 how] 3)) W → Calls Tryz.prog 68 #[.pointer (some ⟨w.heap.size, 0, none⟩), .pointer (some ⟨w.heap.size + 1, 0, none⟩)] W (Do W ((intR a how).map (.int .i64 ·))) := by
    intro W hW
    have hc := (bcell hW).1
    simp only [World.size_alloc] at hc
    have c0 : W.cell? ⟨w.heap.size, 0, none⟩ = some (.int .i64 a) := by rw [hc _ _ (by omega)]; simp [go_sem]
    have c1 : W.cell? ⟨w.heap.size + 1, 0, none⟩ = some (.int .i64 how) := by rw [hc _ _ (by omega)]; simp [go_sem]
    exact cl68 _ _ a how W c0 c1
  have HC := Lib.hid hcl
  clear hcl
  go_enter Tryz.func19, Tryz.ntmps19
  go_wp2_with (go_at_call 67; refine (triedInt 68 _ _ _ (enters_of Tryz.func68 (by kernel_rfl) rfl) HC.out).mono ?_; rintro e w1 ⟨rfl, hb⟩)
  go_ret2
  exact ⟨rfl, (((Below.refl _ _).alloc (Nat.le_refl _) _).alloc (by simp) _).trans (hb.mono (by simp; omega))⟩

set_option maxHeartbeats 1000000 in
theorem Root_any (a how : Int) (w : World) :
    Calls Tryz.prog 16 #[.int .i64 a, .int .i64 how] w fun e w' => e = .returned (.tuple #[.int .i64 (valE 0 (rootR a how)), .int .i64 (errE (rootR a how))]) ∧ Below w.heap.size w w' := by
  have hmf : ∀ (fn : Fn) (first cap : Array Value) (w : World), (Instr.makeFunc fn first cap).run Tryz.prog w = .ok (.func fn first cap) w := fun _ _ _ _ => rfl
  have hcl : ∀ W, Below ((w.alloc (.cells #[.int .i64 a] 23)).alloc (.cells #[.int .i64 how] 3)).heap.size ((w.alloc (.cells #[.int .i64 a] 23)).alloc (.cells #[.int .i64 how] 3)) W → Calls Tryz.prog 64 #[.pointer (some ⟨w.heap.size, 0, none⟩), .pointer (some ⟨w.heap.size + 1, 0, none⟩)] W (Do W ((rootR a how).map (.int .i64 ·))) := by
    intro W hW
    have hc := (bcell hW).1
    simp only [World.size_alloc] at hc
    have c0 : W.cell? ⟨w.heap.size, 0, none⟩ = some (.int .i64 a) := by rw [hc _ _ (by omega)]; simp [go_sem]
    have c1 : W.cell? ⟨w.heap.size + 1, 0, none⟩ = some (.int .i64 how) := by rw [hc _ _ (by omega)]; simp [go_sem]
    exact cl64 _ _ a how W c0 c1
  have HC := Lib.hid hcl
  clear hcl
  go_enter Tryz.func16, Tryz.ntmps16
  go_wp2_with (go_at_call 54; refine (triedFix 64 _ _ _ (enters_of Tryz.func64 (by kernel_rfl) rfl) HC.out).mono ?_; rintro e w1 ⟨rfl, hb⟩)
  go_ret2
  exact ⟨rfl, (((Below.refl _ _).alloc (Nat.le_refl _) _).alloc (by simp) _).trans (hb.mono (by simp; omega))⟩
end Go.Proofs.YthkhhjfldkebcaaGreatDoor
