/- What four comes to at each closure of FixedRounds. -/
import Derived.Test.YthkhhjfldkebcaaGreatDoorO2
import Derived.Test.YthkhhjfldkebcaaGreatDoorO3
namespace Go.Proofs.YthkhhjfldkebcaaGreatDoor
open Go.RowKit Go.Proofs Go.Shelf

/-- Four results of a closure: one of them has an error, or they go together, and the turned ones are those turned. -/
def Alt (f : FuncId) (caps : Array Value) (a : Int) (C : World → Prop) : Prop :=
  (∃ l0 l1 l2 l3 : Int, ∀ W cp ap, C W → W.cell? ⟨cp, 0, none⟩ = some (.func (.func f) #[] caps) → W.cell? ⟨ap, 0, none⟩ = some (.int .i64 a) →
    Calls Tryz.prog 35 #[.func (.func 36) #[] #[.pointer (some ⟨cp, 0, none⟩), .pointer (some ⟨ap, 0, none⟩)]] W fun e w' => e = .returned (.tuple #[.agg #[.int .i64 l0, .int .i64 l1, .int .i64 l2, .int .i64 l3], .bool false]) ∧ Below W.heap.size W w') ∨
  (∃ l0 l1 l2 l3 : Int, Together l0 l1 l2 l3 ∧ (∀ W cp ap, C W → W.cell? ⟨cp, 0, none⟩ = some (.func (.func f) #[] caps) → W.cell? ⟨ap, 0, none⟩ = some (.int .i64 a) →
    Calls Tryz.prog 35 #[.func (.func 36) #[] #[.pointer (some ⟨cp, 0, none⟩), .pointer (some ⟨ap, 0, none⟩)]] W fun e w' => e = .returned (.tuple #[.agg #[.int .i64 l0, .int .i64 l1, .int .i64 l2, .int .i64 l3], .bool true]) ∧ Below W.heap.size W w') ∧
    (∀ W cp ap, C W → W.cell? ⟨cp, 0, none⟩ = some (.func (.func f) #[] caps) → W.cell? ⟨ap, 0, none⟩ = some (.int .i64 a) →
    Calls Tryz.prog 35 #[.func (.func 37) #[] #[.pointer (some ⟨cp, 0, none⟩), .pointer (some ⟨ap, 0, none⟩)]] W fun e w' => e = .returned (.tuple #[.agg #[.int .i64 (-l0), .int .i64 (-l2), .int .i64 (-l1), .int .i64 (-l3)], .bool true]) ∧ Below W.heap.size W w'))

theorem ok_of {r : Except Int Int} (h : errE r = 0) (hc : ∀ c, r = .error c → c ≠ 0) : r = .ok (valE 0 r) := by
  cases r with
  | ok v => rfl
  | error c => exact absurd h (hc c rfl)

theorem alt_of (f : FuncId) (caps : Array Value) (a : Int) (R : Int → Int → Except Int Int) (C : World → Prop) (hC : ∀ W W', C W → Below W.heap.size W W' → C W')
    (hf : ∀ args w, (callFunc f args).run Tryz.prog w = .ok (.enter f args) w) (hne : ∀ x k c, R x k = .error c → c ≠ 0)
    (hcl : ∀ x, x = a ∨ x = -a → ∀ k : Nat, k < 4 → (k = 0 ∨ errE (R x 0) = 0) → ∀ W, C W → Calls Tryz.prog f (#[.int .i64 x, .int .i64 k] ++ caps) W fun e w' => e = .returned (.tuple #[.int .i64 (valE 0 (R x k)), .int .i64 (errE (R x k))]) ∧ Below W.heap.size W w')
    (hplain : ∀ l0 l1 l2 l3, R a 0 = .ok l0 → R a 1 = .ok l1 → R a 2 = .ok l2 → R a 3 = .ok l3 → Val a ∧ Together l0 l1 l2 l3 ∧ R (-a) 0 = .ok (-l0) ∧ R (-a) 1 = .ok (-l2) ∧ R (-a) 2 = .ok (-l1) ∧ R (-a) 3 = .ok (-l3)) :
    Alt f caps a C := by
  have c36 : ∀ W cp ap, C W → W.cell? ⟨cp, 0, none⟩ = some (.func (.func f) #[] caps) → W.cell? ⟨ap, 0, none⟩ = some (.int .i64 a) → ∀ N : Nat, N ≤ 4 → (∀ j : Nat, j < N → errE (R a j) = 0) → (N < 4 → errE (R a N) ≠ 0) →
      Calls Tryz.prog 35 #[.func (.func 36) #[] #[.pointer (some ⟨cp, 0, none⟩), .pointer (some ⟨ap, 0, none⟩)]] W fun e w' => e = .returned (.tuple #[.agg #[.int .i64 (gV (fun k => valE 0 (R a k)) N 0), .int .i64 (gV (fun k => valE 0 (R a k)) N 1), .int .i64 (gV (fun k => valE 0 (R a k)) N 2), .int .i64 (gV (fun k => valE 0 (R a k)) N 3)], .bool (decide (N = 4))]) ∧ Below W.heap.size W w' := by
    intro W cp ap hW hcp hap N hN hE hS
    refine four_gen 36 _ (fun k => valE 0 (R a k)) (fun k => errE (R a k)) N W (enters_of Tryz.func36 (by kernel_rfl) rfl) ?_ hN hE hS
    intro k hk hj W' hb
    exact cl36 f caps a k _ _ cp ap W' hf (upc hcp hb) (upc hap hb) (hcl a (.inl rfl) k hk (by rcases Nat.eq_zero_or_pos k with h | h; exact .inl h; exact .inr (by simpa using hj 0 h)) W' (hC _ _ hW hb))
  by_cases e0 : errE (R a 0) = 0
  · by_cases e1 : errE (R a 1) = 0
    · by_cases e2 : errE (R a 2) = 0
      · by_cases e3 : errE (R a 3) = 0
        · have o0 := ok_of e0 (hne _ _)
          have o1 := ok_of e1 (hne _ _)
          have o2 := ok_of e2 (hne _ _)
          have o3 := ok_of e3 (hne _ _)
          obtain ⟨hv, ht, m0, m1, m2, m3⟩ := hplain _ _ _ _ o0 o1 o2 o3
          refine .inr ⟨valE 0 (R a 0), valE 0 (R a 1), valE 0 (R a 2), valE 0 (R a 3), ht, ?_, ?_⟩
          · intro W cp ap hW hcp hap
            have := c36 W cp ap hW hcp hap 4 (Nat.le_refl _) (fun j hj => by
              have : j = 0 ∨ j = 1 ∨ j = 2 ∨ j = 3 := by omega
              rcases this with rfl | rfl | rfl | rfl
              · exact e0
              · exact e1
              · exact e2
              · exact e3) (fun h => absurd h (by decide))
            simpa [gV] using this
          · intro W cp ap hW hcp hap
            have := four_gen 37 #[.pointer (some ⟨cp, 0, none⟩), .pointer (some ⟨ap, 0, none⟩)] (fun k => valE 0 (R (-a) k)) (fun k => errE (R (-a) k)) 4 W (enters_of Tryz.func37 (by kernel_rfl) rfl) (by
              intro k hk _ W' hb
              exact cl37 f caps a k _ _ cp ap W' hf (upc hcp hb) (upc hap hb) hv.1 hv.2 (hcl (-a) (.inr rfl) k hk (.inr (by rw [m0]; rfl)) W' (hC _ _ hW hb))) (Nat.le_refl _) (fun j hj => by
              have : j = 0 ∨ j = 1 ∨ j = 2 ∨ j = 3 := by omega
              rcases this with rfl | rfl | rfl | rfl
              · show errE (R (-a) 0) = 0; rw [m0]; rfl
              · show errE (R (-a) 1) = 0; rw [m1]; rfl
              · show errE (R (-a) 2) = 0; rw [m2]; rfl
              · show errE (R (-a) 3) = 0; rw [m3]; rfl) (fun h => absurd h (by decide))
            have g0 : gV (fun k => valE 0 (R (-a) k)) 4 0 = -valE 0 (R a 0) := by show valE 0 (R (-a) 0) = _; rw [m0]; rfl
            have g1 : gV (fun k => valE 0 (R (-a) k)) 4 1 = -valE 0 (R a 2) := by show valE 0 (R (-a) 1) = _; rw [m1]; rfl
            have g2 : gV (fun k => valE 0 (R (-a) k)) 4 2 = -valE 0 (R a 1) := by show valE 0 (R (-a) 2) = _; rw [m2]; rfl
            have g3 : gV (fun k => valE 0 (R (-a) k)) 4 3 = -valE 0 (R a 3) := by show valE 0 (R (-a) 3) = _; rw [m3]; rfl
            rw [g0, g1, g2, g3] at this
            exact this
        · exact .inl ⟨_, _, _, _, fun W cp ap hW hcp hap => c36 W cp ap hW hcp hap 3 (by decide) (fun j hj => by
            have : j = 0 ∨ j = 1 ∨ j = 2 := by omega
            rcases this with rfl | rfl | rfl
            · exact e0
            · exact e1
            · exact e2) (fun _ => e3)⟩
      · exact .inl ⟨_, _, _, _, fun W cp ap hW hcp hap => c36 W cp ap hW hcp hap 2 (by decide) (fun j hj => by
          have : j = 0 ∨ j = 1 := by omega
          rcases this with rfl | rfl
          · exact e0
          · exact e1) (fun _ => e2)⟩
    · exact .inl ⟨_, _, _, _, fun W cp ap hW hcp hap => c36 W cp ap hW hcp hap 1 (by decide) (fun j hj => by
        obtain rfl : j = 0 := by omega
        exact e0) (fun _ => e1)⟩
  · exact .inl ⟨_, _, _, _, fun W cp ap hW hcp hap => c36 W cp ap hW hcp hap 0 (by decide) (fun j hj => absurd hj (by omega)) (fun _ => e0)⟩

theorem quo_err {n d : Int} {neg : Bool} {k : Nat} {c : Int} (h : quoR n d neg k = .error c) : c ≠ 0 := by
  unfold quoR fitR at h
  split at h
  · cases h; decide
  · split at h
    · cases h
    · cases h; decide
theorem nw_cut (n d : Int) (neg : Bool) : NW n d neg 119 := by
  intro h; rw [bump119]; simp only [b2i, Bool.false_eq_true, if_false]; omega
theorem nw_of {n d : Int} {neg : Bool} (h : errE (quoR n d neg 119) = 0) (k : Nat) : NW n d neg k := by
  obtain ⟨-, h2, -⟩ := quo_ok (ok_of h (fun c => quo_err))
  rw [bump119] at h2
  simp only [b2i, Bool.false_eq_true, if_false] at h2
  intro _
  have := b2i_le (bump k (n % d) d neg)
  omega
theorem neg_lt (a : Int) (h : ¬ a = 0) : decide (-a < 0) = !decide (a < 0) := by
  by_cases h1 : a < 0
  · simp [h1]; omega
  · simp [h1]; omega
theorem HowOk4 (k : Nat) (hk : k < 4) : HowOk (k : Int) := ⟨by omega, by omega⟩
theorem val_neg {a : Int} (h : Val a) : Val (-a) := ⟨by have := h.2; omega, by have := h.1; omega⟩

theorem alt_mul (a b : Int) (p : Nat) : Alt 31 #[.pointer (some ⟨p, 0, none⟩)] a (fun W => W.cell? ⟨p, 0, none⟩ = some (.int .i64 b)) := by
  refine alt_of 31 _ a (fun x k => mulR x b k) _ (fun W W' h hb => upc h hb) (enters_of Tryz.func31 (by kernel_rfl) rfl) ?_ ?_ ?_
  · intro x k c h
    change mulR x b k = _ at h
    unfold mulR mulQ at h
    split at h
    · split at h
      · exact quo_err h
      · cases h; decide
    · cases h; decide
  · intro x _ k hk h0 W hW
    refine cl31 x b k p W hW (fun hh => ?_)
    rcases h0 with rfl | h0
    · exact nw_cut _ _ _
    · change errE (mulR x b 0) = 0 at h0
      unfold mulR mulQ at h0
      rw [if_pos (by decide)] at h0
      split at h0
      · exact nw_of h0 _
      · cases h0
  · intro l0 l1 l2 l3 h0 h1 h2 h3
    change mulR a b 0 = _ at h0; change mulR a b 1 = _ at h1; change mulR a b 2 = _ at h2; change mulR a b 3 = _ at h3
    by_cases hv : Val a ∧ Val b
    · have e : ∀ x how, Val x → HowOk how → mulR x b how = quoR (sz x * sz b) 65536 (decide (x < 0) != decide (b < 0)) (119 + how.toNat) := fun x how hx hh => by unfold mulR mulQ; rw [if_pos hh, if_pos ⟨hx, hv.2⟩]
      rw [e a _ hv.1 (by decide)] at h0 h1 h2 h3
      obtain ⟨t, turn⟩ := quo_four (Int.mul_nonneg (sz_nn a) (sz_nn b)) (by decide) h0 h1 h2 h3
      obtain ⟨m0, m1, m2, m3⟩ := turn (decide (-a < 0) != decide (b < 0)) (by
        by_cases ha : a = 0
        · right; subst ha; show sz 0 * sz b = 0; simp [sz]
        · left; rw [neg_lt a ha]; cases decide (a < 0) <;> cases decide (b < 0) <;> rfl)
      refine ⟨hv.1, t, ?_, ?_, ?_, ?_⟩
      · show mulR (-a) b 0 = _; rw [e _ _ (val_neg hv.1) (by decide), sz_neg]; exact m0
      · show mulR (-a) b 1 = _; rw [e _ _ (val_neg hv.1) (by decide), sz_neg]; exact m1
      · show mulR (-a) b 2 = _; rw [e _ _ (val_neg hv.1) (by decide), sz_neg]; exact m2
      · show mulR (-a) b 3 = _; rw [e _ _ (val_neg hv.1) (by decide), sz_neg]; exact m3
    · unfold mulR mulQ at h0; rw [if_pos (by decide), if_neg hv] at h0; cases h0

theorem alt_div (a b : Int) (p : Nat) : Alt 32 #[.pointer (some ⟨p, 0, none⟩)] a (fun W => W.cell? ⟨p, 0, none⟩ = some (.int .i64 b)) := by
  refine alt_of 32 _ a (fun x k => divR x b k) _ (fun W W' h hb => upc h hb) (enters_of Tryz.func32 (by kernel_rfl) rfl) ?_ ?_ ?_
  · intro x k c h
    change divR x b k = _ at h
    unfold divR at h
    split at h
    · split at h
      · split at h
        · cases h; decide
        · exact quo_err h
      · cases h; decide
    · cases h; decide
  · intro x _ k hk h0 W hW
    exact cl32 x b k p W hW
  · intro l0 l1 l2 l3 h0 h1 h2 h3
    change divR a b 0 = _ at h0; change divR a b 1 = _ at h1; change divR a b 2 = _ at h2; change divR a b 3 = _ at h3
    by_cases hv : Val a ∧ Val b
    · by_cases hb : b = 0
      · unfold divR at h0; rw [if_pos hv, if_pos (by decide), if_pos hb] at h0; cases h0
      have e : ∀ x how, Val x → HowOk how → divR x b how = quoR (sz x * 65536) (sz b) (decide (x < 0) != decide (b < 0)) (119 + how.toNat) := fun x how hx hh => by unfold divR; rw [if_pos ⟨hx, hv.2⟩, if_pos hh, if_neg hb]
      rw [e a _ hv.1 (by decide)] at h0 h1 h2 h3
      have hd : 0 < sz b := by unfold sz; split <;> omega
      obtain ⟨t, turn⟩ := quo_four (Int.mul_nonneg (sz_nn a) (by decide)) hd h0 h1 h2 h3
      obtain ⟨m0, m1, m2, m3⟩ := turn (decide (-a < 0) != decide (b < 0)) (by
        by_cases ha : a = 0
        · right; subst ha; show sz 0 * _ = 0; simp [sz]
        · left; rw [neg_lt a ha]; cases decide (a < 0) <;> cases decide (b < 0) <;> rfl)
      refine ⟨hv.1, t, ?_, ?_, ?_, ?_⟩
      · show divR (-a) b 0 = _; rw [e _ _ (val_neg hv.1) (by decide), sz_neg]; exact m0
      · show divR (-a) b 1 = _; rw [e _ _ (val_neg hv.1) (by decide), sz_neg]; exact m1
      · show divR (-a) b 2 = _; rw [e _ _ (val_neg hv.1) (by decide), sz_neg]; exact m2
      · show divR (-a) b 3 = _; rw [e _ _ (val_neg hv.1) (by decide), sz_neg]; exact m3
    · unfold divR at h0; rw [if_neg hv] at h0; cases h0

theorem alt_scale (a num den : Int) (p q : Nat) : Alt 33 #[.pointer (some ⟨p, 0, none⟩), .pointer (some ⟨q, 0, none⟩)] a (fun W => W.cell? ⟨p, 0, none⟩ = some (.int .i64 num) ∧ W.cell? ⟨q, 0, none⟩ = some (.int .i64 den)) := by
  refine alt_of 33 _ a (fun x k => scaleR x num den k) _ (fun W W' h hb => ⟨upc h.1 hb, upc h.2 hb⟩) (enters_of Tryz.func33 (by kernel_rfl) rfl) ?_ ?_ ?_
  · intro x k c h
    change scaleR x num den k = _ at h
    unfold scaleR at h
    split at h
    · split at h
      · split at h
        · split at h
          · cases h; decide
          · exact quo_err h
        · cases h; decide
      · cases h; decide
    · cases h; decide
  · intro x _ k hk h0 W hW
    refine cl33 x num den k p q W hW.1 hW.2 (fun hh => ?_)
    obtain ⟨g1, g2, g3, g4, g5⟩ := hh
    rcases h0 with rfl | h0
    · exact nw_cut _ _ _
    · change errE (scaleR x num den 0) = 0 at h0
      unfold scaleR at h0
      rw [if_pos g1, if_pos (by decide), if_pos ⟨g3, g4⟩, if_neg g5] at h0
      exact nw_of h0 _
  · intro l0 l1 l2 l3 h0 h1 h2 h3
    change scaleR a num den 0 = _ at h0; change scaleR a num den 1 = _ at h1; change scaleR a num den 2 = _ at h2; change scaleR a num den 3 = _ at h3
    by_cases hv : Val a
    · by_cases hr : RateOk num ∧ RateOk den
      · by_cases hb : den = 0
        · unfold scaleR at h0; rw [if_pos hv, if_pos (by decide), if_pos hr, if_pos hb] at h0; cases h0
        have e : ∀ x how, Val x → HowOk how → scaleR x num den how = quoR (sz x * sz num) (sz den) (decide (x < 0) != (decide (num < 0) != decide (den < 0))) (119 + how.toNat) := fun x how hx hh => by unfold scaleR; rw [if_pos hx, if_pos hh, if_pos hr, if_neg hb]
        rw [e a _ hv (by decide)] at h0 h1 h2 h3
        have hd : 0 < sz den := by unfold sz; split <;> omega
        obtain ⟨t, turn⟩ := quo_four (Int.mul_nonneg (sz_nn a) (sz_nn num)) hd h0 h1 h2 h3
        obtain ⟨m0, m1, m2, m3⟩ := turn (decide (-a < 0) != (decide (num < 0) != decide (den < 0))) (by
          by_cases ha : a = 0
          · right; subst ha; show sz 0 * _ = 0; simp [sz]
          · left; rw [neg_lt a ha]; cases decide (a < 0) <;> cases (decide (num < 0) != decide (den < 0)) <;> rfl)
        refine ⟨hv, t, ?_, ?_, ?_, ?_⟩
        · show scaleR (-a) num den 0 = _; rw [e _ _ (val_neg hv) (by decide), sz_neg]; exact m0
        · show scaleR (-a) num den 1 = _; rw [e _ _ (val_neg hv) (by decide), sz_neg]; exact m1
        · show scaleR (-a) num den 2 = _; rw [e _ _ (val_neg hv) (by decide), sz_neg]; exact m2
        · show scaleR (-a) num den 3 = _; rw [e _ _ (val_neg hv) (by decide), sz_neg]; exact m3
      · unfold scaleR at h0; rw [if_pos hv, if_pos (by decide), if_neg hr] at h0; cases h0
    · unfold scaleR at h0; rw [if_neg hv] at h0; cases h0

/-- The four results of a root. -/
def AltR (a : Int) : Prop :=
  (∃ l0 l1 l2 l3 : Int, ∀ W ap, W.cell? ⟨ap, 0, none⟩ = some (.int .i64 a) →
    Calls Tryz.prog 35 #[.func (.func 39) #[] #[.pointer (some ⟨ap, 0, none⟩)]] W fun e w' => e = .returned (.tuple #[.agg #[.int .i64 l0, .int .i64 l1, .int .i64 l2, .int .i64 l3], .bool false]) ∧ Below W.heap.size W w') ∨
  (∃ l0 l1 l2 l3 : Int, Together l0 l1 l2 l3 ∧ 0 ≤ l1 ∧ (∀ W ap, W.cell? ⟨ap, 0, none⟩ = some (.int .i64 a) →
    Calls Tryz.prog 35 #[.func (.func 39) #[] #[.pointer (some ⟨ap, 0, none⟩)]] W fun e w' => e = .returned (.tuple #[.agg #[.int .i64 l0, .int .i64 l1, .int .i64 l2, .int .i64 l3], .bool true]) ∧ Below W.heap.size W w'))
theorem fit_err {q : Int} {n : Bool} {c : Int} (h : fitR q n = .error c) : c ≠ 0 := by
  unfold fitR at h
  split at h
  · cases h
  · cases h; decide
theorem alt_root (a : Int) : AltR a := by
  have hne : ∀ k c, rootR a k = .error c → c ≠ 0 := by
    intro k c h
    unfold rootR rooR at h
    split at h
    · split at h
      · split at h
        · cases h; decide
        · exact fit_err h
      · cases h; decide
    · cases h; decide
  have c39 : ∀ W ap, W.cell? ⟨ap, 0, none⟩ = some (.int .i64 a) → ∀ N : Nat, N ≤ 4 → (∀ j : Nat, j < N → errE (rootR a j) = 0) → (N < 4 → errE (rootR a N) ≠ 0) →
      Calls Tryz.prog 35 #[.func (.func 39) #[] #[.pointer (some ⟨ap, 0, none⟩)]] W fun e w' => e = .returned (.tuple #[.agg #[.int .i64 (gV (fun k => valE 0 (rootR a k)) N 0), .int .i64 (gV (fun k => valE 0 (rootR a k)) N 1), .int .i64 (gV (fun k => valE 0 (rootR a k)) N 2), .int .i64 (gV (fun k => valE 0 (rootR a k)) N 3)], .bool (decide (N = 4))]) ∧ Below W.heap.size W w' := by
    intro W ap hap N hN hE hS
    refine four_gen 39 _ (fun k => valE 0 (rootR a k)) (fun k => errE (rootR a k)) N W (enters_of Tryz.func39 (by kernel_rfl) rfl) ?_ hN hE hS
    intro k hk hj W' hb
    exact cl39 a k ap W' (upc hap hb)
  by_cases e0 : errE (rootR a 0) = 0
  · by_cases e1 : errE (rootR a 1) = 0
    · by_cases e2 : errE (rootR a 2) = 0
      · by_cases e3 : errE (rootR a 3) = 0
        · have o0 := ok_of e0 (hne _)
          have o1 := ok_of e1 (hne _)
          have o2 := ok_of e2 (hne _)
          have o3 := ok_of e3 (hne _)
          have hv : Val a := by
            by_cases h : Val a
            · exact h
            · unfold rootR at o0; rw [if_neg h] at o0; cases o0
          have h0 : ¬ a < 0 := by
            intro h
            unfold rootR at o0; rw [if_pos hv, if_pos (by decide), if_pos h] at o0; cases o0
          have e : ∀ how, HowOk how → rootR a how = rooR (a * 65536) (119 + how.toNat) := fun how hh => by unfold rootR; rw [if_pos hv, if_pos hh, if_neg h0]
          have o0' := o0; have o1' := o1; have o2' := o2; have o3' := o3
          rw [e 0 (by decide)] at o0'
          rw [e 1 (by decide)] at o1'
          rw [e 2 (by decide)] at o2'
          rw [e 3 (by decide)] at o3'
          obtain ⟨t, t1⟩ := roo_four (by omega) o0' o1' o2' o3'
          rw [← e 0 (by decide), ← e 1 (by decide), ← e 2 (by decide), ← e 3 (by decide)] at t
          rw [← e 1 (by decide)] at t1
          refine .inr ⟨valE 0 (rootR a 0), valE 0 (rootR a 1), valE 0 (rootR a 2), valE 0 (rootR a 3), t, t1, ?_⟩
          intro W ap hap
          have := c39 W ap hap 4 (Nat.le_refl _) (fun j hj => by
            have : j = 0 ∨ j = 1 ∨ j = 2 ∨ j = 3 := by omega
            rcases this with rfl | rfl | rfl | rfl
            · exact e0
            · exact e1
            · exact e2
            · exact e3) (fun h => absurd h (by decide))
          simpa [gV] using this
        · exact .inl ⟨_, _, _, _, fun W ap hap => c39 W ap hap 3 (by decide) (fun j hj => by
            have : j = 0 ∨ j = 1 ∨ j = 2 := by omega
            rcases this with rfl | rfl | rfl
            · exact e0
            · exact e1
            · exact e2) (fun _ => e3)⟩
      · exact .inl ⟨_, _, _, _, fun W ap hap => c39 W ap hap 2 (by decide) (fun j hj => by
          have : j = 0 ∨ j = 1 := by omega
          rcases this with rfl | rfl
          · exact e0
          · exact e1) (fun _ => e2)⟩
    · exact .inl ⟨_, _, _, _, fun W ap hap => c39 W ap hap 1 (by decide) (fun j hj => by
        obtain rfl : j = 0 := by omega
        exact e0) (fun _ => e1)⟩
  · exact .inl ⟨_, _, _, _, fun W ap hap => c39 W ap hap 0 (by decide) (fun j hj => absurd hj (by omega)) (fun _ => e0)⟩
end Go.Proofs.YthkhhjfldkebcaaGreatDoor
