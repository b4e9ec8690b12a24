/- Plain law: a number is read from its text as it was. -/
import Derived.Test.YthkhhjfldkebcaaGreatDoorTx
import Derived.Test.YthkhhjfldkebcaaGreatDoorP5
namespace Go.Proofs.YthkhhjfldkebcaaGreatDoor
open Go.RowKit Go.Proofs Go.Shelf

theorem dval_snoc : ∀ (l : List Nat) (d : Nat), dval (l ++ [d]) = dval l * 10 + d
  | [], d => by simp [dval]
  | e :: l, d => by
    have ih := dval_snoc l d
    simp only [List.cons_append, dval, ih, List.length_append, List.length_cons, List.length_nil]
    rw [Nat.pow_succ]; grind
theorem numN_snoc (l : List UInt8) (b : UInt8) : numN (l ++ [b]) = numN l * 10 + (b.toNat - 48) := by
  unfold numN digs; rw [List.map_append]; exact dval_snoc _ _
theorem numN_cons (b : UInt8) (l : List UInt8) : numN (b :: l) = (b.toNat - 48) * 10 ^ l.length + numN l := by
  unfold numN digs; simp [dval]
theorem ofNat_dig {d : Nat} (h : d ≤ 9) : (UInt8.ofNat (48 + d)).toNat = 48 + d := by simp; omega
theorem isDig_ofNat {d : Nat} (h : d ≤ 9) : isDig (UInt8.ofNat (48 + d)) = true := by unfold isDig; rw [ofNat_dig h]; simp; omega

theorem dd_all (u : Nat) : (Lib.decDigits u).all isDig = true ∧ Lib.decDigits u ≠ [] ∧ numN (Lib.decDigits u) = u ∧ (1 ≤ u → (Lib.decDigits u).getD 0 0 ≠ 48) := by
  induction u using Nat.strongRecOn with
  | _ u ih =>
    rw [Lib.decDigits]
    by_cases h : u < 10
    · rw [dif_pos h]
      refine ⟨by simp only [List.all_cons, List.all_nil, isDig_ofNat (show u ≤ 9 by omega), Bool.and_true], by simp, ?_, ?_⟩
      · rw [numN_cons, ofNat_dig (by omega)]; simp [numN, digs, dval]
      · intro h1 e
        have : (UInt8.ofNat (48 + u)).toNat = 48 := by rw [show UInt8.ofNat (48 + u) = 48 from e]; rfl
        rw [ofNat_dig (by omega)] at this; omega
    · rw [dif_neg h]
      obtain ⟨i1, i2, i3, i4⟩ := ih (u / 10) (by omega)
      refine ⟨by rw [List.all_append, i1]; simp only [List.all_cons, List.all_nil, isDig_ofNat (show u % 10 ≤ 9 by omega), Bool.and_true], by simp, ?_, ?_⟩
      · rw [numN_snoc, i3, ofNat_dig (by omega)]; omega
      · intro _
        have := i4 (by omega)
        cases hd : Lib.decDigits (u / 10) with
        | nil => exact absurd hd i2
        | cons b l => rw [hd] at this; simpa using this

theorem index_none : ∀ l : List UInt8, (∀ b ∈ l, b ≠ 46) → Lib.index l [46] = -1
  | [], _ => rfl
  | b :: l, h => by
    have ih := index_none l (fun c hc => h c (List.mem_cons_of_mem _ hc))
    have hb : ¬ (46 = b) := fun e => h b List.mem_cons_self e.symm
    simp [Lib.index, ih, hb]
theorem index_some : ∀ (l F : List UInt8), (∀ b ∈ l, b ≠ 46) → Lib.index (l ++ 46 :: F) [46] = l.length
  | [], F, _ => by simp [Lib.index]
  | b :: l, F, h => by
    have ih := index_some l F (fun c hc => h c (List.mem_cons_of_mem _ hc))
    have hb : ¬ (46 = b) := fun e => h b List.mem_cons_self e.symm
    have : ¬ ((l.length : Int) = -1) := by omega
    simp [Lib.index, ih, hb, this]
theorem cut_nodot {l : List UInt8} (h : ∀ b ∈ l, b ≠ 46) : Lib.cut l [46] = (l, [], false) := by
  unfold Lib.cut; rw [index_none l h]; rfl
theorem cut_dot {l F : List UInt8} (h : ∀ b ∈ l, b ≠ 46) : Lib.cut (l ++ 46 :: F) [46] = (l, F, true) := by
  unfold Lib.cut; rw [index_some l F h, if_pos (by omega)]
  show (List.take l.length (l ++ 46 :: F), List.drop (l.length + 1) (l ++ 46 :: F), true) = (l, F, true)
  have e : ∀ l : List UInt8, List.drop (l.length + 1) (l ++ 46 :: F) = F := by
    intro l
    induction l with
    | nil => rfl
    | cons b l _ => simp
  rw [List.take_left' rfl, e]
theorem no_dot {l : List UInt8} (h : l.all isDig = true) : ∀ b ∈ l, b ≠ 46 := by
  intro b hb e
  have := List.all_eq_true.1 h b hb
  subst e; revert this; decide

theorem fr_dvd {k r : Nat} (hk : k + 1 ≤ 16) (hd : 2 ^ (16 - (k + 1)) ∣ r) : 2 ^ (16 - k) ∣ 10 * r % 65536 := by
  have e : 2 ^ (16 - k) = 2 * 2 ^ (16 - (k + 1)) := by rw [show 16 - k = (16 - (k + 1)) + 1 by omega, Nat.pow_succ]; omega
  have h1 : 2 ^ (16 - k) ∣ 10 * r := by
    rw [e]; obtain ⟨m, hm⟩ := hd; exact ⟨5 * m, by rw [hm]; grind⟩
  have h2 : 2 ^ (16 - k) ∣ 65536 := Nat.pow_dvd_pow 2 (show 16 - k ≤ 16 by omega)
  exact (Nat.dvd_mod_iff h2).2 h1
/-- The bytes behind the point. -/
def fb (k r : Nat) : List UInt8 := (fr k r).map fun x => (48 + x).toUInt8
theorem fb_all (k r : Nat) (hr : r < 65536) : (fb k r).all isDig = true := by
  unfold fb
  rw [List.all_map, List.all_eq_true]
  intro x hx
  exact isDig_ofNat (fr_dig k r x hr hx)
theorem fb_num : ∀ (k r : Nat), k ≤ 16 → r < 65536 → 2 ^ (16 - k) ∣ r → numN (fb k r) * 65536 = r * 10 ^ (fb k r).length
  | 0, r, _, hr, hd => by
    have : r = 0 := by rcases hd with ⟨m, rfl⟩; rcases m with _ | m <;> omega
    subst this; simp [fb, fr, numN, digs, dval]
  | k + 1, r, hk, hr, hd => by
    by_cases h : r = 0
    · subst h; simp [fb, fr, numN, digs, dval]
    · have ih := fb_num k (10 * r % 65536) (by omega) (Nat.mod_lt _ (by decide)) (fr_dvd hk hd)
      have e : fb (k + 1) r = (48 + 10 * r / 65536).toUInt8 :: fb k (10 * r % 65536) := by
        unfold fb
        show (if r = 0 then [] else _ :: _ : List Nat).map _ = _
        rw [if_neg h]; rfl
      have hq : 10 * r / 65536 ≤ 9 := by omega
      have hm := Nat.div_add_mod (10 * r) 65536
      rw [e, numN_cons, show ((48 + 10 * r / 65536).toUInt8).toNat = 48 + 10 * r / 65536 from ofNat_dig hq, List.length_cons, Nat.add_sub_cancel_left]
      generalize 10 * r / 65536 = d at *
      generalize 10 * r % 65536 = s at *
      generalize (fb k s).length = n at *
      generalize numN (fb k s) = M at *
      rw [Nat.pow_succ]
      generalize 10 ^ n = T at *
      grind
theorem frac_back (r : Nat) (hr : r < 65536) : fracP (fb 16 r) = r ∧ fracL (fb 16 r) = 0 := by
  have h := fb_num 16 r (Nat.le_refl _) hr (by simp)
  have hp : 0 < 10 ^ (fb 16 r).length := Nat.pos_of_ne_zero (by simp)
  unfold fracP fracL leftN
  rw [h]
  exact ⟨Nat.mul_div_cancel _ hp, by rw [Nat.mul_mod_left, if_pos rfl]⟩
theorem fb_ne {r : Nat} (h : r ≠ 0) : fb 16 r ≠ [] := by
  unfold fb
  show (if r = 0 then [] else _ :: _ : List Nat).map _ ≠ _
  rw [if_neg h]; simp
theorem plainB_of {l : List UInt8} (h1 : l.all isDig = true) (h2 : l ≠ []) : plainB l = true := by
  unfold plainB; rw [h1]; cases l
  · exact absurd rfl h2
  · rfl

/-- What Read makes of the parts of a text. -/
theorem read_parts {l X D F : List UInt8} {neg pt : Bool} {q r how : Int} (_ : 0 ≤ q) (_ : 0 ≤ r) (hh : HowOk how) (hlen : l.length ≤ 60) (hx : Lib.trimPrefix l [45] = X) (hn : Lib.hasPrefix l [45] = neg)
    (hc : Lib.cut X [46] = (D, F, pt)) (h1 : plainB D = true) (h2 : D.length = 1 ∨ D.getD 0 0 ≠ 48) (h3 : pt = false ∨ plainB F = true) (hq : (numN D : Int) = q) (hq2 : q ≤ 1073741824) (hr : (fracP F : Int) = r) (hL : fracL F = 0) :
    readR l how = fitR (q * 65536 + r) neg := by
  unfold readR
  rw [if_pos hh, if_pos hlen, hx, hc, hn]
  simp only []
  rw [if_pos ⟨h1, h2, h3⟩, if_pos (by omega), hL, if_pos rfl]
  congr 1
  omega

theorem text_len {a : Int} (hv : Val a) : (textL a).length ≤ 60 := by
  have hN := sz_lim' hv
  have h1 : (Lib.decDigits ((sz a).toNat / 65536)).length ≤ 20 := by rw [Lib.decDigits_length]; exact Lib.nDigits_le20 _ (by omega)
  have h2 := frac_len ((sz a).toNat % 65536)
  unfold textL headL
  simp only [List.length_append, List.length_map]
  split <;> split <;> simp <;> omega

theorem read_back {a how : Int} (hv : Val a) (hh : HowOk how) : readR (textL a) how = .ok a := by
  have hN := sz_lim' hv
  have hl := text_len hv
  have e0 : sz a = ((sz a).toNat : Int) := (Int.toNat_of_nonneg (sz_nn a)).symm
  obtain ⟨N, hNe⟩ : ∃ N, (sz a).toNat = N := ⟨_, rfl⟩
  rw [hNe] at hN e0
  obtain ⟨d1, d2, d3, d4⟩ := dd_all (N / 65536)
  have hlead : (Lib.decDigits (N / 65536)).length = 1 ∨ (Lib.decDigits (N / 65536)).getD 0 0 ≠ 48 := by
    by_cases h : 1 ≤ N / 65536
    · exact .inr (d4 h)
    · left; rw [Lib.decDigits_length, Lib.nDigits_small (by omega)]
  obtain ⟨b, D', hD⟩ : ∃ b D', Lib.decDigits (N / 65536) = b :: D' := by
    cases h : Lib.decDigits (N / 65536) with
    | nil => exact absurd h d2
    | cons b l => exact ⟨b, l, rfl⟩
  have hb : ¬ ((45 : UInt8) = b) := by
    have := List.all_eq_true.1 d1 b (by rw [hD]; simp)
    rintro rfl; revert this; decide
  have key : ∀ (Y : List UInt8), textL a = (if a < 0 then [45] else []) ++ (Lib.decDigits (N / 65536) ++ Y) → Lib.trimPrefix (textL a) [45] = Lib.decDigits (N / 65536) ++ Y ∧ Lib.hasPrefix (textL a) [45] = decide (a < 0) := by
    intro Y hY
    rw [hY]
    by_cases hn : a < 0
    · simp [Lib.trimPrefix, Lib.hasPrefix, hn]
    · simp [Lib.trimPrefix, Lib.hasPrefix, hn, hD, hb, List.isPrefixOf]
  have fin : fitR (((N / 65536 : Nat) : Int) * 65536 + ((N % 65536 : Nat) : Int)) (decide (a < 0)) = .ok a := by
    rw [show ((N / 65536 : Nat) : Int) * 65536 + ((N % 65536 : Nat) : Int) = N by omega, ← e0]
    unfold fitR
    rw [if_pos (by omega)]
    unfold sgn sz
    by_cases hn : a < 0 <;> simp [hn]
  obtain ⟨f1, f2⟩ := frac_back (N % 65536) (Nat.mod_lt _ (by decide))
  by_cases hr : N % 65536 = 0
  · have hY : textL a = (if a < 0 then [45] else []) ++ (Lib.decDigits (N / 65536) ++ []) := by
      unfold textL headL; rw [hNe, hr]; simp [frac_zero]
    obtain ⟨k1, k2⟩ := key [] hY
    rw [List.append_nil] at k1
    rw [read_parts (q := ((N / 65536 : Nat) : Int)) (r := ((N % 65536 : Nat) : Int)) (by omega) (by omega) hh hl k1 k2 (cut_nodot (no_dot d1)) (plainB_of d1 d2) hlead (.inl rfl) (by rw [d3]) (by omega) (by rw [hr]; simp [fracP, numN, digs, dval]) (by simp [fracL, leftN, numN, digs, dval])]
    exact fin
  · have hY : textL a = (if a < 0 then [45] else []) ++ (Lib.decDigits (N / 65536) ++ (46 :: fb 16 (N % 65536))) := by
      unfold textL headL fb; rw [hNe, if_neg hr]; simp [frac]
    obtain ⟨k1, k2⟩ := key _ hY
    rw [read_parts (q := ((N / 65536 : Nat) : Int)) (r := ((N % 65536 : Nat) : Int)) (by omega) (by omega) hh hl k1 k2 (cut_dot (no_dot d1)) (plainB_of d1 d2) hlead (.inr (plainB_of (fb_all 16 _ (Nat.mod_lt _ (by decide))) (fb_ne hr))) (by rw [d3]) (by omega) (by rw [f1]) f2]
    exact fin
end Go.Proofs.YthkhhjfldkebcaaGreatDoor
