import Derived.Test.YthkhhjfldkebcaaGreatDoorRd
/- Plain law: what the document reads from a text is what readR says. -/
namespace Go.Proofs.YthkhhjfldkebcaaGreatDoor
open Go.RowKit Go.Proofs Go.Shelf

/-- The bytes of a list, as numbers. -/
def byt (l : List UInt8) (i : Nat) : Nat := (l.getD i 0).toNat
theorem byt_get {l : List UInt8} {i : Nat} (h : i < l.length) : byt l i = (l[i]'h).toNat := by
  unfold byt; rw [List.getD_eq_getElem?_getD, List.getElem?_eq_getElem h]; rfl
theorem byt_left {A B : List UInt8} {i : Nat} (h : i < A.length) : byt (A ++ B) i = byt A i := by
  rw [byt_get h, byt_get (by rw [List.length_append]; omega), List.getElem_append_left h]
theorem byt_right (A B : List UInt8) (i : Nat) : byt (A ++ B) (A.length + i) = byt B i := by
  unfold byt
  rw [List.getD_eq_getElem?_getD, List.getD_eq_getElem?_getD, List.getElem?_append_right (by omega), Nat.add_sub_cancel_left]
theorem byt_tail (A B : List UInt8) (b : UInt8) (i : Nat) : byt (A ++ b :: B) (A.length + 1 + i) = byt B i := by
  have := byt_right (A ++ [b]) B i
  rw [List.append_assoc, List.length_append] at this
  exact this
theorem byt_here (A B : List UInt8) (b : UInt8) : byt (A ++ b :: B) A.length = b.toNat := by
  have := byt_right A (b :: B) 0
  exact this
theorem all_dig {l : List UInt8} (h : ∀ j, j < l.length → Dg (byt l j)) : l.all isDig = true := by
  rw [List.all_eq_true]
  intro b hb
  obtain ⟨j, hj, rfl⟩ := List.getElem_of_mem hb
  have := h j hj
  rw [byt_get hj] at this
  unfold isDig; simpa [Dg] using this
theorem dig_all {l : List UInt8} (h : l.all isDig = true) {j : Nat} (hj : j < l.length) : Dg (byt l j) := by
  have := List.all_eq_true.1 h _ (List.getElem_mem hj)
  rw [byt_get hj]
  unfold isDig at this; simpa [Dg] using this
theorem split46 : ∀ l : List UInt8, (∀ b ∈ l, b ≠ 46) ∨ ∃ A F, l = A ++ 46 :: F ∧ ∀ b ∈ A, b ≠ 46
  | [] => .inl (by simp)
  | b :: l => by
    by_cases hb : b = 46
    · exact .inr ⟨[], l, by rw [hb]; rfl, by simp⟩
    · rcases split46 l with h | ⟨A, F, h, h2⟩
      · refine .inl fun c hc => ?_
        rcases List.mem_cons.1 hc with rfl | hc
        · exact hb
        · exact h c hc
      · refine .inr ⟨b :: A, F, by rw [h]; rfl, fun c hc => ?_⟩
        rcases List.mem_cons.1 hc with rfl | hc
        · exact hb
        · exact h2 c hc
/-- What Read asks of the parts of a text. -/
def RParts (D F : List UInt8) (pt : Bool) : Prop := plainB D = true ∧ (D.length = 1 ∨ D.getD 0 0 ≠ 48) ∧ (pt = false ∨ plainB F = true)
theorem plain_of {l : List UInt8} (h : plainB l = true) : l.all isDig = true ∧ l ≠ [] := by
  unfold plainB at h
  cases l with
  | nil => simp at h
  | cons b l => exact ⟨by simpa using h, by simp⟩
theorem first48 {D : List UInt8} : byt D 0 = 48 ↔ D.getD 0 0 = 48 := by
  unfold byt
  constructor
  · intro h; exact UInt8.toNat_inj.1 h
  · intro h; rw [h]; rfl

theorem form_yes {l : List UInt8} {p : Nat} (h : Fm (byt l) l.length p) :
    ∃ D F pt, Lib.cut l [46] = (D, F, pt) ∧ l = D ++ (if pt = true then 46 :: F else []) ∧ D.length = p ∧ RParts D F pt ∧ (pt = false → F = []) := by
  obtain ⟨hP, h0, h1, h2⟩ := h
  rcases split46 l with hn | ⟨A, F, rfl, hA⟩
  · have hall : p = l.length ∧ ∀ j, j < l.length → Dg (byt l j) := by
      rcases hP with h | ⟨h3, h4, -⟩
      · exact h
      · exfalso
        rw [byt_get h3] at h4
        exact hn _ (List.getElem_mem h3) (UInt8.toNat_inj.1 h4)
    obtain ⟨rfl, hd⟩ := hall
    refine ⟨l, [], false, cut_nodot hn, by simp, rfl, ⟨plainB_of (all_dig hd) (by intro e; subst e; exact h0 rfl), ?_, .inl rfl⟩, fun _ => rfl⟩
    by_cases h3 : l.length = 1
    · exact .inl h3
    · exact .inr fun e => h1 ⟨by omega, first48.2 e⟩
  · have hp : A.length = p ∧ ∀ j, j < (A ++ 46 :: F).length → j ≠ p → Dg (byt (A ++ 46 :: F) j) := by
      have hlt : A.length < (A ++ 46 :: F).length := by simp
      have h46 : ¬ Dg (byt (A ++ 46 :: F) A.length) := by rw [byt_here]; unfold Dg; decide
      rcases hP with ⟨rfl, h3⟩ | ⟨h3, h4, h5⟩
      · exact absurd (h3 _ hlt) h46
      · by_cases e : A.length = p
        · exact ⟨e, h5⟩
        · exact absurd (h5 _ hlt e) h46
    obtain ⟨rfl, hd⟩ := hp
    have hlen : (A ++ 46 :: F).length = A.length + 1 + F.length := by simp; omega
    have dA : A.all isDig = true := all_dig fun j hj => by
      have := hd j (by omega) (by omega); rwa [byt_left hj] at this
    have dF : F.all isDig = true := all_dig fun j hj => by
      have := hd (A.length + 1 + j) (by omega) (by omega); rwa [byt_tail] at this
    refine ⟨A, F, true, cut_dot hA, by simp, rfl, ⟨plainB_of dA (by intro e; subst e; exact h0 rfl), ?_, .inr (plainB_of dF (by intro e; subst e; exact h2 (by rw [hlen]; rfl)))⟩, fun h => by cases h⟩
    by_cases h3 : A.length = 1
    · exact .inl h3
    · refine .inr fun e => h1 ⟨by omega, ?_⟩
      rw [byt_left (by omega)]; exact first48.2 e

theorem form_no {l D F : List UInt8} {pt : Bool} (h : ∀ p, ¬ Fm (byt l) l.length p) (hc : Lib.cut l [46] = (D, F, pt)) : ¬ RParts D F pt := by
  rintro ⟨h1, h2, h3⟩
  obtain ⟨dD, nD⟩ := plain_of h1
  have lD : 0 < D.length := by cases D with | nil => exact absurd rfl nD | cons b l => simp
  rcases split46 l with hn | ⟨A, F', rfl, hA⟩
  · rw [cut_nodot hn] at hc
    injection hc with e1 e2; injection e2 with e2 e3
    subst e1 e2 e3
    refine h l.length ⟨.inl ⟨rfl, fun j hj => dig_all dD hj⟩, by omega, ?_, by omega⟩
    rintro ⟨h4, h5⟩
    rcases h2 with h2 | h2
    · omega
    · exact h2 (first48.1 h5)
  · rw [cut_dot hA] at hc
    injection hc with e1 e2; injection e2 with e2 e3
    subst e1 e2 e3
    have hlen : (A ++ 46 :: F').length = A.length + 1 + F'.length := by simp; omega
    rcases h3 with h3 | h3
    · cases h3
    obtain ⟨dF, nF⟩ := plain_of h3
    have lF : 0 < F'.length := by cases F' with | nil => exact absurd rfl nF | cons b l => simp
    refine h A.length ⟨.inr ⟨by omega, by rw [byt_here]; rfl, fun j hj hne => ?_⟩, by omega, ?_, by omega⟩
    · by_cases hlt : j < A.length
      · rw [byt_left hlt]; exact dig_all dD hlt
      · obtain ⟨i, rfl⟩ : ∃ i, j = A.length + 1 + i := ⟨j - (A.length + 1), by omega⟩
        rw [byt_tail]; exact dig_all dF (by omega)
    · rintro ⟨h4, h5⟩
      rcases h2 with h2 | h2
      · omega
      · rw [byt_left lD] at h5; exact h2 (first48.1 h5)

/-- What the loop has read behind i bytes: the digits' number, and the power of ten of those behind the point. -/
def rn (f : Nat → Nat) (p : Nat) : Nat → Nat
  | 0 => 0
  | i + 1 => if i = p then rn f p i else rn f p i * 10 + (f i - 48)
def rd (p : Nat) : Nat → Nat
  | 0 => 1
  | i + 1 => if p < i then rd p i * 10 else rd p i
theorem rn_lt {f : Nat → Nat} {p n : Nat} (h : ∀ j, j < n → j ≠ p → Dg (f j)) : ∀ i, i ≤ n → rn f p i < 10 ^ i
  | 0, _ => by simp [rn]
  | i + 1, hi => by
    have ih := rn_lt h i (by omega)
    unfold rn
    rw [Nat.pow_succ]
    by_cases e : i = p
    · rw [if_pos e]; omega
    · rw [if_neg e]
      have := h i (by omega) e
      unfold Dg at this; omega
theorem rd_le (p : Nat) : ∀ i, rd p i ≤ 10 ^ i
  | 0 => by simp [rd]
  | i + 1 => by
    have ih := rd_le p i
    unfold rd
    rw [Nat.pow_succ]
    by_cases e : p < i
    · rw [if_pos e]; omega
    · rw [if_neg e]; omega
theorem rd_pos (p : Nat) : ∀ i, 0 < rd p i
  | 0 => by simp [rd]
  | i + 1 => by
    have ih := rd_pos p i
    unfold rd
    by_cases e : p < i
    · rw [if_pos e]; omega
    · rw [if_neg e]; omega
theorem rn_take {l : List UInt8} {p : Nat} : ∀ i, i ≤ l.length → i ≤ p → rn (byt l) p i = numN (l.take i)
  | 0, _, _ => by simp [rn, numN, digs, dval]
  | i + 1, h, hp => by
    have ih := rn_take (l := l) (p := p) i (by omega) (by omega)
    rw [List.take_succ_eq_append_getElem (by omega), numN_snoc]
    unfold rn
    rw [if_neg (by omega), ih, byt_get (by omega)]
theorem rn_tail {D F : List UInt8} : ∀ j, j ≤ F.length → rn (byt (D ++ 46 :: F)) D.length (D.length + 1 + j) = numN (D ++ F.take j)
  | 0, _ => by
    show rn _ _ (D.length + 1) = _
    unfold rn
    rw [if_pos rfl, rn_take D.length (by simp) (Nat.le_refl _)]
    simp
  | j + 1, h => by
    have ih := rn_tail (D := D) (F := F) j (by omega)
    show rn _ _ ((D.length + 1 + j) + 1) = _
    unfold rn
    rw [if_neg (by omega), ih, byt_tail, List.take_succ_eq_append_getElem (by omega), ← List.append_assoc, numN_snoc, byt_get (by omega)]
theorem rd_low (p : Nat) : ∀ i, i ≤ p + 1 → rd p i = 1
  | 0, _ => rfl
  | i + 1, h => by
    have ih := rd_low p i (by omega)
    unfold rd
    rw [if_neg (by omega), ih]
theorem rd_high (p : Nat) : ∀ j, rd p (p + 1 + j) = 10 ^ j
  | 0 => rd_low p _ (by omega)
  | j + 1 => by
    have ih := rd_high p j
    show rd p ((p + 1 + j) + 1) = _
    unfold rd
    rw [if_pos (by omega), ih, Nat.pow_succ]
theorem numN_append (D F : List UInt8) : numN (D ++ F) = numN D * 10 ^ F.length + numN F := by
  unfold numN; rw [digs_append, dval_append, digs_len]
theorem rnd_of {l D F : List UInt8} {pt : Bool} (hl : l = D ++ (if pt = true then 46 :: F else [])) (hF : pt = false → F = []) :
    rn (byt l) D.length l.length = numN D * 10 ^ F.length + numN F ∧ rd D.length l.length = 10 ^ F.length := by
  cases pt
  · rw [hF rfl]
    simp only [Bool.false_eq_true, if_false, List.append_nil] at hl
    subst hl
    exact ⟨by rw [rn_take _ (Nat.le_refl _) (Nat.le_refl _)]; simp [numN, digs, dval], by rw [rd_low _ _ (by omega)]; rfl⟩
  · simp only [if_true] at hl
    subst hl
    have e : (D ++ 46 :: F).length = D.length + 1 + F.length := by simp; omega
    rw [e, rn_tail F.length (Nat.le_refl _), rd_high, List.take_length, numN_append]
    exact ⟨rfl, rfl⟩

/-- What the document's rounding gives, by its parts. -/
theorem bump_frac (F : List UInt8) (k : Nat) (neg : Bool) :
    b2i (bump k ((numN F * 65536 % 10 ^ F.length : Nat) : Int) ((10 ^ F.length : Nat) : Int) neg) = if fracL F = 0 then 0 else b2i (rndB k ((fracL F : Int) - 2) neg) := by
  have hT : 0 < 10 ^ F.length := Nat.pow_pos (by omega)
  unfold fracL leftN
  generalize 10 ^ F.length = T at *
  generalize numN F * 65536 % T = r
  unfold bump
  by_cases h0 : r = 0
  · subst h0; simp [b2i]
  · have e1 : decide ((0 : Int) < (r : Int)) = true := by simp; omega
    rw [e1, Bool.true_and, if_neg h0]
    by_cases h1 : 2 * r < T
    · have e2 : cmpI ((r : Int) + r) T = -1 := by unfold cmpI; rw [if_pos (by omega)]
      rw [e2, if_pos h1]; simp
    · rw [if_neg h1]
      have e2 : 0 ≤ cmpI ((r : Int) + r) T := by unfold cmpI; rw [if_neg (by omega)]; split <;> omega
      by_cases h2 : 2 * r = T
      · rw [if_pos h2]
        unfold rndB; simp [e2]
      · rw [if_neg h2]
        unfold rndB; simp [e2]
theorem read_doc {D F : List UInt8} {neg : Bool} {how : Int} {N T : Nat} (hF : F.all isDig = true) (hN : N = (numN D * 10 ^ F.length + numN F) * 65536) (hT : T = 10 ^ F.length) :
    refFitR (sgn ((if N / T < 1152921504606846976 then ((N / T : Nat) : Int) else 0) + b2i (bump (119 + how.toNat) ((N % T : Nat) : Int) (T : Int) neg)) neg) (decide (N / T < 1152921504606846976)) =
      if numN D ≤ 1073741824 then fitR ((numN D * 65536 + fracP F : Nat) + (if fracL F = 0 then 0 else b2i (rndB (119 + how.toNat) ((fracL F : Int) - 2) neg))) neg else .error 4 := by
  have hTp : 0 < T := by rw [hT]; exact Nat.pow_pos (by omega)
  have e1 : N = numN F * 65536 + T * (numN D * 65536) := by rw [hN, hT]; grind
  have eq : N / T = numN D * 65536 + fracP F := by
    rw [e1, Nat.add_mul_div_left _ _ hTp]
    unfold fracP; rw [hT]; omega
  have er : N % T = numN F * 65536 % 10 ^ F.length := by rw [e1, Nat.add_mul_mod_self_left, hT]
  have hf := fracP_le F (fun b hb => List.all_eq_true.1 hF b hb)
  rw [eq, er, hT, bump_frac]
  have hb : (if fracL F = 0 then (0 : Int) else b2i (rndB (119 + how.toNat) ((fracL F : Int) - 2) neg)) = 0 ∨ (if fracL F = 0 then (0 : Int) else b2i (rndB (119 + how.toNat) ((fracL F : Int) - 2) neg)) = 1 := by
    split
    · exact .inl rfl
    · unfold b2i; split <;> simp
  generalize (if fracL F = 0 then (0 : Int) else b2i (rndB (119 + how.toNat) ((fracL F : Int) - 2) neg)) = b at *
  generalize fracP F = P at *
  generalize numN D = V at *
  by_cases hV : V ≤ 1073741824
  · rw [if_pos hV, if_pos (by omega), decide_eq_true (by omega)]
    unfold refFitR fitR
    by_cases hle : ((V * 65536 + P : Nat) : Int) + b ≤ 70368744177664
    · rw [if_pos hle, if_pos ⟨rfl, by unfold Val sgn; split <;> omega⟩]
    · rw [if_neg hle, if_neg (by rintro ⟨-, h1, h2⟩; revert h1 h2; unfold sgn; split <;> omega)]
  · rw [if_neg hV]
    unfold refFitR
    by_cases hs : V * 65536 + P < 1152921504606846976
    · rw [if_pos hs, if_neg (by rintro ⟨-, h1, h2⟩; revert h1 h2; unfold sgn; split <;> omega)]
    · rw [decide_eq_false hs, if_neg (by rintro ⟨h, -⟩; cases h)]
end Go.Proofs.YthkhhjfldkebcaaGreatDoor

/- Contract: the document's Read. -/
namespace Go.Proofs.YthkhhjfldkebcaaGreatDoor
open Go.RowKit Go.Proofs Go.Shelf

theorem ten60 : (10 : Nat) ^ 60 < 2 ^ 200 := by decide
theorem lim60 {n : Nat} (h : n ≤ 10 ^ 60) : Lim (n * 65536) ∧ Lim (32768 * n) ∧ Lim n ∧ Lim (n * 10) := by
  have e : (2 : Nat) ^ 200 * 65536 = 2 ^ 216 := by decide
  have h1 : n < 2 ^ 200 := Nat.lt_of_le_of_lt h ten60
  refine ⟨lim_of (k := 216) (by omega) (by decide), lim_of (k := 216) (by omega) (by decide), lim_of (k := 200) h1 (by decide), lim_of (k := 216) (by omega) (by decide)⟩
theorem rd_lim {p i : Nat} (hi : i ≤ 60) : rd p i ≤ 10 ^ 60 := Nat.le_trans (rd_le p i) (Nat.pow_le_pow_right (by omega) hi)
theorem rn_lim {f : Nat → Nat} {p n i : Nat} (h : ∀ j, j < n → j ≠ p → Dg (f j)) (hi : i ≤ n) (hn : n ≤ 60) : rn f p i ≤ 10 ^ 60 :=
  Nat.le_trans (Nat.le_of_lt (rn_lt h i hi)) (Nat.pow_le_pow_right (by omega) (by omega))
theorem Fm.dig {f : Nat → Nat} {n p : Nat} (h : Fm f n p) : ∀ j, j < n → j ≠ p → Dg (f j) := by
  rcases h.1 with ⟨-, h⟩ | ⟨-, -, h⟩
  · exact fun j hj _ => h j hj
  · exact h
theorem Fm.le {f : Nat → Nat} {n p : Nat} (h : Fm f n p) : p ≤ n := by
  rcases h.1 with ⟨h, -⟩ | ⟨h, -, -⟩ <;> omega
theorem BigN.one {w : World} {g : Nat} (h : w.cell? ⟨g, 0, none⟩ = some (.int .i64 1)) : BigN w (.slice (some ⟨g, 0, none⟩) 1 1) 1 := by
  refine ⟨[1], ⟨some ⟨g, 0, none⟩, 1, rfl, Nat.le_refl _, ⟨by decide, fun h => by cases h⟩, fun _ => ⟨g, rfl, fun j hj => ?_⟩⟩, ?_, rfl⟩
  · have : j = 0 := by simpa using hj
    subst this; exact h
  · exact ⟨fun d hd => by simp at hd; subst hd; decide, .inr (by decide)⟩

theorem readR_no {l X : List UInt8} {how : Int} (hh : HowOk how) (hl : l.length ≤ 60) (hX : Lib.trimPrefix l [45] = X) (h : ∀ p, ¬ Fm (byt X) X.length p) : readR l how = .error 5 := by
  obtain ⟨D, F, pt, hc⟩ : ∃ D F pt, Lib.cut X [46] = (D, F, pt) := ⟨_, _, _, rfl⟩
  have hn := form_no h hc
  unfold readR
  rw [if_pos hh, if_pos hl, hX, hc]
  simp only []
  unfold RParts at hn
  rw [if_neg hn]
theorem readR_yes {l X : List UInt8} {how : Int} {neg : Bool} {p N T : Nat} (hh : HowOk how) (hl : l.length ≤ 60) (hX : Lib.trimPrefix l [45] = X) (hn : Lib.hasPrefix l [45] = neg) (h : Fm (byt X) X.length p)
    (hN : N = rn (byt X) p X.length * 65536) (hT : T = rd p X.length) :
    readR l how = refFitR (sgn ((if N / T < 1152921504606846976 then ((N / T : Nat) : Int) else 0) + b2i (bump (119 + how.toNat) ((N % T : Nat) : Int) (T : Int) neg)) neg) (decide (N / T < 1152921504606846976)) := by
  obtain ⟨D, F, pt, hc, hX2, hD, hP, hF⟩ := form_yes h
  obtain ⟨h1, h2⟩ := rnd_of hX2 hF
  rw [hD] at h1 h2
  have dF : F.all isDig = true := by
    rcases hP.2.2 with h | h
    · rw [hF h]; rfl
    · exact (plain_of h).1
  rw [read_doc dF (by rw [hN, h1]) (by rw [hT, h2])]
  unfold readR
  rw [if_pos hh, if_pos hl, hX, hc, hn]
  simp only []
  unfold RParts at hP
  rw [if_pos hP]
theorem form_is (s : ByteArray) (w : World) (p : Nat) (hs : s.size ≤ 1000) (h : Fm (byt s.data.toList) s.size p) :
    Calls Tryz.prog 109 #[.string s] w fun e w' => e = .returned (.tuple #[.int .i64 (p : Nat), .bool true]) ∧ w = w' := by
  refine (form_any s w hs (byt s.data.toList) (fun i hi => by rw [byt_get (by simpa using hi)]; rfl)).mono ?_
  rintro e w' ⟨rfl, ⟨p', rfl, h'⟩ | ⟨rfl, h'⟩⟩
  · rw [h'.1.one h.1]; exact ⟨rfl, rfl⟩
  · exact absurd h (h' p)
theorem form_isnt (s : ByteArray) (w : World) (hs : s.size ≤ 1000) (h : ∀ p, ¬ Fm (byt s.data.toList) s.size p) :
    Calls Tryz.prog 109 #[.string s] w fun e w' => e = .returned (.tuple #[.int .i64 0, .bool false]) ∧ w = w' := by
  refine (form_any s w hs (byt s.data.toList) (fun i hi => by rw [byt_get (by simpa using hi)]; rfl)).mono ?_
  rintro e w' ⟨rfl, ⟨p', rfl, h'⟩ | ⟨rfl, h'⟩⟩
  · exact absurd h' (h p')
  · exact ⟨rfl, rfl⟩
/-- The three ways of a sign: the text behind it, and whether there is one. -/
theorem sign_cases (s : ByteArray) :
    (s.size = 0 ∧ Lib.trimPrefix s.data.toList [45] = s.data.toList ∧ Lib.hasPrefix s.data.toList [45] = false) ∨
    (∃ h : 0 < s.size, ((s[0]'h).toNat : Int) ≠ 45 ∧ Lib.trimPrefix s.data.toList [45] = s.data.toList ∧ Lib.hasPrefix s.data.toList [45] = false) ∨
    (∃ h : 0 < s.size, ((s[0]'h).toNat : Int) = 45 ∧ Lib.trimPrefix s.data.toList [45] = (s.extract 1 s.size).data.toList ∧ Lib.hasPrefix s.data.toList [45] = true) := by
  obtain ⟨⟨l⟩⟩ := s
  cases l with
  | nil => exact .inl ⟨rfl, rfl, rfl⟩
  | cons b l =>
    right
    by_cases hb : b = 45
    · subst hb
      refine .inr ⟨by show 0 < (Array.mk (45 :: l)).size; simp, rfl, ?_, rfl⟩
      show l = (ByteArray.extract _ _ _).data.toList
      rw [ByteArray.data_extract]
      show l = ((Array.mk (45 :: l)).extract 1 (Array.mk (45 :: l)).size).toList
      simp
    · have h1 : ¬ ((45 : UInt8) = b) := fun h => hb h.symm
      refine .inl ⟨by show 0 < (Array.mk (b :: l)).size; simp, ?_, ?_, ?_⟩
      · show ((b.toNat : Nat) : Int) ≠ 45
        intro h
        exact hb (UInt8.toNat_inj.1 (show b.toNat = 45 by omega))
      · simp [Lib.trimPrefix, Lib.hasPrefix, List.isPrefixOf, h1]
      · simp [Lib.hasPrefix, List.isPrefixOf, h1]
end Go.Proofs.YthkhhjfldkebcaaGreatDoor
