/- Plain law: natural numbers as lists of parts below 32768, the lowest first. -/
namespace Go.Proofs.YthkhhjfldkebcaaGreatDoor

/-- The number of some parts. -/
def bval : List Nat → Nat
  | [] => 0
  | d :: ds => d + 32768 * bval ds
/-- Parts are below 32768. -/
def Parts (l : List Nat) : Prop := ∀ d ∈ l, d < 32768
/-- No zeros at the end. -/
def Can (l : List Nat) : Prop := Parts l ∧ (l = [] ∨ 32768 ^ (l.length - 1) ≤ bval l)

theorem bpos (n : Nat) : 0 < 32768 ^ n := Nat.pow_pos (by decide)
theorem Parts.nil : Parts [] := by intro d h; cases h
theorem Parts.cons {d : Nat} {l : List Nat} (h1 : d < 32768) (h2 : Parts l) : Parts (d :: l) := by
  intro x hx
  rcases List.mem_cons.1 hx with rfl | h
  · exact h1
  · exact h2 x h
theorem Parts.snoc {d : Nat} {l : List Nat} (h1 : Parts l) (h2 : d < 32768) : Parts (l ++ [d]) := by
  intro x hx
  rcases List.mem_append.1 hx with h | h
  · exact h1 x h
  · simp at h; omega
theorem Parts.get {l : List Nat} (h : Parts l) (i : Nat) : l.getD i 0 < 32768 := by
  rw [List.getD_eq_getElem?_getD]
  rcases Nat.lt_or_ge i l.length with h' | h'
  · rw [List.getElem?_eq_getElem h']; exact h _ (List.getElem_mem _)
  · rw [List.getElem?_eq_none h']; decide
theorem Parts.take {l : List Nat} (h : Parts l) (i : Nat) : Parts (l.take i) := fun d hd => h d (List.mem_of_mem_take hd)
theorem Parts.set {l : List Nat} (h : Parts l) (i : Nat) {d : Nat} (hd : d < 32768) : Parts (l.set i d) := by
  intro x hx
  rcases List.mem_or_eq_of_mem_set hx with h' | rfl
  · exact h x h'
  · exact hd
theorem bval_lt : ∀ {l : List Nat}, Parts l → bval l < 32768 ^ l.length
  | [], _ => by decide
  | d :: ds, h => by
    have h1 : d < 32768 := h d (by simp)
    have h2 := bval_lt (l := ds) (fun x hx => h x (by simp [hx]))
    simp only [bval, List.length_cons, Nat.pow_succ]
    omega
theorem bval_append : ∀ (l m : List Nat), bval (l ++ m) = bval l + 32768 ^ l.length * bval m
  | [], m => by simp [bval]
  | d :: ds, m => by
    simp only [List.cons_append, bval, List.length_cons, bval_append ds m, Nat.pow_succ]
    grind
theorem bval_snoc (l : List Nat) (d : Nat) : bval (l ++ [d]) = bval l + d * 32768 ^ l.length := by
  rw [bval_append]; simp [bval]; exact Nat.mul_comm _ _
theorem take_snoc {l : List Nat} {i : Nat} (h : i < l.length) : l.take (i + 1) = l.take i ++ [l.getD i 0] := by
  rw [List.take_add_one, List.getElem?_eq_getElem h, List.getD_eq_getElem?_getD, List.getElem?_eq_getElem h]; rfl
theorem bval_take {l : List Nat} {i : Nat} (h : i < l.length) : bval (l.take (i + 1)) = bval (l.take i) + l.getD i 0 * 32768 ^ i := by
  rw [take_snoc h, bval_snoc, List.length_take, Nat.min_eq_left (by omega)]
theorem bval_split (l : List Nat) (i : Nat) (h : i ≤ l.length) : bval l = bval (l.take i) + 32768 ^ i * bval (l.drop i) := by
  conv => lhs; rw [← List.take_append_drop i l]
  rw [bval_append, List.length_take, Nat.min_eq_left h]
theorem bval_set : ∀ (l : List Nat) (i d : Nat), i < l.length → bval (l.set i d) + l.getD i 0 * 32768 ^ i = bval l + d * 32768 ^ i
  | [], _, _, h => by simp at h
  | x :: xs, 0, d, _ => by simp [bval]; omega
  | x :: xs, i + 1, d, h => by
    have ih := bval_set xs i d (by simpa using h)
    simp only [List.set_cons_succ, bval, List.getD_cons_succ, Nat.pow_succ]
    grind
theorem Can.nil : Can [] := ⟨Parts.nil, .inl rfl⟩
theorem Can.ge {l : List Nat} (h : Can l) (hl : l ≠ []) : 32768 ^ (l.length - 1) ≤ bval l := h.2.resolve_left hl
theorem Can.pos {l : List Nat} (h : Can l) (hl : l ≠ []) : 0 < bval l := Nat.lt_of_lt_of_le (bpos _) (h.ge hl)
theorem Can.zero {l : List Nat} (h : Can l) : bval l = 0 ↔ l = [] :=
  ⟨fun h0 => by
    by_cases hl : l = []
    · exact hl
    · have := h.pos hl; omega, fun h0 => by rw [h0]; rfl⟩
theorem Can.len_le {l : List Nat} (h : Can l) {k : Nat} (hk : bval l < 32768 ^ k) : l.length ≤ k := by
  by_cases hl : l = []
  · subst hl; simp
  · have h1 := h.ge hl
    have h2 := Nat.lt_of_le_of_lt h1 hk
    have := (Nat.pow_lt_pow_iff_right (by decide)).1 h2
    omega
theorem Can.len_lt {a b : List Nat} (ha : Can a) (hb : Can b) (h : a.length < b.length) : bval a < bval b := by
  have h1 := bval_lt ha.1
  have h2 := hb.ge (by intro h0; subst h0; simp at h)
  have h3 : 32768 ^ a.length ≤ 32768 ^ (b.length - 1) := Nat.pow_le_pow_right (by decide) (by omega)
  omega
/-- The canonical parts behind a nonzero last part. -/
theorem Can.of_last {l : List Nat} (h : Parts l) (h0 : l ≠ []) (hl : l.getD (l.length - 1) 0 ≠ 0) : Can l := by
  refine ⟨h, .inr ?_⟩
  have hp : 0 < l.length := List.length_pos_iff.2 h0
  have e := bval_take (l := l) (i := l.length - 1) (by omega)
  rw [Nat.sub_add_cancel hp, List.take_length] at e
  rw [e]
  have : 1 * 32768 ^ (l.length - 1) ≤ l.getD (l.length - 1) 0 * 32768 ^ (l.length - 1) := Nat.mul_le_mul_right _ (by omega)
  omega
/-- A zero at the end can go. -/
theorem bval_drop_zero {l : List Nat} {n : Nat} (hn : n < l.length) (h : l.getD n 0 = 0) : bval (l.take n) = bval (l.take (n + 1)) := by
  rw [bval_take hn, h]; omega

/-- The parts of a number. -/
def ofN (n : Nat) : List Nat := if h : n = 0 then [] else n % 32768 :: ofN (n / 32768)
  termination_by n
  decreasing_by exact Nat.div_lt_self (by omega) (by decide)
theorem bval_ofN (n : Nat) : bval (ofN n) = n := by
  induction n using Nat.strongRecOn with
  | _ n ih =>
    unfold ofN
    by_cases h : n = 0
    · rw [dif_pos h, h]; rfl
    · rw [dif_neg h]
      simp only [bval]
      rw [ih _ (Nat.div_lt_self (by omega) (by decide))]
      omega
/-- Behind i rounds of 'of': what is kept, and what is left. -/
theorem of_step {l : List Nat} {n N : Nat} (h : bval l + n * 32768 ^ l.length = N) : bval (l ++ [n % 32768]) + n / 32768 * 32768 ^ (l ++ [n % 32768]).length = N := by
  rw [bval_snoc, List.length_append, List.length_singleton, Nat.pow_succ]
  have e : n = n % 32768 + 32768 * (n / 32768) := (Nat.mod_add_div n 32768).symm
  generalize n % 32768 = r at *
  generalize n / 32768 = q at *
  subst e
  rw [← h]
  grind
end Go.Proofs.YthkhhjfldkebcaaGreatDoor
