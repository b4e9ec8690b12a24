import Derived.Test.YthkhhjfldkebcaaGreatDoorJ1
import Derived.Maps.AppendAt
import Derived.Deep.OwnRows
/- Plain law: natural numbers as lists of parts below 32768, the lowest first. -/
namespace Go.Proofs.YthkhhjfldkebcaaGreatDoor

/-- The number of some parts. -/
def bval : List Nat → Nat
  | [] => 0
  | d :: ds => d + 32768 * bval ds
/-- Parts are below 32768. -/
def Parts (l : List Nat) : Prop := ∀ d ∈ l, d < 32768
/-- No zeros at the end. -/
def Can (l : List Nat) : Prop := Parts l ∧ (l = [] ∨ 32768 ^ (l.length - 1) ≤ bval l)

theorem bpos (n : Nat) : 0 < 32768 ^ n := Nat.pow_pos (by decide)
theorem Parts.nil : Parts [] := by intro d h; cases h
theorem Parts.cons {d : Nat} {l : List Nat} (h1 : d < 32768) (h2 : Parts l) : Parts (d :: l) := by
  intro x hx
  rcases List.mem_cons.1 hx with rfl | h
  · exact h1
  · exact h2 x h
theorem Parts.snoc {d : Nat} {l : List Nat} (h1 : Parts l) (h2 : d < 32768) : Parts (l ++ [d]) := by
  intro x hx
  rcases List.mem_append.1 hx with h | h
  · exact h1 x h
  · simp at h; omega
theorem Parts.get {l : List Nat} (h : Parts l) (i : Nat) : l.getD i 0 < 32768 := by
  rw [List.getD_eq_getElem?_getD]
  rcases Nat.lt_or_ge i l.length with h' | h'
  · rw [List.getElem?_eq_getElem h']; exact h _ (List.getElem_mem _)
  · rw [List.getElem?_eq_none h']; decide
theorem Parts.take {l : List Nat} (h : Parts l) (i : Nat) : Parts (l.take i) := fun d hd => h d (List.mem_of_mem_take hd)
theorem Parts.set {l : List Nat} (h : Parts l) (i : Nat) {d : Nat} (hd : d < 32768) : Parts (l.set i d) := by
  intro x hx
  rcases List.mem_or_eq_of_mem_set hx with h' | rfl
  · exact h x h'
  · exact hd
theorem bval_lt : ∀ {l : List Nat}, Parts l → bval l < 32768 ^ l.length
  | [], _ => by decide
  | d :: ds, h => by
    have h1 : d < 32768 := h d (by simp)
    have h2 := bval_lt (l := ds) (fun x hx => h x (by simp [hx]))
    simp only [bval, List.length_cons, Nat.pow_succ]
    omega
theorem bval_append : ∀ (l m : List Nat), bval (l ++ m) = bval l + 32768 ^ l.length * bval m
  | [], m => by simp [bval]
  | d :: ds, m => by
    simp only [List.cons_append, bval, List.length_cons, bval_append ds m, Nat.pow_succ]
    grind
theorem bval_snoc (l : List Nat) (d : Nat) : bval (l ++ [d]) = bval l + d * 32768 ^ l.length := by
  rw [bval_append]; simp [bval]; exact Nat.mul_comm _ _
theorem take_snoc {l : List Nat} {i : Nat} (h : i < l.length) : l.take (i + 1) = l.take i ++ [l.getD i 0] := by
  rw [List.take_add_one, List.getElem?_eq_getElem h, List.getD_eq_getElem?_getD, List.getElem?_eq_getElem h]; rfl
theorem bval_take {l : List Nat} {i : Nat} (h : i < l.length) : bval (l.take (i + 1)) = bval (l.take i) + l.getD i 0 * 32768 ^ i := by
  rw [take_snoc h, bval_snoc, List.length_take, Nat.min_eq_left (by omega)]
theorem bval_split (l : List Nat) (i : Nat) (h : i ≤ l.length) : bval l = bval (l.take i) + 32768 ^ i * bval (l.drop i) := by
  conv => lhs; rw [← List.take_append_drop i l]
  rw [bval_append, List.length_take, Nat.min_eq_left h]
theorem bval_set : ∀ (l : List Nat) (i d : Nat), i < l.length → bval (l.set i d) + l.getD i 0 * 32768 ^ i = bval l + d * 32768 ^ i
  | [], _, _, h => by simp at h
  | x :: xs, 0, d, _ => by simp [bval]; omega
  | x :: xs, i + 1, d, h => by
    have ih := bval_set xs i d (by simpa using h)
    simp only [List.set_cons_succ, bval, List.getD_cons_succ, Nat.pow_succ]
    grind
theorem Can.nil : Can [] := ⟨Parts.nil, .inl rfl⟩
theorem Can.ge {l : List Nat} (h : Can l) (hl : l ≠ []) : 32768 ^ (l.length - 1) ≤ bval l := h.2.resolve_left hl
theorem Can.pos {l : List Nat} (h : Can l) (hl : l ≠ []) : 0 < bval l := Nat.lt_of_lt_of_le (bpos _) (h.ge hl)
theorem Can.zero {l : List Nat} (h : Can l) : bval l = 0 ↔ l = [] :=
  ⟨fun h0 => by
    by_cases hl : l = []
    · exact hl
    · have := h.pos hl; omega, fun h0 => by rw [h0]; rfl⟩
theorem Can.len_le {l : List Nat} (h : Can l) {k : Nat} (hk : bval l < 32768 ^ k) : l.length ≤ k := by
  by_cases hl : l = []
  · subst hl; simp
  · have h1 := h.ge hl
    have h2 := Nat.lt_of_le_of_lt h1 hk
    have := (Nat.pow_lt_pow_iff_right (by decide)).1 h2
    omega
theorem Can.len_lt {a b : List Nat} (ha : Can a) (hb : Can b) (h : a.length < b.length) : bval a < bval b := by
  have h1 := bval_lt ha.1
  have h2 := hb.ge (by intro h0; subst h0; simp at h)
  have h3 : 32768 ^ a.length ≤ 32768 ^ (b.length - 1) := Nat.pow_le_pow_right (by decide) (by omega)
  omega
/-- The canonical parts behind a nonzero last part. -/
theorem Can.of_last {l : List Nat} (h : Parts l) (h0 : l ≠ []) (hl : l.getD (l.length - 1) 0 ≠ 0) : Can l := by
  refine ⟨h, .inr ?_⟩
  have hp : 0 < l.length := List.length_pos_iff.2 h0
  have e := bval_take (l := l) (i := l.length - 1) (by omega)
  rw [Nat.sub_add_cancel hp, List.take_length] at e
  rw [e]
  have : 1 * 32768 ^ (l.length - 1) ≤ l.getD (l.length - 1) 0 * 32768 ^ (l.length - 1) := Nat.mul_le_mul_right _ (by omega)
  omega
/-- A zero at the end can go. -/
theorem bval_drop_zero {l : List Nat} {n : Nat} (hn : n < l.length) (h : l.getD n 0 = 0) : bval (l.take n) = bval (l.take (n + 1)) := by
  rw [bval_take hn, h]; omega

/-- The parts of a number. -/
def ofN (n : Nat) : List Nat := if h : n = 0 then [] else n % 32768 :: ofN (n / 32768)
  termination_by n
  decreasing_by exact Nat.div_lt_self (by omega) (by decide)
theorem bval_ofN (n : Nat) : bval (ofN n) = n := by
  induction n using Nat.strongRecOn with
  | _ n ih =>
    unfold ofN
    by_cases h : n = 0
    · rw [dif_pos h, h]; rfl
    · rw [dif_neg h]
      simp only [bval]
      rw [ih _ (Nat.div_lt_self (by omega) (by decide))]
      omega
/-- Behind i rounds of 'of': what is kept, and what is left. -/
theorem of_step {l : List Nat} {n N : Nat} (h : bval l + n * 32768 ^ l.length = N) : bval (l ++ [n % 32768]) + n / 32768 * 32768 ^ (l ++ [n % 32768]).length = N := by
  rw [bval_snoc, List.length_append, List.length_singleton, Nat.pow_succ]
  have e : n = n % 32768 + 32768 * (n / 32768) := (Nat.mod_add_div n 32768).symm
  generalize n % 32768 = r at *
  generalize n / 32768 = q at *
  subst e
  rw [← h]
  grind
end Go.Proofs.YthkhhjfldkebcaaGreatDoor

/- How a natural number of the document lies in memory; contract: of. -/
namespace Go.Proofs.YthkhhjfldkebcaaGreatDoor
open Go.RowKit Go.Proofs Go.Shelf

/-- A part as a value. -/
abbrev pv (d : Nat) : Value := .int .i64 (d : Nat)
/-- The slice value v holds the parts l. -/
def Big (w : World) (v : Value) (l : List Nat) : Prop :=
  ∃ A cap, v = .slice A l.length cap ∧ l.length ≤ cap ∧ (cap ≤ maxLen ∧ (A = none → cap = 0)) ∧ (l ≠ [] → ∃ g, A = some ⟨g, 0, none⟩ ∧ ∀ j, j < l.length → w.cell? ⟨g, j, none⟩ = some (pv (l.getD j 0)))
/-- The slice value v holds the number N. -/
def BigN (w : World) (v : Value) (N : Nat) : Prop := ∃ l, Big w v l ∧ Can l ∧ bval l = N
/-- A call that gives back the number N. -/
def BigOut (w : World) (N : Nat) (e : Ending) (w' : World) : Prop := ∃ v, e = .returned v ∧ BigN w' v N ∧ Below w.heap.size w w'
theorem Big.up {w w' : World} {v : Value} {l : List Nat} (h : Big w v l) (hb : Below w.heap.size w w') : Big w' v l := by
  obtain ⟨A, cap, rfl, h1, h2, h3⟩ := h
  refine ⟨A, cap, rfl, h1, h2, fun hl => ?_⟩
  obtain ⟨g, hA, hc⟩ := h3 hl
  exact ⟨g, hA, fun j hj => upc (hc j hj) hb⟩
theorem BigN.up {w w' : World} {v : Value} {N : Nat} (h : BigN w v N) (hb : Below w.heap.size w w') : BigN w' v N := by
  obtain ⟨l, h1, h2, h3⟩ := h
  exact ⟨l, h1.up hb, h2, h3⟩
theorem Big.alloc {w : World} {v : Value} {l : List Nat} (h : Big w v l) (o : Obj) : Big (w.alloc o) v l := h.up ((Below.refl _ _).alloc (Nat.le_refl _) _)
theorem BigN.alloc {w : World} {v : Value} {N : Nat} (h : BigN w v N) (o : Obj) : BigN (w.alloc o) v N := h.up ((Below.refl _ _).alloc (Nat.le_refl _) _)
theorem Big.nil (w : World) : Big w (.slice none 0 0) [] := ⟨none, 0, rfl, Nat.le_refl _, ⟨Nat.zero_le _, fun _ => rfl⟩, fun h => absurd rfl h⟩
theorem BigN.nil (w : World) : BigN w (.slice none 0 0) 0 := ⟨[], Big.nil w, Can.nil, rfl⟩
theorem Big.of_own {w : World} {base : Nat} {v : Value} {l : List Nat} (h : w.ownsRow base 3 1 v l.length (l.map pv)) : Big w v l := by
  rcases h.2 with ⟨rfl, hn⟩ | ⟨g, cap, cur, rfl, hg, hh, hc, hm, hs, ht⟩
  · have : l = [] := List.length_eq_zero_iff.1 hn
    subst this; exact Big.nil w
  · refine ⟨_, cap, rfl, hc, ⟨hm, fun h => by cases h⟩, fun _ => ⟨g, rfl, fun j hj => ?_⟩⟩
    have hcell := h.cellAt j (by omega)
    rw [hcell, List.getElem?_map, List.getElem?_eq_getElem hj, List.getD_eq_getElem?_getD, List.getElem?_eq_getElem hj]
    rfl
theorem Tryz.info3 : (Tryz.prog.info? 3).map (fun i => (i.zero, i.size, i.bytes)) = some (some (.int .i64 0), 1, 8) := by kernel_rfl
theorem len_small {N k : Nat} (h : 32768 ^ k ≤ N) (hN : N ≤ 9223372036854775807) : k ≤ 4 := by
  rcases Nat.lt_or_ge 4 k with h' | h'
  · have : 32768 ^ 5 ≤ 32768 ^ k := Nat.pow_le_pow_right (by decide) h'
    have e : 32768 ^ 5 = 37778931862957161709568 := by decide
    omega
  · exact h'
/-- A round of 'of', as far as the parts go. -/
theorem of_rel {l : List Nat} {m N : Nat} (hp : Parts l) (h : bval l + m * 32768 ^ l.length = N) (hm : 0 < m) :
    Parts (l ++ [m % 32768]) ∧ bval (l ++ [m % 32768]) + m / 32768 * 32768 ^ (l ++ [m % 32768]).length = N ∧ 32768 ^ ((l ++ [m % 32768]).length - 1) ≤ N := by
  refine ⟨hp.snoc (Nat.mod_lt _ (by decide)), of_step h, ?_⟩
  simp only [List.length_append, List.length_singleton, Nat.add_sub_cancel]
  have : 1 * 32768 ^ l.length ≤ m * 32768 ^ l.length := Nat.mul_le_mul_right _ hm
  omega

set_option maxHeartbeats 1000000 in
theorem of_nat (N : Nat) (w : World) (hN : N ≤ 9223372036854775807) : Calls Tryz.prog 72 #[.int .i64 N] w (BigOut w N) := by
  obtain ⟨i0, hi, hz0, hz1, hz2⟩ := info_parts Tryz.info3
  go_enter Tryz.func72, Tryz.ntmps72
  go_wp2_with fail
  go_loopw [0, 3] (fun nv out wr => ∃ (m : Nat) (l : List Nat), nv = .int .i64 m ∧ Hid (Parts l) ∧ Hid (bval l + m * 32768 ^ l.length = N) ∧ Hid (l = [] ∨ 32768 ^ (l.length - 1) ≤ N) ∧ wr.ownsRow w.heap.size 3 1 out l.length (l.map pv) ∧ Below w.heap.size w wr ∧ m ≤ 9223372036854775807)
    (fun nv _ _ => (intOf nv).toNat)
  case atStart => exact ⟨N, [], rfl, Parts.nil, by show _ = _; simp [bval], .inl rfl, World.ownsRow_nil _ _ _ _, Below.refl _ _, hN⟩
  case round =>
    obtain ⟨m, l, rfl, hp, hv, hc, hown, hb, hm⟩ := hrel
    have HB := Lib.hid hb
    have hlen : l.length ≤ 5 := by
      rcases hc.out with h | h
      · subst h; simp
      · have := len_small h hN; omega
    by_cases h0 : 0 < m
    · have h0' : (0 : Int) < (m : Int) := by omega
      have hs := hb.size
      go_wp2_with (at_builtin; refine wpList_append_own _ rfl _ _ 96 rfl w.heap.size 3 i0 (.int .i64 0) 1 8 Tryz.underlying96 hi hz0 hz1 hz2 rfl (by decide) _ _ _ rfl (hown.alloc _) ⟨wr.heap.size, 0, none⟩ 1 1 [.int .i64 ((m : Int) % 32768)] rfl rfl (cell_one_new _ _ _) (by intro u hu; simp at hu; subst hu; rfl) (by unfold maxLen; omega) (by omega) (by simp; omega) ?_; intro v' w1 hown' hgrow _)
      have R := of_rel hp.out hv.out h0
      have hb' : Below w.heap.size w w1 := (HB.out.alloc HB.out.size _).grown hgrow (by have := HB.out.size; simp; omega) (fun k hk => (hown.lt k hk).1)
      have HO : w1.ownsRow w.heap.size 3 1 v' (l ++ [m % 32768]).length ((l ++ [m % 32768]).map pv) := by simpa [pv] using hown'
      clear hown' hgrow hown hb hp hv hc
      go_wp2_with fail
      go_roundw
      case rel => exact ⟨m / 32768, l ++ [m % 32768], by go_num, R.1, R.2.1, .inr R.2.2, HO, hb', by omega⟩
      case measure => simp [intOf]; omega
    · obtain rfl : m = 0 := by omega
      have hv' := hv.out
      simp only [Nat.zero_mul, Nat.add_zero] at hv'
      have HO := Lib.hid hown
      have HV := Lib.hid hv'
      clear hv' hv hown hb
      go_wp2_with fail
      go_ret
      exact ⟨_, rfl, ⟨l, Big.of_own HO.out, ⟨hp.out, by rw [HV.out]; exact hc.out⟩, HV.out⟩, HB.out⟩
theorem of_any (n : Int) (w : World) (h0 : 0 ≤ n) (h1 : n ≤ 9223372036854775807) : Calls Tryz.prog 72 #[.int .i64 n] w (BigOut w n.toNat) := by
  obtain ⟨N, rfl⟩ := Int.eq_ofNat_of_zero_le h0
  exact of_nat N w (by omega)
end Go.Proofs.YthkhhjfldkebcaaGreatDoor
