/- Plain law: lines of a position's text: which stone a line is, and where a text ends to be one. -/
import Derived.Test.YtmhlialdbggmdaaGreatDoorJ2
import Derived.Lib.SplitLaws
import Derived.Lib.IndexMore
import Derived.Lib.IndexLaws
namespace Go.Proofs.YtmhlialdbggmdaaGreatDoor
open Go.RowKit Go.Proofs Go.Shelf

theorem cut_uniq {c : UInt8} : ∀ {a a' r r' : List UInt8}, a ++ c :: r = a' ++ c :: r' → c ∉ a → c ∉ a' → a = a' ∧ r = r'
  | [], [], _, _, h, _, _ => by simp at h; exact ⟨rfl, h⟩
  | [], b :: _, _, _, h, _, h2 => by simp at h; exact absurd (by simp [h.1]) h2
  | b :: _, [], _, _, h, h1, _ => by simp at h; exact absurd (by simp [h.1]) h1
  | b :: a, b' :: a', r, r', h, h1, h2 => by
    simp only [List.cons_append, List.cons.injEq] at h
    obtain ⟨rfl, h⟩ := h
    obtain ⟨rfl, h3⟩ := cut_uniq h (fun h => h1 (by simp [h])) (fun h => h2 (by simp [h]))
    exact ⟨rfl, h3⟩

/-- Parts joined by c. -/
def joinC (c : UInt8) : List (List UInt8) → List UInt8
  | [] => []
  | [a] => a
  | a :: b :: l => a ++ c :: joinC c (b :: l)
theorem joinC_uniq {c : UInt8} : ∀ {l l' : List (List UInt8)}, l ≠ [] → l' ≠ [] → joinC c l = joinC c l' → (∀ p ∈ l, c ∉ p) → (∀ p ∈ l', c ∉ p) → l = l'
  | [], _, h, _, _, _, _ => absurd rfl h
  | _ :: _, [], _, h, _, _, _ => absurd rfl h
  | [a], [a'], _, _, h, _, _ => by simp [joinC] at h; rw [h]
  | [a], a' :: b' :: l', _, _, h, h1, _ => by
    simp only [joinC] at h
    exact absurd (by rw [h]; simp) (h1 a (by simp))
  | a :: b :: l, [a'], _, _, h, _, h2 => by
    simp only [joinC] at h
    exact absurd (by rw [← h]; simp) (h2 a' (by simp))
  | a :: b :: l, a' :: b' :: l', _, _, h, h1, h2 => by
    simp only [joinC] at h
    obtain ⟨rfl, h3⟩ := cut_uniq h (h1 a (by simp)) (h2 a' (by simp))
    rw [joinC_uniq (l := b :: l) (l' := b' :: l') (by simp) (by simp) h3 (fun p hp => h1 p (by simp only [List.mem_cons] at hp ⊢; exact .inr hp)) (fun p hp => h2 p (by simp only [List.mem_cons] at hp ⊢; exact .inr hp))]

theorem occ_one {s : List UInt8} {c : UInt8} {j : Nat} : Lib.occAt s [c] j = true ↔ s[j]? = some c := by
  constructor
  · exact fun h => Lib.occAt_head rfl h
  · intro h
    obtain ⟨hj, he⟩ := List.getElem?_eq_some_iff.1 h
    unfold Lib.occAt
    rw [List.drop_eq_getElem_cons hj, he]; simp
theorem index_one {s : List UInt8} {c : UInt8} : (Lib.index s [c] = -1 ∧ c ∉ s) ∨ (∃ i : Nat, Lib.index s [c] = i ∧ i < s.length ∧ s = s.take i ++ c :: s.drop (i + 1) ∧ c ∉ s.take i) := by
  rcases Lib.index_spec s [c] with ⟨h1, h2⟩ | ⟨i, h1, h2, h3, h4⟩
  · refine .inl ⟨h1, fun hm => ?_⟩
    obtain ⟨j, hj, he⟩ := List.getElem_of_mem hm
    have := h2 j (by omega)
    rw [Bool.eq_false_iff] at this
    exact this (occ_one.2 (by rw [List.getElem?_eq_getElem hj, he]))
  · obtain ⟨hi, he⟩ := List.getElem?_eq_some_iff.1 (occ_one.1 h3)
    refine .inr ⟨i, h1, hi, ?_, fun hm => ?_⟩
    · conv => lhs; rw [← List.take_append_drop i s, List.drop_eq_getElem_cons hi, he]
    · obtain ⟨j, hj, hje⟩ := List.getElem_of_mem hm
      rw [List.length_take] at hj
      rw [List.getElem_take] at hje
      have := h4 j (by omega)
      rw [Bool.eq_false_iff] at this
      exact this (occ_one.2 (by rw [List.getElem?_eq_getElem (by omega), hje]))

theorem parts_join {c : UInt8} : ∀ (k : Nat) (s : ByteArray), Lib.countB s ⟨#[c]⟩ = k →
    joinC c ((Lib.splitB ⟨#[c]⟩ 0 k s).map (·.data.toList)) = s.data.toList ∧ ∀ p ∈ (Lib.splitB ⟨#[c]⟩ 0 k s).map (·.data.toList), c ∉ p := by
  intro k
  induction k with
  | zero =>
    intro s hk
    rw [Lib.splitB_zero]
    refine ⟨rfl, ?_⟩
    intro p hp
    simp only [List.map_cons, List.map_nil, List.mem_singleton] at hp
    subst hp
    rcases index_one (s := s.data.toList) (c := c) with ⟨-, h⟩ | ⟨i, h1, -⟩
    · exact h
    · have := Lib.countB_hit s ⟨#[c]⟩ i (Nat.le_refl 1) h1
      omega
  | succ k ih =>
    intro s hk
    rcases index_one (s := s.data.toList) (c := c) with ⟨h1, -⟩ | ⟨i, h1, h2, h3, h4⟩
    · have := Lib.countB_miss s ⟨#[c]⟩ h1
      omega
    · have hc := Lib.countB_hit s ⟨#[c]⟩ i (Nat.le_refl 1) h1
      have e1 : (⟨#[c]⟩ : ByteArray).size = 1 := rfl
      rw [e1] at hc
      rw [Lib.splitB_hit _ _ _ _ _ h1, e1]
      obtain ⟨j1, j2⟩ := ih (s.extract (i + 1) s.size) (by omega)
      have et : (s.extract 0 (i + 0)).data.toList = s.data.toList.take i := by rw [Nat.add_zero]; exact Lib.extract_from_zero s i
      have ed : (s.extract (i + 1) s.size).data.toList = s.data.toList.drop (i + 1) := by
        rw [Lib.extract_data, List.take_of_length_le (by rw [List.length_drop, ← Lib.size_eq]; omega)]
      rw [ed] at j1
      constructor
      · rw [List.map_cons, et]
        cases hl : (Lib.splitB ⟨#[c]⟩ 0 k (s.extract (i + 1) s.size)).map (·.data.toList) with
        | nil =>
          rw [hl] at j1
          have := Lib.splitB_all ⟨#[c]⟩ (Nat.le_refl 1) 0 k (s.extract (i + 1) s.size) (by omega)
          have h0 := congrArg List.length hl
          rw [List.length_map, this] at h0
          simp at h0
        | cons a l =>
          rw [hl] at j1
          show _ ++ c :: joinC c (a :: l) = _
          rw [j1]; exact h3.symm
      · intro p hp
        rw [List.map_cons, et, List.mem_cons] at hp
        rcases hp with rfl | hp
        · exact h4
        · exact j2 p hp
theorem parts_of {s : ByteArray} {l : List (List UInt8)} (hl : l ≠ []) (h : s.data.toList = joinC 32 l) (hn : ∀ p ∈ l, (32 : UInt8) ∉ p) : (partsB s).map (·.data.toList) = l := by
  obtain ⟨h1, h2⟩ := parts_join _ s rfl
  refine joinC_uniq ?_ hl (h1.trans h) h2 hn
  intro e
  have := congrArg List.length e
  rw [List.length_map] at this
  have h3 := Lib.splitB_all ⟨#[32]⟩ (by decide) 0 _ s rfl
  unfold partsB at this
  rw [h3] at this
  simp at this

/-- A number that a text may name. -/
def numOk (n : Int) : Prop := (-9223372036854775808 ≤ n ∧ n ≤ 9223372036854775807) ∧ (Lib.trimPrefix (Lib.itoa n) [45]).length ≤ 18
theorem intOk_iff {l : List UInt8} {n : Int} : intOk l n ↔ l = Lib.itoa n ∧ numOk n :=
  ⟨fun ⟨h1, h2, h3⟩ => ⟨h1, h2, by rw [← h1]; exact h3⟩, fun ⟨h1, h2, h3⟩ => ⟨h1, h2, by rw [h1]; exact h3⟩⟩
def okT (t : St) : Prop := (t.t = 0 ∨ t.t = 1) ∧ (0 ≤ t.n ∧ t.n ≤ 7) ∧ numOk t.x ∧ numOk t.y
/-- The line of a stone, without its end. -/
def lineB (t : St) : List UInt8 := (if t.t = 1 then 121 else 114) :: (Lib.itoa (t.n + 1) ++ 32 :: (Lib.itoa t.x ++ 32 :: Lib.itoa t.y))
theorem lineL_eq (t : St) : lineL t = lineB t ++ [10] := by unfold lineL lineB restL; simp
def lineOk (l : List UInt8) (t : St) : Prop := okT t ∧ l = lineB t

theorem itoa_byte {n : Int} {x : UInt8} (h : x ∈ Lib.itoa n) : x = 45 ∨ isDig x = true := by
  unfold Lib.itoa at h
  split at h
  · rcases List.mem_cons.1 h with h | h
    · exact .inl h
    · exact .inr (List.all_eq_true.1 (dd_all n.natAbs).1 x h)
  · exact .inr (List.all_eq_true.1 (dd_all n.toNat).1 x h)
theorem itoa_no {n : Int} {c : UInt8} (h1 : c ≠ 45) (h2 : isDig c = false) : c ∉ Lib.itoa n := by
  intro h
  rcases itoa_byte h with h | h
  · exact h1 h
  · rw [h2] at h; cases h
theorem itoa_name {n : Int} (h0 : 0 ≤ n) (h1 : n ≤ 7) : Lib.itoa (n + 1) = [UInt8.ofNat (49 + n.toNat)] := by
  unfold Lib.itoa
  rw [if_neg (by omega), Lib.decDigits, dif_pos (by omega)]
  congr 2
  omega
theorem lineOk_uniq {l : List UInt8} {t t' : St} (h : lineOk l t) (h' : lineOk l t') : t = t' := by
  obtain ⟨⟨k1, k2, k3, k4⟩, h⟩ := h
  obtain ⟨⟨m1, m2, m3, m4⟩, h'⟩ := h'
  rw [h] at h'
  unfold lineB at h'
  have n32 : ∀ n, (32 : UInt8) ∉ Lib.itoa n := fun n => itoa_no (by decide) (by decide)
  injection h' with e1 e2
  obtain ⟨e2, e3⟩ := cut_uniq e2 (n32 _) (n32 _)
  obtain ⟨e3, e4⟩ := cut_uniq e3 (n32 _) (n32 _)
  obtain ⟨t, n, x, y⟩ := t
  obtain ⟨t', n', x', y'⟩ := t'
  have inj : ∀ {a b : Int}, Lib.itoa a = Lib.itoa b → numOk a → numOk b → a = b := fun h ha hb => intOk_only (intOk_iff.2 ⟨rfl, ha⟩) (intOk_iff.2 ⟨h, hb⟩)
  simp only at k1 k2 k3 k4 m1 m2 m3 m4 e1 e2 e3 e4
  have f3 := inj e3 k3 m3
  have f4 := inj e4 k4 m4
  rw [itoa_name k2.1 k2.2, itoa_name m2.1 m2.2] at e2
  injection e2 with e2 _
  have f2 : n = n' := by
    have := congrArg UInt8.toNat e2
    simp at this; omega
  have f1 : t = t' := by
    rcases k1 with rfl | rfl <;> rcases m1 with rfl | rfl <;> first | rfl | (simp at e1)
  rw [f1, f2, f3, f4]

def stL (a b d : List UInt8) (t : St) : Prop :=
  t.t = Lib.indexByte [114, 121] (a.getD 0 0) ∧ t.n = (a.getD 1 0).toNat - 49 ∧ intOk b t.x ∧ intOk d t.y ∧ 0 ≤ t.t ∧ 0 ≤ t.n ∧ t.n ≤ 7
theorem letter_iff {c : UInt8} {t : Int} : (t = Lib.indexByte [114, 121] c ∧ 0 ≤ t) ↔ ((t = 0 ∨ t = 1) ∧ c = if t = 1 then 121 else 114) := by
  have h114 : (114 : UInt8) ≠ 121 := by decide
  unfold Lib.indexByte
  by_cases h1 : c = 114
  · subst h1
    simp only [beq_self_eq_true, if_true]
    constructor
    · rintro ⟨rfl, -⟩; simp
    · rintro ⟨rfl | rfl, h⟩
      · simp
      · simp at h
  · have e1 : ((114 : UInt8) == c) = false := by rw [beq_eq_false_iff_ne]; exact fun h => h1 h.symm
    rw [e1]
    unfold Lib.indexByte
    by_cases h2 : c = 121
    · subst h2
      simp only [beq_self_eq_true, if_true]
      constructor
      · rintro ⟨h, -⟩; have : t = 1 := by simpa using h
        subst this; simp
      · rintro ⟨rfl | rfl, h⟩
        · simp at h
        · simp
    · have e2 : ((121 : UInt8) == c) = false := by rw [beq_eq_false_iff_ne]; exact fun h => h2 h.symm
      rw [e2]
      unfold Lib.indexByte
      constructor
      · rintro ⟨h, h0⟩; simp at h; omega
      · rintro ⟨rfl | rfl, h⟩
        · simp at h; exact absurd h h1
        · simp at h; exact absurd h h2
theorem line_iff {l a b d : List UInt8} (hl : l = a ++ 32 :: (b ++ 32 :: d)) (ha : (32 : UInt8) ∉ a) (hb : (32 : UInt8) ∉ b) (t : St) : lineOk l t ↔ a.length = 2 ∧ stL a b d t := by
  have n32 : ∀ n, (32 : UInt8) ∉ Lib.itoa n := fun n => itoa_no (by decide) (by decide)
  obtain ⟨tt, n, x, y⟩ := t
  unfold lineOk okT stL
  simp only
  constructor
  · rintro ⟨⟨k1, k2, k3, k4⟩, h⟩
    unfold lineB at h
    simp only at h
    rw [hl] at h
    rw [itoa_name k2.1 k2.2] at h
    have h' : a ++ 32 :: (b ++ 32 :: d) = [if tt = 1 then 121 else 114, UInt8.ofNat (49 + n.toNat)] ++ 32 :: (Lib.itoa x ++ 32 :: Lib.itoa y) := h
    have hno : (32 : UInt8) ∉ [if tt = 1 then (121 : UInt8) else 114, UInt8.ofNat (49 + n.toNat)] := by
      intro hm
      simp only [List.mem_cons, List.not_mem_nil, or_false] at hm
      rcases hm with hm | hm
      · split at hm <;> simp at hm
      · have := congrArg UInt8.toNat hm
        simp at this; omega
    obtain ⟨e1, e2⟩ := cut_uniq h' ha hno
    obtain ⟨e3, e4⟩ := cut_uniq e2 hb (n32 _)
    subst e1 e3 e4
    refine ⟨rfl, ?_⟩
    obtain ⟨f1, f2⟩ := letter_iff.2 ⟨k1, rfl⟩
    refine ⟨f1, ?_, intOk_iff.2 ⟨rfl, k3⟩, intOk_iff.2 ⟨rfl, k4⟩, f2, k2.1, k2.2⟩
    show n = ((UInt8.ofNat (49 + n.toNat)).toNat : Int) - 49
    simp; omega
  · rintro ⟨h2, k1, k2, k3, k4, k5, k6, k7⟩
    match a, h2 with
    | [c, e], _ =>
      have k1' : tt = Lib.indexByte [114, 121] c := k1
      have k2' : n = (e.toNat : Int) - 49 := k2
      obtain ⟨f1, f2⟩ := letter_iff.1 ⟨k1', k5⟩
      rw [intOk_iff] at k3 k4
      refine ⟨⟨f1, ⟨k6, k7⟩, k3.2, k4.2⟩, ?_⟩
      unfold lineB
      simp only
      rw [hl, itoa_name k6 k7, ← k3.1, ← k4.1, ← f2]
      have : e = UInt8.ofNat (49 + n.toNat) := by
        apply UInt8.toNat_inj.1
        have := e.toNat_lt
        simp; omega
      rw [← this]; rfl
/-- A line is three parts. -/
theorem line_parts {l : List UInt8} {t : St} (h : lineOk l t) : ∃ a b d, l = joinC 32 [a, b, d] ∧ ∀ p ∈ [a, b, d], (32 : UInt8) ∉ p := by
  have n32 : ∀ n, (32 : UInt8) ∉ Lib.itoa n := fun n => itoa_no (by decide) (by decide)
  obtain ⟨⟨k1, k2, k3, k4⟩, h⟩ := h
  refine ⟨(if t.t = 1 then 121 else 114) :: Lib.itoa (t.n + 1), Lib.itoa t.x, Lib.itoa t.y, h, ?_⟩
  intro p hp
  simp only [List.mem_cons, List.not_mem_nil, or_false] at hp
  rcases hp with rfl | rfl | rfl
  · intro hm
    rcases List.mem_cons.1 hm with hm | hm
    · split at hm <;> simp at hm
    · exact n32 _ hm
  · exact n32 _
  · exact n32 _

theorem ErrMem.up {w w' : World} (h : ErrMem w) (hb : Below w.heap.size w w') : ErrMem w' := by
  obtain ⟨⟨e1, c1, k1⟩, ⟨e2, c2, k2⟩, m, c3⟩ := h
  exact ⟨⟨e1, upc c1 hb, k1⟩, ⟨e2, upc c2 hb, k2⟩, m, upc c3 hb⟩
/-- The contract of stone, and of the document's line. -/
def StA (s : ByteArray) (w : World) (e : Ending) (w' : World) : Prop := (∃ t v, e = .returned (.tuple #[Stv t, .bool v]) ∧ (v = true → lineOk s.data.toList t) ∧ (v = false → ∀ t, ¬ lineOk s.data.toList t)) ∧ Below w.heap.size w w'
theorem stone_any (s : ByteArray) (hs : s.size ≤ 2000) (w : World) (hT : Tab w) (hE : ErrMem w) : Calls Tryz.prog 51 #[.string s] w (StA s w) := by
  obtain ⟨m, hm⟩ := hE.2.2
  by_cases hc : Lib.countB s ⟨#[32]⟩ = 2
  · have hlen : (partsB s).length = 3 := by unfold partsB; rw [Lib.splitB_all ⟨#[32]⟩ (by decide) 0 _ s rfl, hc]
    obtain ⟨a, b, d, hp⟩ : ∃ a b d, partsB s = [a, b, d] := by
      match partsB s, hlen with
      | [a, b, d], _ => exact ⟨a, b, d, rfl⟩
    obtain ⟨j1, j2⟩ := parts_join (c := 32) _ s rfl
    have hp' : (Lib.splitB ⟨#[32]⟩ 0 (Lib.countB s ⟨#[32]⟩) s) = [a, b, d] := hp
    rw [hp'] at j1 j2
    have hl : s.data.toList = a.data.toList ++ 32 :: (b.data.toList ++ 32 :: d.data.toList) := j1.symm
    have na : (32 : UInt8) ∉ a.data.toList := j2 _ (by simp)
    have nb : (32 : UInt8) ∉ b.data.toList := j2 _ (by simp)
    have hsz := congrArg List.length hl
    simp only [List.length_append, List.length_cons, ← Lib.size_eq] at hsz
    by_cases ha : a.size = 2
    · refine (stone_long s hs w m hm a b d hp ha (by omega) (by omega) hT (fun W hb => hE.up hb)).mono ?_
      rintro e w' ⟨⟨t, v, he, h1, h0⟩, hb⟩
      have ha' : a.data.toList.length = 2 := by rw [← Lib.size_eq]; exact ha
      refine ⟨⟨t, v, he, fun h => (line_iff hl na nb t).2 ⟨ha', h1 h⟩, fun h t' hx => h0 h t' ((line_iff hl na nb t').1 hx).2⟩, hb⟩
    · refine (stone_short s hs w m hm a b d hp ha).mono ?_
      rintro e w' ⟨⟨t, he⟩, hb⟩
      refine ⟨⟨t, false, he, nofun, fun _ t' hx => ha ?_⟩, hb⟩
      have := ((line_iff hl na nb t').1 hx).1
      rw [Lib.size_eq]; exact this
  · refine (stone_no s hs w m hm _ rfl hc).mono ?_
    rintro e w' ⟨⟨t, he⟩, hb⟩
    refine ⟨⟨t, false, he, nofun, fun _ t' hx => hc ?_⟩, hb⟩
    obtain ⟨a, b, d, h1, h2⟩ := line_parts hx
    have h3 := congrArg List.length (parts_of (by simp) h1 h2)
    rw [List.length_map] at h3
    have h4 := Lib.splitB_all ⟨#[32]⟩ (by decide) 0 _ s rfl
    unfold partsB at h3
    rw [h4] at h3
    simpa using h3

/-- Where a text stops to be one of at most so many stones: at its end, or at a place. -/
inductive POut
  | ok (l : List St)
  | bad (k : Nat)
def ParC (c : Nat) (s : List UInt8) : POut → Prop
  | .ok l => s = printL l ∧ (∀ t ∈ l, okT t) ∧ l.length ≤ c
  | .bad k => ∃ l rest, s = printL l ++ rest ∧ (∀ t ∈ l, okT t) ∧ l.length ≤ c ∧ rest ≠ [] ∧ k = (printL l).length ∧ (l.length = c ∨ ∀ t r, okT t → rest ≠ lineB t ++ 10 :: r)
theorem print_cons (t : St) (l : List St) (r : List UInt8) : printL (t :: l) ++ r = lineB t ++ 10 :: (printL l ++ r) := by
  unfold printL; rw [List.flatMap_cons, lineL_eq]; simp
theorem print_cons0 (t : St) (l : List St) : printL (t :: l) = lineB t ++ 10 :: printL l := by
  have := print_cons t l []; simpa using this
theorem lineB_no (t : St) : (10 : UInt8) ∉ lineB t := by
  have n10 : ∀ n, (10 : UInt8) ∉ Lib.itoa n := fun n => itoa_no (by decide) (by decide)
  unfold lineB
  intro hm
  simp only [List.mem_cons, List.mem_append] at hm
  rcases hm with hm | hm | hm | hm | hm | hm
  · split at hm <;> simp at hm
  · exact n10 _ hm
  · simp at hm
  · exact n10 _ hm
  · simp at hm
  · exact n10 _ hm
theorem first_uniq {t t' : St} {r r' : List UInt8} (h : lineB t ++ 10 :: r = lineB t' ++ 10 :: r') (ht : okT t) (ht' : okT t') : t = t' ∧ r = r' := by
  obtain ⟨h1, h2⟩ := cut_uniq h (lineB_no t) (lineB_no t')
  exact ⟨lineOk_uniq ⟨ht, rfl⟩ ⟨ht', h1⟩, h2⟩
theorem parC_nil {c : Nat} {o : POut} (h : ParC c [] o) : o = .ok [] := by
  cases o with
  | ok l =>
    cases l with
    | nil => rfl
    | cons t l => have := h.1; rw [print_cons0] at this; simp at this
  | bad k =>
    obtain ⟨l, rest, h1, -, -, h2, -⟩ := h
    have := congrArg List.length h1
    rw [List.length_append] at this
    have := List.length_pos_iff.2 h2
    simp at *; omega
theorem parC_stop {c : Nat} {s : List UInt8} {o : POut} (hs : s ≠ []) (h0 : c = 0 ∨ ∀ t r, okT t → s ≠ lineB t ++ 10 :: r) (h : ParC c s o) : o = .bad 0 := by
  cases o with
  | ok l =>
    cases l with
    | nil => exact absurd h.1 hs
    | cons t l =>
      obtain ⟨h1, h2, h3⟩ := h
      rcases h0 with rfl | h0
      · simp at h3
      · exact absurd (h1.trans (print_cons0 t l)) (h0 t _ (h2 t (by simp)))
  | bad k =>
    obtain ⟨l, rest, h1, h2, h3, -, h4, -⟩ := h
    cases l with
    | nil => rw [h4]; rfl
    | cons t l =>
      rcases h0 with rfl | h0
      · simp at h3
      · exact absurd (h1.trans (print_cons t l rest)) (h0 t _ (h2 t (by simp)))
theorem parC_step {c : Nat} {t : St} {r : List UInt8} {o : POut} (ht : okT t) (h : ParC (c + 1) (lineB t ++ 10 :: r) o) :
    ∃ o', ParC c r o' ∧ o = match o' with | .ok l => .ok (t :: l) | .bad k => .bad ((lineB t).length + 1 + k) := by
  cases o with
  | ok l =>
    obtain ⟨h1, h2, h3⟩ := h
    cases l with
    | nil => simp [printL] at h1
    | cons t' l =>
      rw [print_cons0] at h1
      obtain ⟨rfl, e⟩ := first_uniq h1 ht (h2 t' (by simp))
      exact ⟨.ok l, ⟨e, fun x hx => h2 x (by simp [hx]), by simpa using h3⟩, rfl⟩
  | bad k =>
    obtain ⟨l, rest, h1, h2, h3, h4, h5, h6⟩ := h
    cases l with
    | nil =>
      rcases h6 with h6 | h6
      · simp at h6
      · exact absurd h1.symm (h6 t r ht)
    | cons t' l =>
      rw [print_cons] at h1
      obtain ⟨rfl, e⟩ := first_uniq h1 ht (h2 t' (by simp))
      refine ⟨.bad (printL l).length, ⟨l, rest, e, fun x hx => h2 x (by simp [hx]), by simpa using h3, h4, rfl, h6.imp_left fun h => by simpa using h⟩, ?_⟩
      simp only
      rw [h5, print_cons0]; simp; omega
theorem parC_only : ∀ (c : Nat) (s : List UInt8) (o o' : POut), ParC c s o → ParC c s o' → o = o'
  | c, s, o, o', h, h' => by
    by_cases hs : s = []
    · subst hs; rw [parC_nil h, parC_nil h']
    · cases c with
      | zero => rw [parC_stop hs (.inl rfl) h, parC_stop hs (.inl rfl) h']
      | succ c =>
        by_cases hx : ∃ t r, okT t ∧ s = lineB t ++ 10 :: r
        · obtain ⟨t, r, ht, rfl⟩ := hx
          obtain ⟨p, h1, rfl⟩ := parC_step ht h
          obtain ⟨p', h2, rfl⟩ := parC_step ht h'
          rw [parC_only c r p p' h1 h2]
        · have hx' : ∀ t r, okT t → s ≠ lineB t ++ 10 :: r := fun t r ht he => hx ⟨t, r, ht, he⟩
          rw [parC_stop hs (.inr hx') h, parC_stop hs (.inr hx') h']
end Go.Proofs.YtmhlialdbggmdaaGreatDoor
