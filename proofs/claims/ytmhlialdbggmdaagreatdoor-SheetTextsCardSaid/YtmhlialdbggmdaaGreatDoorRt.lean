/- Contracts of the document's texts: cut, integer. -/
import Derived.Test.YtmhlialdbggmdaaGreatDoorPa
namespace Go.Proofs.YtmhlialdbggmdaaGreatDoor
open Go.RowKit Go.Proofs Go.Shelf

def CutP (s : ByteArray) (q : Int) (w : World) (e : Ending) (w' : World) : Prop :=
  ((∃ i : Nat, i < s.size ∧ q = i ∧ e = .returned (.tuple #[.string (s.extract 0 i), .string (s.extract (i + 1) s.size), .bool true])) ∨
      (q = -1 ∧ e = .returned (.tuple #[.string s, .string ⟨#[]⟩, .bool false]))) ∧ Below w.heap.size w w'
set_option maxHeartbeats 1000000 in
/-- The document's cut: at the first byte c of a text. -/
theorem cut_any (s : ByteArray) (c : UInt8) (hs : s.size ≤ 100000) (w : World) :
    Calls Tryz.prog 52 #[.string s, .int .u8 c.toNat] w (CutP s (Lib.indexByte s.data.toList c) w) := by
  obtain ⟨q, hq⟩ : ∃ q, Lib.indexByte s.data.toList c = q := ⟨_, rfl⟩
  have HQ := Lib.hid hq
  rw [hq]
  have hcb := c.toNat_lt
  go_enter Tryz.func52, Tryz.ntmps52
  go_wp2_with fail
  go_loop [7] (fun iv => ∃ k : Nat, k ≤ s.size ∧ iv = .int .i64 k ∧ Hid (∀ j, j < k → s.data.toList[j]? ≠ some c)) (fun iv => s.size - (intOf iv).toNat)
  case atStart => exact ⟨0, by omega, rfl, fun j hj => by omega⟩
  case round =>
    obtain ⟨k, hk, rfl, hn⟩ := hrel
    have HN := Lib.hid hn.out
    clear hn
    by_cases hlt : k < s.size
    · have hkl : k < s.data.toList.length := by rw [← Lib.size_eq]; exact hlt
      have hbk : s.data.toList[k]? = some s[k] := by rw [List.getElem?_eq_getElem hkl]; rfl
      obtain ⟨b, hb⟩ : ∃ b, s[k] = b := ⟨_, rfl⟩
      by_cases hbc : b = c
      · have hi : q = (k : Int) := by
          by_cases h : Lib.indexByte s.data.toList c = -1
          case neg =>
            have hge := Lib.indexByte_ge s.data.toList c
            obtain ⟨m, hm⟩ := Int.eq_ofNat_of_zero_le (show 0 ≤ Lib.indexByte s.data.toList c by omega)
            obtain ⟨h1, h2⟩ := Lib.indexByte_some hm
            rw [← hq, hm]
            have : m = k := by
              rcases Nat.lt_trichotomy m k with h3 | h3 | h3
              · exact absurd h1 (HN.out m h3)
              · exact h3
              · exact absurd (by rw [hbk, hb, hbc]) (h2 k h3)
            rw [this]
          case pos => exact absurd (by rw [hbk, hb, hbc]) (Lib.indexByte_none h k)
        subst hbc
        have hbe : ((b.toNat : Int) == (b.toNat : Int)) = true := by simp
        have hi1 : (k : Int) + 1 ≤ (s.size : Int) := by omega
        clear hq hbk
        go_wp2_with fail
        go_quiet (fail)
        go_wp2_with fail
        exact bodyPost_ret (v := .tuple #[.string (s.extract 0 k), .string (s.extract (k + 1) s.size), .bool true]) (by simp [results, Tryz.results52, go_sem]) rfl ⟨.inl ⟨k, hlt, hi, rfl⟩, below_drewN (Below.refl _ _) _⟩
      · have hbe : ((b.toNat : Int) == (c.toNat : Int)) = false := by
          rw [beq_eq_false_iff_ne]; intro h; exact hbc (UInt8.toNat_inj.1 (by omega))
        clear hq
        go_wp2_with fail
        go_round
        case rel =>
          refine ⟨k + 1, by omega, by go_num, fun j hj => ?_⟩
          by_cases e : j = k
          · subst e; rw [hbk, hb]; exact fun h => hbc (Option.some.inj h)
          · exact HN.out j (by omega)
        case measure => simp [intOf]; omega
    · obtain rfl : k = s.size := by omega
      have hi : q = -1 := by
        rw [← hq]
        by_cases h : Lib.indexByte s.data.toList c = -1
        · exact h
        · have hge := Lib.indexByte_ge s.data.toList c
          obtain ⟨m, hm⟩ := Int.eq_ofNat_of_zero_le (show 0 ≤ Lib.indexByte s.data.toList c by omega)
          obtain ⟨h1, -⟩ := Lib.indexByte_some hm
          have := (List.getElem?_eq_some_iff.1 h1).1
          rw [← Lib.size_eq] at this
          exact absurd h1 (HN.out m this)
      clear hq
      go_wp2_with fail
      exact bodyPost_ret (v := .tuple #[.string s, .string ⟨#[]⟩, .bool false]) (by simp [results, Tryz.results52, go_sem]) rfl ⟨.inr ⟨by first | exact hi | rfl, rfl⟩, Below.refl _ _⟩

/-- Digits without a needless zero are the text of their number. -/
theorem dd_of : ∀ (k : Nat) (l : List UInt8), l.length = k + 1 → l.all isDig = true → (l.length = 1 ∨ l.getD 0 0 ≠ 48) → Lib.decDigits (numN l) = l
  | 0, l, hl, hd, _ => by
    match l, hl with
    | [b], _ =>
      simp only [List.all_cons, List.all_nil, Bool.and_true] at hd
      unfold isDig at hd
      simp only [decide_eq_true_eq] at hd
      have e : numN [b] = b.toNat - 48 := by rw [numN_cons]; simp [numN, digs, dval]
      rw [e, Lib.decDigits, dif_pos (by omega)]
      congr 1
      apply UInt8.toNat_inj.1
      rw [ofNat_dig (by omega)]; omega
  | k + 1, l, hl, hd, hz => by
    have hne : l ≠ [] := by intro e; subst e; simp at hl
    obtain ⟨m, b, rfl⟩ : ∃ m b, l = m ++ [b] := ⟨l.dropLast, l.getLast hne, (List.dropLast_concat_getLast hne).symm⟩
    have hml : m.length = k + 1 := by simpa using hl
    rw [List.all_append, Bool.and_eq_true] at hd
    have hb : isDig b = true := by simpa using hd.2
    unfold isDig at hb
    simp only [decide_eq_true_eq] at hb
    have h0 : m.getD 0 0 ≠ 48 := by
      rcases hz with h | h
      · rw [hl] at h; omega
      · intro e; apply h
        rw [List.getD_eq_getElem?_getD, List.getElem?_append_left (by omega), ← List.getD_eq_getElem?_getD]; exact e
    have ih := dd_of k m hml hd.1 (.inr h0)
    have hm1 : 1 ≤ numN m := by
      cases m with
      | nil => simp at hml
      | cons c m =>
        have hc : isDig c = true := by have := hd.1; simp only [List.all_cons, Bool.and_eq_true] at this; exact this.1
        unfold isDig at hc
        simp only [decide_eq_true_eq] at hc
        have hc0 : c ≠ 48 := by simpa using h0
        have : c.toNat ≠ 48 := fun h => hc0 (UInt8.toNat_inj.1 h)
        rw [numN_cons]
        have : 1 ≤ (c.toNat - 48) * 10 ^ m.length := Nat.mul_pos (by omega) (Nat.pow_pos (by omega))
        omega
    rw [numN_snoc, Lib.decDigits, dif_neg (by omega)]
    have e1 : (numN m * 10 + (b.toNat - 48)) / 10 = numN m := by omega
    have e2 : (numN m * 10 + (b.toNat - 48)) % 10 = b.toNat - 48 := by omega
    rw [e1, e2, ih]
    congr 2
    apply UInt8.toNat_inj.1
    rw [ofNat_dig (by omega)]; omega
theorem numN_lt : ∀ (l : List UInt8), l.all isDig = true → numN l < 10 ^ l.length
  | [], _ => by simp [numN, digs, dval]
  | c :: l, h => by
    simp only [List.all_cons, Bool.and_eq_true] at h
    have ih := numN_lt l h.2
    have hc := h.1
    unfold isDig at hc
    simp only [decide_eq_true_eq] at hc
    rw [numN_cons, List.length_cons, Nat.pow_succ]
    have : (c.toNat - 48) * 10 ^ l.length ≤ 9 * 10 ^ l.length := Nat.mul_le_mul_right _ (by omega)
    omega

/-- What is left of a numeral behind its sign. -/
def bareOk (r : List UInt8) : Prop := (1 ≤ r.length ∧ r.length ≤ 18) ∧ r.all isDig = true ∧ (r.length = 1 ∨ r.getD 0 0 ≠ 48)
theorem bare_dd (u : Nat) (h : (Lib.decDigits u).length ≤ 18) : bareOk (Lib.decDigits u) := by
  obtain ⟨h1, h2, h3, h4⟩ := dd_all u
  refine ⟨⟨List.length_pos_iff.2 h2, h⟩, h1, ?_⟩
  by_cases hu : 1 ≤ u
  · exact .inr (h4 hu)
  · left; have : u = 0 := by omega
    subst this; rw [Lib.decDigits, dif_pos (by decide)]; rfl
theorem trim_minus (r : List UInt8) : Lib.trimPrefix (45 :: r) [45] = r := by unfold Lib.trimPrefix Lib.hasPrefix; simp
theorem trim_plain {r : List UInt8} (h : ∀ r', r ≠ 45 :: r') : Lib.trimPrefix r [45] = r := by
  unfold Lib.trimPrefix Lib.hasPrefix
  cases r with
  | nil => rfl
  | cons c r =>
    have : c ≠ 45 := fun e => h r (by rw [e])
    have e : ([45] : List UInt8).isPrefixOf (c :: r) = false := by
      rw [Bool.eq_false_iff]; intro h'; simp at h'; exact this h'.symm
    rw [e]; rfl
theorem dd_head (u : Nat) : ∀ r', Lib.decDigits u ≠ 45 :: r' := by
  intro r' h
  have := (dd_all u).1
  rw [h] at this
  simp [isDig] at this
theorem bound18 {r : List UInt8} (h : bareOk r) : numN r < 1000000000000000000 := by
  have h1 := numN_lt r h.2.1
  have h2 : 10 ^ r.length ≤ 10 ^ 18 := Nat.pow_le_pow_right (by omega) h.1.2
  have h3 : (10 : Nat) ^ 18 = 1000000000000000000 := by decide
  omega
theorem bare_pos {r : List UInt8} (h : bareOk r) (h0 : r.getD 0 0 ≠ 48) : 1 ≤ numN r := by
  cases r with
  | nil => have := h.1.1; simp at this
  | cons c r =>
    have hc : isDig c = true := by have := h.2.1; simp only [List.all_cons, Bool.and_eq_true] at this; exact this.1
    unfold isDig at hc
    simp only [decide_eq_true_eq] at hc
    have hc0 : c ≠ 48 := by simpa using h0
    have : c.toNat ≠ 48 := fun h => hc0 (UInt8.toNat_inj.1 h)
    rw [numN_cons]
    have : 1 ≤ (c.toNat - 48) * 10 ^ r.length := Nat.mul_pos (by omega) (Nat.pow_pos (by omega))
    omega
theorem int_plain {r : List UInt8} (h : bareOk r) : intOk r (numN r : Nat) := by
  have hb := bound18 h
  obtain ⟨k, hk⟩ : ∃ k, r.length = k + 1 := ⟨r.length - 1, by have := h.1.1; omega⟩
  have e := dd_of k r hk h.2.1 h.2.2
  refine ⟨?_, ⟨by omega, by omega⟩, ?_⟩
  · unfold Lib.itoa; rw [if_neg (by omega), Int.toNat_natCast, e]
  · rw [trim_plain (by rw [← e]; exact dd_head _)]; exact h.1.2
theorem int_minus {r : List UInt8} (h : bareOk r) (h0 : r.getD 0 0 ≠ 48) : intOk (45 :: r) (-(numN r : Nat)) := by
  have hb := bound18 h
  have hp := bare_pos h h0
  obtain ⟨k, hk⟩ : ∃ k, r.length = k + 1 := ⟨r.length - 1, by have := h.1.1; omega⟩
  have e := dd_of k r hk h.2.1 h.2.2
  refine ⟨?_, ⟨by omega, by omega⟩, ?_⟩
  · unfold Lib.itoa; rw [if_pos (by omega), show (-(numN r : Int)).natAbs = numN r by omega, e]
  · rw [trim_minus]; exact h.1.2
/-- A numeral's form. -/
theorem int_form {l : List UInt8} {m : Int} (h : intOk l m) : (∃ r, l = 45 :: r ∧ bareOk r ∧ r.getD 0 0 ≠ 48) ∨ bareOk l := by
  obtain ⟨h1, -, h3⟩ := h
  unfold Lib.itoa at h1
  split at h1
  · rename_i hm
    rw [h1, trim_minus] at h3
    exact .inl ⟨_, h1, bare_dd _ h3, (dd_all _).2.2.2 (by omega)⟩
  · rw [h1, trim_plain (dd_head _)] at h3
    rw [h1]; exact .inr (bare_dd _ h3)
end Go.Proofs.YtmhlialdbggmdaaGreatDoor
