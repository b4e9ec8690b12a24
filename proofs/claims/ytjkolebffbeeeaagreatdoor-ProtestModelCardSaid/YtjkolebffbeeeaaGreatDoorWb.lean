/- Lists of strings and of numbers compared; whether a string is in a list; names, by the document. -/
import Derived.Test.YtjkolebffbeeeaaGreatDoorWa
namespace Go.Proofs.YtjkolebffbeeeaaGreatDoor
open Go Go.RowKit Go.Proofs
attribute [local irreducible] J JQ JL JA JD

theorem ba_len (s : ByteArray) : s.data.toList.length = s.size := by unfold ByteArray.size; rw [Array.length_toList]
theorem ba_get {s : ByteArray} {i : Nat} (h : i < s.size) : s[i]? = some (s.data.toList[i]'(by rw [ba_len]; exact h)) := by
 rw [getElem?_pos s i h]; rfl
/-- Strings in order. -/
theorem lt_irr : ∀ a : List UInt8, Op.bytesLess a a = false
 | [] => rfl
 | x :: a => by unfold Op.bytesLess; simp [lt_irr a]
theorem lt_tot : ∀ a b : List UInt8, (Op.bytesLess a b || decide (a = b)) = !Op.bytesLess b a
 | [], [] => rfl
 | [], _ :: _ => rfl
 | _ :: _, [] => rfl
 | x :: a, y :: b => by
  have ih := lt_tot a b
  unfold Op.bytesLess
  rcases Nat.lt_trichotomy x.toNat y.toNat with h | h | h
  ·have h1 : x < y := h
   have h2 : ¬ y < x := fun h' => by have : y.toNat < x.toNat := h'; omega
   have h3 : ¬ y = x := by rintro rfl; omega
   simp [h1, h2, h3]
  ·have h1 : x = y := UInt8.toNat_inj.1 h
   subst h1
   have h2 : ¬ x < x := fun h' => by have : x.toNat < x.toNat := h'; omega
   simpa [h2] using ih
  ·have h1 : y < x := h
   have h2 : ¬ x < y := fun h' => by have : x.toNat < y.toNat := h'; omega
   have h3 : ¬ x = y := by rintro rfl; omega
   simp [h1, h2, h3]
theorem ltS_tot (a b : ByteArray) : (ltS a b || decide (a = b)) = !ltS b a := by
 have := lt_tot a.toList b.toList
 rw [← ba_list]
 unfold ltS
 rw [← this]
 congr 1
 by_cases h : a.toList = b.toList <;> simp [h]
theorem ltS_irr (a : ByteArray) : ltS a a = false := lt_irr _
/-- A byte of a name; a name; names that strictly rise. -/
def ncB (c : UInt8) : Bool := decide (97 ≤ c.toNat ∧ c.toNat ≤ 122) || decide (48 ≤ c.toNat ∧ c.toNat ≤ 57) || decide (c.toNat = 45)
def hdB (s : ByteArray) : Bool := match s.data.toList with | [] => false | c :: _ => decide (97 ≤ c.toNat ∧ c.toNat ≤ 122)
def nameB (s : ByteArray) : Bool := decide (1 ≤ (s.size : Int) ∧ (s.size : Int) ≤ 32) && hdB s && s.data.toList.all ncB
def risL : Option ByteArray → List ByteArray → Bool
 | _, [] => true
 | p, x :: l => (nameB x && match p with | none => true | some y => ltS y x) && risL (some x) l
def prev (l : List ByteArray) (i : Nat) : Option ByteArray := if i = 0 then none else l[i - 1]?
def namesB (l : List ByteArray) (m : Int) : Bool := risL none l && decide ((l.length : Int) ≤ m)
theorem hdB_of {s : ByteArray} {c : UInt8} (h : 0 < s.size) (hc : s.data.toList[0]'(by rw [ba_len]; exact h) = c) : hdB s = decide (97 ≤ c.toNat ∧ c.toNat ≤ 122) := by
 unfold hdB
 have hl := ba_len s
 cases e : s.data.toList with
 | nil => rw [e] at hl; simp at hl; omega
 | cons x r => simp only [e, List.getElem_cons_zero] at hc; subst hc; rfl
theorem hdB_head {s : ByteArray} {c : UInt8} {r : List UInt8} (h : s.data.toList = c :: r) : hdB s = decide (97 ≤ c.toNat ∧ c.toNat ≤ 122) := by
 unfold hdB; rw [h]
set_option maxRecDepth 100000 in
set_option maxHeartbeats 4000000 in
theorem Same17 (l m : List ByteArray) (v u : Value) (w : World) (hl : Arr 1 eS w v l) (hm : Arr 1 eS w u m) : Calls Tryz.prog 17 #[v, u] w (Back (.bool (decide (l = m))) w) := by
 obtain ⟨A, cap, rfl, -, ⟨hlb, -⟩, hA⟩ := hl
 obtain ⟨A1, cap1, rfl, -, ⟨hmb, -⟩, hA1⟩ := hm
 refine J_enter (fun _ => False) (vs := [.slice A l.length cap, .slice A1 m.length cap1]) (k := 24) (l := [(0, .slice A l.length cap), (1, .slice A1 m.length cap1)]) Tryz.func17 rfl rfl Tryz.ntmps17 rfl rfl (Wd.start _) ?_
 refine s13 ?_
 refine JL_dec (fun h10 => ?_) (fun h10 => ?_)
 ·refine s4 ?_
  refine kJ [] ?_
  refine s6 ?_
  refine JR_one rfl (rr_tmp rfl) ?_
  intro w' hw
  exact ⟨by rw [decide_eq_false (fun e => h10 (by rw [e]))], hw.bel⟩
 ·refine s7 ?_
  refine kJ [(0, _), (1, _)] ?_
  refine s5 ?_
  refine xL (T := Nat) (fun k => k ≤ l.length ∧ l.take k = m.take k) (fun k => [(0, .slice A l.length cap), (1, .slice A1 m.length cap1), (5, .int .i64 (k : Nat))]) (fun k => []) (fun k => l.length - k) 0 ⟨Nat.zero_le _, rfl⟩ ?_
  rintro k ⟨hk, he⟩
  refine s7 ?_
  refine JL_dec (fun h14 => ?_) (fun h14 => ?_)
  ·refine s8 ?_
   have hlt : k < l.length := by omega
   have hlm : l.length = m.length := by omega
   obtain ⟨b, p, rfl, hh⟩ := hA (by intro e; subst e; simp at hlt)
   obtain ⟨c, q, rfl, hi⟩ := hA1 (by intro e; rw [e] at hlm; simp only [List.length_nil] at hlm; omega)
   obtain ⟨x, hx⟩ : ∃ x, l[k]'hlt = x := ⟨_, rfl⟩
   obtain ⟨y, hy⟩ : ∃ y, m[k]'(by omega) = y := ⟨_, rfl⟩
   refine kJ [(0, _), (1, _), (5, _)] ?_
   refine xD [0, 1, 2, 3, 4, 5, 6, 7, 8] [3, 7] ?_
   refine s3 ?_
   refine dL rfl (vHold rfl rfl (fun h => h) hh hlt (by omega) (by rw [hx]; rfl)) ?_
   refine s3 ?_
   refine dL rfl (vHold rfl rfl (fun h => h) hi (by omega) (by omega) (by rw [hy]; rfl)) ?_
   refine s1 ?_
   refine dDec (fun h25 => ?_) (fun h25 => ?_)
   ·have hne : ¬ l[k]'hlt = m[k]'(by omega) := by rw [hx, hy]; exact h25
    refine dO [] ?_
    refine s4 ?_
    refine kJ [] ?_
    refine s10 ?_
    refine JR_one rfl (rr_tmp rfl) ?_
    intro w' hw
    exact ⟨by rw [decide_eq_false (fun e => hne (by subst e; rfl))], hw.bel⟩
   ·have heq : l[k]'hlt = m[k]'(by omega) := by rw [hx, hy]; exact Decidable.not_not.1 h25
    refine dO [] ?_
    refine s6 ?_
    refine kJ [(0, _), (1, _), (5, _)] ?_
    refine s5 ?_
    have hsn : l.take (k + 1) = m.take (k + 1) := by rw [List.take_succ_eq_append_getElem hlt, List.take_succ_eq_append_getElem (by omega : k < m.length), he, heq]
    exact xR (k + 1) ⟨by omega, hsn⟩ (by omega)
  ·refine s9 ?_
   refine kJ [] ?_
   refine s5 ?_
   refine JR_one rfl (rr_tmp rfl) ?_
   intro w' hw
   have ek : k = l.length := by omega
   subst ek
   have e : l = m := by rw [List.take_length] at he; rw [he, List.take_of_length_le (by omega)]
   exact ⟨by rw [decide_eq_true e], hw.bel⟩
set_option maxRecDepth 100000 in
set_option maxHeartbeats 4000000 in
theorem Ints34 (l m : List Int) (v u : Value) (w : World) (hl : Arr 1 eI w v l) (hm : Arr 1 eI w u m) : Calls Tryz.prog 34 #[v, u] w (Back (.bool (decide (l = m))) w) := by
 obtain ⟨A, cap, rfl, -, ⟨hlb, -⟩, hA⟩ := hl
 obtain ⟨A1, cap1, rfl, -, ⟨hmb, -⟩, hA1⟩ := hm
 refine J_enter (fun _ => False) (vs := [.slice A l.length cap, .slice A1 m.length cap1]) (k := 24) (l := [(0, .slice A l.length cap), (1, .slice A1 m.length cap1)]) Tryz.func34 rfl rfl Tryz.ntmps34 rfl rfl (Wd.start _) ?_
 refine s13 ?_
 refine JL_dec (fun h10 => ?_) (fun h10 => ?_)
 ·refine s4 ?_
  refine kJ [] ?_
  refine s6 ?_
  refine JR_one rfl (rr_tmp rfl) ?_
  intro w' hw
  exact ⟨by rw [decide_eq_false (fun e => h10 (by rw [e]))], hw.bel⟩
 ·refine s7 ?_
  refine kJ [(0, _), (1, _)] ?_
  refine s5 ?_
  refine xL (T := Nat) (fun k => k ≤ l.length ∧ l.take k = m.take k) (fun k => [(0, .slice A l.length cap), (1, .slice A1 m.length cap1), (5, .int .i64 (k : Nat))]) (fun k => []) (fun k => l.length - k) 0 ⟨Nat.zero_le _, rfl⟩ ?_
  rintro k ⟨hk, he⟩
  refine s7 ?_
  refine JL_dec (fun h14 => ?_) (fun h14 => ?_)
  ·refine s8 ?_
   have hlt : k < l.length := by omega
   have hlm : l.length = m.length := by omega
   obtain ⟨b, p, rfl, hh⟩ := hA (by intro e; subst e; simp at hlt)
   obtain ⟨c, q, rfl, hi⟩ := hA1 (by intro e; rw [e] at hlm; simp only [List.length_nil] at hlm; omega)
   obtain ⟨x, hx⟩ : ∃ x, l[k]'hlt = x := ⟨_, rfl⟩
   obtain ⟨y, hy⟩ : ∃ y, m[k]'(by omega) = y := ⟨_, rfl⟩
   refine kJ [(0, _), (1, _), (5, _)] ?_
   refine xD [0, 1, 2, 3, 4, 5, 6, 7, 8] [3, 7] ?_
   refine s3 ?_
   refine dL rfl (vHold rfl rfl (fun h => h) hh hlt (by omega) (by rw [hx]; rfl)) ?_
   refine s3 ?_
   refine dL rfl (vHold rfl rfl (fun h => h) hi (by omega) (by omega) (by rw [hy]; rfl)) ?_
   refine s1 ?_
   refine dDec (fun h25 => ?_) (fun h25 => ?_)
   ·have hne : ¬ l[k]'hlt = m[k]'(by omega) := by rw [hx, hy]; exact h25
    refine dO [] ?_
    refine s4 ?_
    refine kJ [] ?_
    refine s10 ?_
    refine JR_one rfl (rr_tmp rfl) ?_
    intro w' hw
    exact ⟨by rw [decide_eq_false (fun e => hne (by subst e; rfl))], hw.bel⟩
   ·have heq : l[k]'hlt = m[k]'(by omega) := by rw [hx, hy]; exact Decidable.not_not.1 h25
    refine dO [] ?_
    refine s6 ?_
    refine kJ [(0, _), (1, _), (5, _)] ?_
    refine s5 ?_
    have hsn : l.take (k + 1) = m.take (k + 1) := by rw [List.take_succ_eq_append_getElem hlt, List.take_succ_eq_append_getElem (by omega : k < m.length), he, heq]
    exact xR (k + 1) ⟨by omega, hsn⟩ (by omega)
  ·refine s9 ?_
   refine kJ [] ?_
   refine s5 ?_
   refine JR_one rfl (rr_tmp rfl) ?_
   intro w' hw
   have ek : k = l.length := by omega
   subst ek
   have e : l = m := by rw [List.take_length] at he; rw [he, List.take_of_length_le (by omega)]
   exact ⟨by rw [decide_eq_true e], hw.bel⟩
set_option maxRecDepth 100000 in
set_option maxHeartbeats 4000000 in
theorem Has22 (l : List ByteArray) (x : ByteArray) (v : Value) (w : World) (hl : Arr 1 eS w v l) : Calls Tryz.prog 22 #[v, .string x] w (Back (.bool (decide (x ∈ l))) w) := by
 obtain ⟨A, cap, rfl, -, ⟨hlb, -⟩, hA⟩ := hl
 refine J_enter (fun _ => False) (vs := [.slice A l.length cap, .string x]) (k := 16) (l := [(0, .slice A l.length cap), (1, .string x)]) Tryz.func22 rfl rfl Tryz.ntmps22 rfl rfl (Wd.start _) ?_
 refine s12 ?_
 refine xL (T := Nat) (fun k => k ≤ l.length ∧ x ∉ l.take k) (fun k => [(0, .slice A l.length cap), (1, .string x), (5, .int .i64 (k : Nat))]) (fun k => []) (fun k => l.length - k) 0 ⟨Nat.zero_le _, by simp⟩ ?_
 rintro k ⟨hk, hno⟩
 refine s7 ?_
 refine JL_dec (fun h9 => ?_) (fun h9 => ?_)
 ·refine s8 ?_
  have hlt : k < l.length := by omega
  obtain ⟨b, p, rfl, hh⟩ := hA (by intro e; subst e; simp at hlt)
  obtain ⟨y, hy⟩ : ∃ y, l[k]'hlt = y := ⟨_, rfl⟩
  refine kJ [(0, _), (1, _), (5, _)] ?_
  refine s4 ?_
  refine aV (vHold rfl rfl (fun h => h) hh hlt (by omega) (by rw [hy]; rfl)) ?_
  refine s2 ?_
  refine JL_dec (fun h17 => ?_) (fun h17 => ?_)
  ·refine s4 ?_
   refine kJ [] ?_
   refine s10 ?_
   refine JR_one rfl (rr_tmp rfl) ?_
   intro w' hw
   exact ⟨by rw [decide_eq_true (show x ∈ l by rw [← h17, ← hy]; exact List.getElem_mem _)], hw.bel⟩
  ·refine s6 ?_
   refine kJ [(0, _), (1, _), (5, _)] ?_
   refine s5 ?_
   have hn : x ∉ l.take (k + 1) := by rw [List.take_succ_eq_append_getElem hlt, hy, List.mem_append, List.mem_singleton]; rintro (h | h); exact hno h; exact h17 h.symm
   exact xR (k + 1) ⟨by omega, hn⟩ (by omega)
 ·refine s9 ?_
  refine kJ [] ?_
  refine s5 ?_
  refine JR_one rfl (rr_tmp rfl) ?_
  intro w' hw
  have ek : k = l.length := by omega
  subst ek
  rw [List.take_length] at hno
  exact ⟨by rw [decide_eq_false hno], hw.bel⟩
set_option maxRecDepth 100000 in
set_option maxHeartbeats 4000000 in
theorem Name46 (s : ByteArray) (w : World) : Calls Tryz.prog 46 #[.string s] w (Back (.bool (nameB s)) w) := by
 refine J_enter (fun _ => False) (vs := [.string s]) (k := 45) (l := [(0, .string s)]) Tryz.func46 rfl rfl Tryz.ntmps46 rfl rfl (Wd.start _) ?_
 refine s7 ?_
 rcases Classical.em (1 ≤ (s.size : Int) ∧ (s.size : Int) ≤ 32) with h0 | h0
 ·obtain ⟨c0, hg0⟩ : ∃ c, s.data.toList[0]'(by rw [ba_len]; omega) = c := ⟨_, rfl⟩
  have hb0 : s[0]? = some c0 := by rw [ba_get (by omega), hg0]
  refine s3 ?_
  refine aCB (fun w hw => in58 _ _ _ w) ?_
  refine aDecT ?_ h0
  refine s3 ?_
  refine aP (pByte (i := 0) (b := c0) rfl rfl rfl hb0) ?_
  refine s1 ?_
  refine JL_dec (fun h12 => ?_) (fun h12 => ?_)
  ·refine s10 ?_
   refine kJ [] ?_
   refine s6 ?_
   refine JR_one rfl (rr_tmp rfl) ?_
   intro w' hw
   have e : nameB s = false := by unfold nameB; rw [hdB_of (by omega) hg0, decide_eq_false (by omega : ¬ (97 ≤ c0.toNat ∧ c0.toNat ≤ 122))]; simp
   rw [e]; exact ⟨rfl, hw.bel⟩
  ·refine s3 ?_
   refine aP (pByte (i := 0) (b := c0) rfl rfl rfl hb0) ?_
   refine s1 ?_
   refine JL_dec (fun h17 => ?_) (fun h17 => ?_)
   ·refine s5 ?_
    refine kJ [] ?_
    refine s6 ?_
    refine JR_one rfl (rr_tmp rfl) ?_
    intro w' hw
    have e : nameB s = false := by unfold nameB; rw [hdB_of (by omega) hg0, decide_eq_false (by omega : ¬ (97 ≤ c0.toNat ∧ c0.toNat ≤ 122))]; simp
    rw [e]; exact ⟨rfl, hw.bel⟩
   ·refine s8 ?_
    refine kJ [(0, _)] ?_
    refine s5 ?_
    refine xL (T := Nat) (fun k => k ≤ s.size ∧ (s.data.toList.take k).all ncB = true) (fun k => [(0, .string s), (3, .int .i64 (k : Nat))]) (fun k => []) (fun k => s.size - k) 0 ⟨Nat.zero_le _, rfl⟩ ?_
    rintro k ⟨hk, hal⟩
    refine s7 ?_
    refine JL_dec (fun h22 => ?_) (fun h22 => ?_)
    ·refine s8 ?_
     have hlt : k < s.size := by omega
     obtain ⟨c, hcg⟩ : ∃ c, s.data.toList[k]'(by rw [ba_len]; exact hlt) = c := ⟨_, rfl⟩
     have hcb : s[k]? = some c := by rw [ba_get hlt, hcg]
     refine kJ [(0, _), (3, _)] ?_
     refine s3 ?_
     refine aP (pByte (i := k) (b := c) rfl rfl rfl hcb) ?_
     refine s7 ?_
     refine JL_dec (fun h29 => ?_) (fun h29 => ?_)
     ·refine s7 ?_
      refine JL_dec (fun h36 => ?_) (fun h36 => ?_)
      ·refine s8 ?_
       refine JL_dec (fun h44 => ?_) (fun h44 => ?_)
       ·refine s5 ?_
        refine kJ [] ?_
        refine s10 ?_
        refine JR_one rfl (rr_tmp rfl) ?_
        intro w' hw
        have hc : ncB c = false := by unfold ncB; simp only [Bool.or_eq_false_iff, decide_eq_false_iff_not]; omega
        have e : nameB s = false := by
         unfold nameB
         have : s.data.toList.all ncB = false := by rw [List.all_eq_false]; exact ⟨c, by rw [← hcg]; exact List.getElem_mem _, by rw [hc]; simp⟩
         rw [this]; simp
        rw [e]; exact ⟨rfl, hw.bel⟩
       ·refine s7 ?_
        refine kJ [(0, _), (3, _)] ?_
        refine s5 ?_
        have hc : ncB c = true := by unfold ncB; simp only [Bool.or_eq_true, decide_eq_true_eq]; omega
        have hn : (s.data.toList.take (k + 1)).all ncB = true := by rw [List.take_succ_eq_append_getElem (by rw [ba_len]; exact hlt), List.all_append, hal, hcg]; simp [hc]
        exact xR (k + 1) ⟨by omega, hn⟩ (by omega)
      ·refine s3 ?_
       refine JL_dec (fun h39 => ?_) (fun h39 => ?_)
       ·refine s5 ?_
        refine JL_dec (fun h44 => ?_) (fun h44 => ?_)
        ·refine s5 ?_
         refine kJ [] ?_
         refine s10 ?_
         refine JR_one rfl (rr_tmp rfl) ?_
         intro w' hw
         have hc : ncB c = false := by unfold ncB; simp only [Bool.or_eq_false_iff, decide_eq_false_iff_not]; omega
         have e : nameB s = false := by
          unfold nameB
          have : s.data.toList.all ncB = false := by rw [List.all_eq_false]; exact ⟨c, by rw [← hcg]; exact List.getElem_mem _, by rw [hc]; simp⟩
          rw [this]; simp
         rw [e]; exact ⟨rfl, hw.bel⟩
        ·refine s7 ?_
         refine kJ [(0, _), (3, _)] ?_
         refine s5 ?_
         have hc : ncB c = true := by unfold ncB; simp only [Bool.or_eq_true, decide_eq_true_eq]; omega
         have hn : (s.data.toList.take (k + 1)).all ncB = true := by rw [List.take_succ_eq_append_getElem (by rw [ba_len]; exact hlt), List.all_append, hal, hcg]; simp [hc]
         exact xR (k + 1) ⟨by omega, hn⟩ (by omega)
       ·refine s12 ?_
        refine kJ [(0, _), (3, _)] ?_
        refine s5 ?_
        have hc : ncB c = true := by unfold ncB; simp only [Bool.or_eq_true, decide_eq_true_eq]; omega
        have hn : (s.data.toList.take (k + 1)).all ncB = true := by rw [List.take_succ_eq_append_getElem (by rw [ba_len]; exact hlt), List.all_append, hal, hcg]; simp [hc]
        exact xR (k + 1) ⟨by omega, hn⟩ (by omega)
     ·refine s3 ?_
      refine JL_dec (fun h32 => ?_) (fun h32 => ?_)
      ·refine s4 ?_
       refine JL_dec (fun h36 => ?_) (fun h36 => ?_)
       ·refine s8 ?_
        refine JL_dec (fun h44 => ?_) (fun h44 => ?_)
        ·refine s5 ?_
         refine kJ [] ?_
         refine s10 ?_
         refine JR_one rfl (rr_tmp rfl) ?_
         intro w' hw
         have hc : ncB c = false := by unfold ncB; simp only [Bool.or_eq_false_iff, decide_eq_false_iff_not]; omega
         have e : nameB s = false := by
          unfold nameB
          have : s.data.toList.all ncB = false := by rw [List.all_eq_false]; exact ⟨c, by rw [← hcg]; exact List.getElem_mem _, by rw [hc]; simp⟩
          rw [this]; simp
         rw [e]; exact ⟨rfl, hw.bel⟩
        ·refine s7 ?_
         refine kJ [(0, _), (3, _)] ?_
         refine s5 ?_
         have hc : ncB c = true := by unfold ncB; simp only [Bool.or_eq_true, decide_eq_true_eq]; omega
         have hn : (s.data.toList.take (k + 1)).all ncB = true := by rw [List.take_succ_eq_append_getElem (by rw [ba_len]; exact hlt), List.all_append, hal, hcg]; simp [hc]
         exact xR (k + 1) ⟨by omega, hn⟩ (by omega)
       ·refine s3 ?_
        refine JL_dec (fun h39 => ?_) (fun h39 => ?_)
        ·refine s5 ?_
         refine JL_dec (fun h44 => ?_) (fun h44 => ?_)
         ·refine s5 ?_
          refine kJ [] ?_
          refine s10 ?_
          refine JR_one rfl (rr_tmp rfl) ?_
          intro w' hw
          have hc : ncB c = false := by unfold ncB; simp only [Bool.or_eq_false_iff, decide_eq_false_iff_not]; omega
          have e : nameB s = false := by
           unfold nameB
           have : s.data.toList.all ncB = false := by rw [List.all_eq_false]; exact ⟨c, by rw [← hcg]; exact List.getElem_mem _, by rw [hc]; simp⟩
           rw [this]; simp
          rw [e]; exact ⟨rfl, hw.bel⟩
         ·refine s7 ?_
          refine kJ [(0, _), (3, _)] ?_
          refine s5 ?_
          have hc : ncB c = true := by unfold ncB; simp only [Bool.or_eq_true, decide_eq_true_eq]; omega
          have hn : (s.data.toList.take (k + 1)).all ncB = true := by rw [List.take_succ_eq_append_getElem (by rw [ba_len]; exact hlt), List.all_append, hal, hcg]; simp [hc]
          exact xR (k + 1) ⟨by omega, hn⟩ (by omega)
        ·refine s12 ?_
         refine kJ [(0, _), (3, _)] ?_
         refine s5 ?_
         have hc : ncB c = true := by unfold ncB; simp only [Bool.or_eq_true, decide_eq_true_eq]; omega
         have hn : (s.data.toList.take (k + 1)).all ncB = true := by rw [List.take_succ_eq_append_getElem (by rw [ba_len]; exact hlt), List.all_append, hal, hcg]; simp [hc]
         exact xR (k + 1) ⟨by omega, hn⟩ (by omega)
      ·refine s19 ?_
       refine kJ [(0, _), (3, _)] ?_
       refine s5 ?_
       have hc : ncB c = true := by unfold ncB; simp only [Bool.or_eq_true, decide_eq_true_eq]; omega
       have hn : (s.data.toList.take (k + 1)).all ncB = true := by rw [List.take_succ_eq_append_getElem (by rw [ba_len]; exact hlt), List.all_append, hal, hcg]; simp [hc]
       exact xR (k + 1) ⟨by omega, hn⟩ (by omega)
    ·refine s9 ?_
     refine kJ [] ?_
     refine s5 ?_
     refine JR_one rfl (rr_tmp rfl) ?_
     intro w' hw
     have ek : k = s.data.toList.length := by rw [ba_len]; omega
     have e : nameB s = true := by unfold nameB; rw [ek, List.take_length] at hal; rw [hal, hdB_of (by omega) hg0, decide_eq_true h0, decide_eq_true (by omega : 97 ≤ c0.toNat ∧ c0.toNat ≤ 122)]; rfl
     rw [e]; exact ⟨rfl, hw.bel⟩
 ·refine s3 ?_
  refine aCB (fun w hw => in58 _ _ _ w) ?_
  refine aDecF ?_ h0
  refine s15 ?_
  refine kJ [] ?_
  refine s6 ?_
  refine JR_one rfl (rr_tmp rfl) ?_
  intro w' hw
  have e : nameB s = false := by unfold nameB; rw [decide_eq_false h0]; rfl
  rw [e]; exact ⟨rfl, hw.bel⟩
end Go.Proofs.YtjkolebffbeeeaaGreatDoor
