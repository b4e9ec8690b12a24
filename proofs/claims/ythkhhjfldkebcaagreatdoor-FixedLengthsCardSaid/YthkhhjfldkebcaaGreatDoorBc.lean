/- Contracts: trim, number, order. -/
import Derived.Test.YthkhhjfldkebcaaGreatDoorBb
import Derived.Deep.QuietTactic
namespace Go.Proofs.YthkhhjfldkebcaaGreatDoor
open Go.RowKit Go.Proofs Go.Shelf

/-- How many elements a slice value has. -/
def lenV : Value → Nat
  | .slice _ n _ => n
  | _ => 0

/-- A call that gives back the number N, in the same memory as v. -/
def TrimOut (w : World) (v : Value) (N : Nat) (e : Ending) (w' : World) : Prop := ∃ v', e = .returned v' ∧ BigN w v' N ∧ v'.ownBlock = v.ownBlock ∧ w = w'
theorem own_slice (A : Option Addr) (n c n' c' : Nat) : (Value.slice A n c).ownBlock = (Value.slice A n' c').ownBlock := by cases A <;> rfl
set_option maxHeartbeats 1000000 in
theorem trim_own (v : Value) (l : List Nat) (w : World) (h : Big w v l) (hp : Parts l) (hl : l.length ≤ 1000) : Calls Tryz.prog 139 #[v] w (TrimOut w v (bval l)) := by
  obtain ⟨A, cap, rfl, h1, h2, h3⟩ := h
  have H3 := Lib.hid h3
  have HP := Lib.hid hp
  have H2 := Lib.hid h2
  clear h3 hp h2
  go_enter Tryz.func139, Tryz.ntmps139
  go_wp2_with fail
  go_loop [0] (fun s => ∃ n : Nat, n ≤ l.length ∧ s = .slice A n cap ∧ Hid (bval (l.take n) = bval l)) (fun s => lenV s)
  case atStart => exact ⟨l.length, Nat.le_refl _, rfl, by show _ = _; rw [List.take_length]⟩
  case round =>
    obtain ⟨n, hn, rfl, hv⟩ := hrel
    rcases n with _ | n
    · go_wp2_with fail
      go_ret
      exact ⟨_, rfl, ⟨[], ⟨A, cap, rfl, Nat.zero_le _, H2.out, fun h => absurd rfl h⟩, Can.nil, by have := hv.out; simpa using this⟩, own_slice _ _ _ _ _, rfl⟩
    · obtain ⟨g, rfl, hc⟩ := H3.out (by intro h0; subst h0; simp at hn)
      have hcell := hc n (by omega)
      have HC := Lib.hid hc
      clear hc
      obtain ⟨d, hd⟩ : ∃ d, l.getD n 0 = d := ⟨_, rfl⟩
      rw [hd] at hcell
      have HD := Lib.hid hd
      clear hd
      have hcap : ((n : Nat) : Int) ≤ (cap : Int) := by omega
      by_cases hz : d = 0
      · subst hz
        go_wp2_with fail
        go_round
        case rel => exact ⟨n, by omega, rfl, by show _ = _; rw [← hv.out]; exact bval_drop_zero (by omega) HD.out⟩
        case measure => simp [lenV]
      · have hb : (((d : Nat) : Int) == 0) = false := by simp; omega
        have HZ := Lib.hid hz
        clear hz
        go_wp2_with fail
        go_ret
        have hlen : (l.take (n + 1)).length = n + 1 := by rw [List.length_take]; omega
        refine ⟨_, rfl, ⟨l.take (n + 1), ⟨some ⟨g, 0, none⟩, cap, by rw [hlen]; rfl, by omega, ⟨H2.out.1, fun h => by cases h⟩, fun _ => ⟨g, rfl, fun j hj => ?_⟩⟩, ?_, hv.out⟩, own_slice _ _ _ _ _, rfl⟩
        · rw [hlen] at hj
          rw [HC.out j (by omega)]
          simp only [List.getD_eq_getElem?_getD, List.getElem?_take, if_pos hj]
        · refine Can.of_last (HP.out.take _) (by intro h0; rw [h0] at hlen; simp at hlen) ?_
          rw [hlen]
          simp only [List.getD_eq_getElem?_getD, List.getElem?_take, Nat.add_sub_cancel, if_pos (Nat.lt_succ_self n)]
          rw [← List.getD_eq_getElem?_getD, HD.out]
          exact HZ.out

theorem trim_any (v : Value) (l : List Nat) (w : World) (h : Big w v l) (hp : Parts l) (hl : l.length ≤ 1000) : Calls Tryz.prog 139 #[v] w (BigOut w (bval l)) :=
  (trim_own v l w h hp hl).mono fun e w' ⟨v', he, hN, _, hw⟩ => by subst hw; exact ⟨v', he, hN, Below.refl _ _⟩

theorem drop_get {l : List Nat} {k : Nat} (h : k < l.length) : l.drop k = l.getD k 0 :: l.drop (k + 1) := by
  rw [List.drop_eq_getElem_cons h, List.getD_eq_getElem?_getD, List.getElem?_eq_getElem h]; rfl
theorem bval_drop {l : List Nat} {k : Nat} (h : k < l.length) : bval (l.drop k) = l.getD k 0 + 32768 * bval (l.drop (k + 1)) := by
  rw [drop_get h]; rfl
theorem Parts.drop {l : List Nat} (h : Parts l) (i : Nat) : Parts (l.drop i) := fun d hd => h d (List.mem_of_mem_drop hd)

set_option maxHeartbeats 1000000 in
/-- The integer of some parts, if it is below 2^60. -/
theorem number_any (v : Value) (l : List Nat) (w : World) (h : Big w v l) (hp : Parts l) (hl : l.length ≤ 1000) :
    Calls Tryz.prog 130 #[v] w fun e w' => e = .returned (.tuple #[.int .i64 (if 4 < l.length then 0 else (bval l : Int)), .bool (decide (l.length ≤ 4))]) ∧ w = w' := by
  obtain ⟨A, cap, rfl, h1, h2, h3⟩ := h
  have H3 := Lib.hid h3
  have HP := Lib.hid hp
  have HL : Hid (bval l = bval (l.drop 0)) := rfl
  obtain ⟨r, hr⟩ : ∃ r : Int, (if 4 < l.length then 0 else (bval l : Int)) = r := ⟨_, rfl⟩
  have HR := Lib.hid hr
  obtain ⟨b, hb⟩ : ∃ b : Bool, decide (l.length ≤ 4) = b := ⟨_, rfl⟩
  have HB := Lib.hid hb
  rw [hr, hb]
  clear h3 hp h2 hr hb
  by_cases h4 : 4 < l.length
  · have h4' : (4 : Int) < (l.length : Int) := by omega
    go_enter Tryz.func130, Tryz.ntmps130
    go_wp2_with fail
    go_ret2
    exact ⟨by rw [← HR.out, ← HB.out, if_pos h4]; simp; omega, rfl⟩
  · have h4' : decide ((4 : Int) < (l.length : Int)) = false := by simp; omega
    go_enter Tryz.func130, Tryz.ntmps130
    go_wp2_with fail
    go_loop [4, 5] (fun nv iv => ∃ k : Nat, k ≤ l.length ∧ iv = .int .i64 ((k : Int) - 1) ∧ nv = .int .i64 (bval (l.drop k))) (fun _ iv => (intOf iv + 1).toNat)
    case atStart => exact ⟨l.length, Nat.le_refl _, rfl, by rw [List.drop_length]; rfl⟩
    case round =>
      obtain ⟨k, hk, rfl, rfl⟩ := hrel
      rcases k with _ | k
      · go_wp2_with fail
        go_ret2
        exact ⟨by rw [← HR.out, ← HB.out, if_neg h4]; simp; omega, rfl⟩
      · obtain ⟨g, rfl, hc⟩ := H3.out (by intro h0; subst h0; simp at hk)
        have hcell := hc k (by omega)
        clear hc
        have hbd := bval_lt (HP.out.drop (k + 1))
        have e := bval_drop (l := l) (k := k) (by omega)
        have hd := HP.out.get k
        have hpw : 32768 ^ (l.drop (k + 1)).length ≤ 32768 ^ 3 := Nat.pow_le_pow_right (by decide) (by rw [List.length_drop]; omega)
        have e3 : 32768 ^ 3 = 35184372088832 := by decide
        rw [e3] at hpw
        obtain ⟨d, hd'⟩ : ∃ d, l.getD k 0 = d := ⟨_, rfl⟩
        obtain ⟨t, ht⟩ : ∃ t, bval (l.drop (k + 1)) = t := ⟨_, rfl⟩
        rw [hd'] at hcell e hd
        rw [ht] at e hbd
        have HE := Lib.hid e
        have HT := Lib.hid ht
        have hbd' : t < 35184372088832 := by omega
        rw [ht]
        clear e hbd hpw e3 hd' ht
        have ek : ((k + 1 : Nat) : Int) - 1 = (k : Int) := by omega
        rw [ek]
        clear ek
        go_wp2_with fail
        go_round
        case rel => exact ⟨k, by omega, rfl, by rw [HE.out]; go_num⟩
        case measure => first | (simp [intOf]; done) | (simp [intOf]; omega)

theorem order_cmp {a b : List Nat} {k : Nat} (pa : Parts a) (hl : a.length = b.length) (hk : k < a.length) (hd : bval (a.drop (k + 1)) = bval (b.drop (k + 1))) :
    (a.getD k 0 < b.getD k 0 → bval a < bval b) ∧ (a.getD k 0 = b.getD k 0 → bval (a.drop k) = bval (b.drop k)) := by
  refine ⟨fun h => ?_, fun h => (bval_drop hk).trans (by rw [hd, h]; exact (bval_drop (by omega)).symm)⟩
  have ea := bval_split a k (by omega)
  have eb := bval_split b k (by omega)
  rw [bval_drop hk] at ea
  rw [bval_drop (by omega)] at eb
  have la := bval_lt (pa.take k)
  rw [List.length_take, Nat.min_eq_left (by omega)] at la
  rw [hd] at ea
  rw [ea, eb]
  generalize bval (b.drop (k + 1)) = t at *
  have hm : 32768 ^ k * (a.getD k 0 + 1 + 32768 * t) ≤ 32768 ^ k * (b.getD k 0 + 32768 * t) := Nat.mul_le_mul_left _ (by omega)
  have e1 : 32768 ^ k * (a.getD k 0 + 1 + 32768 * t) = 32768 ^ k * (a.getD k 0 + 32768 * t) + 32768 ^ k := by grind
  omega

theorem ret_i {a b : Int} (h : a = b) : Ending.returned (.int .i64 a) = .returned (.int .i64 b) := by rw [h]
set_option maxHeartbeats 2000000 in
theorem order_any (va vb : Value) (a b : List Nat) (w : World) (ha : Big w va a) (hb : Big w vb b) (ca : Can a) (cb : Can b) (_la : a.length ≤ 1000) (lb : b.length ≤ 1000) :
    Calls Tryz.prog 96 #[va, vb] w fun e w' => e = .returned (.int .i64 (cmpI (bval a) (bval b))) ∧ Below w.heap.size w w' := by
  obtain ⟨A, capa, rfl, h1, h2, h3⟩ := ha
  obtain ⟨B, capb, rfl, h4, h5, h6⟩ := hb
  have H3 := Lib.hid h3
  have H6 := Lib.hid h6
  have CA := Lib.hid ca
  have CB := Lib.hid cb
  obtain ⟨r, hr⟩ : ∃ r : Int, cmpI (bval a) (bval b) = r := ⟨_, rfl⟩
  have HR := Lib.hid hr
  rw [hr]
  clear h3 h6 ca cb h2 h5 hr
  rcases Nat.lt_trichotomy a.length b.length with hlt | heq | hgt
  · have hlt' : (a.length : Int) < (b.length : Int) := by omega
    have := Can.len_lt CA.out CB.out hlt
    go_enter Tryz.func96, Tryz.ntmps96
    go_wp2_with fail
    go_ret
    exact ⟨ret_i (by rw [← HR.out]; unfold cmpI; rw [if_pos (by omega)]), Below.refl _ _⟩
  · have HEQ := Lib.hid heq
    obtain ⟨n, hn⟩ : ∃ n, a.length = n := ⟨_, rfl⟩
    have hn' : b.length = n := by omega
    have HNA := Lib.hid hn
    have HNB := Lib.hid hn'
    rw [hn] at _la h1 ⊢
    rw [hn'] at lb h4 ⊢
    clear heq hn hn'
    go_enter Tryz.func96, Tryz.ntmps96
    go_wp2_with fail
    go_loopw [5] (fun iv wr => ∃ k : Nat, k ≤ n ∧ iv = .int .i64 ((k : Int) - 1) ∧ Hid (bval (a.drop k) = bval (b.drop k)) ∧ Below w.heap.size w wr) (fun iv _ => (intOf iv + 1).toNat)
    case atStart => exact ⟨n, Nat.le_refl _, rfl, by show _ = _; rw [List.drop_eq_nil_of_le (by rw [HNA.out]; exact Nat.le_refl _), List.drop_eq_nil_of_le (by rw [HNB.out]; exact Nat.le_refl _)], Below.refl _ _⟩
    case round =>
      obtain ⟨k, hk, rfl, hd, hbl⟩ := hrel
      rcases k with _ | k
      · go_wp2_with fail
        go_ret
        exact ⟨ret_i (by have := hd.out; simp at this; rw [← HR.out, this]; unfold cmpI; simp), hbl⟩
      · obtain ⟨g, rfl, hc⟩ := H3.out (by intro h0; have := HNA.out; rw [h0] at this; simp at this; omega)
        obtain ⟨g', rfl, hc'⟩ := H6.out (by intro h0; have := HNB.out; rw [h0] at this; simp at this; omega)
        have x1 := upc (hc k (by rw [HNA.out]; omega)) hbl
        have x2 := upc (hc' k (by rw [HNB.out]; omega)) hbl
        have HB := Lib.hid hbl
        clear hc hc' hbl
        have O1 := order_cmp (k := k) CA.out.1 HEQ.out (by rw [HNA.out]; omega) hd.out
        have O2 := order_cmp (k := k) CB.out.1 HEQ.out.symm (by rw [HNB.out]; omega) hd.out.symm
        obtain ⟨d, hd1⟩ : ∃ d, a.getD k 0 = d := ⟨_, rfl⟩
        obtain ⟨d', hd2⟩ : ∃ d, b.getD k 0 = d := ⟨_, rfl⟩
        rw [hd1, hd2] at O1 O2
        rw [hd1] at x1
        rw [hd2] at x2
        have HO1 := Lib.hid O1
        have HO2 := Lib.hid O2
        clear hd1 hd2 O1 O2
        have ek : ((k + 1 : Nat) : Int) - 1 = (k : Int) := by omega
        rw [ek]
        clear ek
        have hk1 : (k : Int) < (n : Int) := by omega
        rcases Nat.lt_trichotomy d d' with hlt | rfl | hgt
        · have hlt' : (d : Int) < (d' : Int) := by omega
          go_wp2_with fail
          go_quiet (fail)
          go_wp2_with fail
          go_ret
          exact ⟨ret_i (by rw [← HR.out]; unfold cmpI; rw [if_pos (by have := HO1.out.1 hlt; omega)]), below_drewN HB.out _⟩
        · go_wp2_with fail
          go_quiet (fail)
          go_wp2_with fail
          go_quiet (fail)
          go_wp2_with fail
          go_roundw
          case rel => exact ⟨k, by omega, rfl, HO1.out.2 (by first | rfl | trivial), below_drewN HB.out _⟩
          case measure => first | (simp [intOf]; done) | (simp [intOf]; omega)
        · have hgt' : (d' : Int) < (d : Int) := by omega
          have hng : decide ((d : Int) < (d' : Int)) = false := by simp; omega
          go_wp2_with fail
          go_quiet (fail)
          go_wp2_with fail
          go_quiet (fail)
          go_wp2_with fail
          go_ret
          exact ⟨ret_i (by rw [← HR.out]; unfold cmpI; have := HO2.out.1 hgt; rw [if_neg (by omega), if_pos (by omega)]), below_drewN (below_drewN HB.out _) _⟩
  · have hgt' : (b.length : Int) < (a.length : Int) := by omega
    have hng : decide ((a.length : Int) < (b.length : Int)) = false := by simp; omega
    have := Can.len_lt CB.out CA.out hgt
    go_enter Tryz.func96, Tryz.ntmps96
    go_wp2_with fail
    go_ret
    exact ⟨ret_i (by rw [← HR.out]; unfold cmpI; rw [if_neg (by omega), if_pos (by omega)]), Below.refl _ _⟩
end Go.Proofs.YthkhhjfldkebcaaGreatDoor
