import Derived.Test.YthkhhjfldkebcaaGreatDoorBb
import Derived.Deep.QuietTactic
/- Contracts: trim, number, order. -/
namespace Go.Proofs.YthkhhjfldkebcaaGreatDoor
open Go.RowKit Go.Proofs Go.Shelf

/-- How many elements a slice value has. -/
def lenV : Value → Nat
  | .slice _ n _ => n
  | _ => 0

/-- A call that gives back the number N, in the same memory as v. -/
def TrimOut (w : World) (v : Value) (N : Nat) (e : Ending) (w' : World) : Prop := ∃ v', e = .returned v' ∧ BigN w v' N ∧ v'.ownBlock = v.ownBlock ∧ w = w'
theorem own_slice (A : Option Addr) (n c n' c' : Nat) : (Value.slice A n c).ownBlock = (Value.slice A n' c').ownBlock := by cases A <;> rfl
set_option maxHeartbeats 1000000 in
theorem trim_own (v : Value) (l : List Nat) (w : World) (h : Big w v l) (hp : Parts l) (hl : l.length ≤ 1000) : Calls Tryz.prog 139 #[v] w (TrimOut w v (bval l)) := by
  obtain ⟨A, cap, rfl, h1, h2, h3⟩ := h
  have H3 := Lib.hid h3
  have HP := Lib.hid hp
  have H2 := Lib.hid h2
  clear h3 hp h2
  go_enter Tryz.func139, Tryz.ntmps139
  go_wp2_with fail
  go_loop [0] (fun s => ∃ n : Nat, n ≤ l.length ∧ s = .slice A n cap ∧ Hid (bval (l.take n) = bval l)) (fun s => lenV s)
  case atStart => exact ⟨l.length, Nat.le_refl _, rfl, by show _ = _; rw [List.take_length]⟩
  case round =>
    obtain ⟨n, hn, rfl, hv⟩ := hrel
    rcases n with _ | n
    · go_wp2_with fail
      go_ret
      exact ⟨_, rfl, ⟨[], ⟨A, cap, rfl, Nat.zero_le _, H2.out, fun h => absurd rfl h⟩, Can.nil, by have := hv.out; simpa using this⟩, own_slice _ _ _ _ _, rfl⟩
    · obtain ⟨g, rfl, hc⟩ := H3.out (by intro h0; subst h0; simp at hn)
      have hcell := hc n (by omega)
      have HC := Lib.hid hc
      clear hc
      obtain ⟨d, hd⟩ : ∃ d, l.getD n 0 = d := ⟨_, rfl⟩
      rw [hd] at hcell
      have HD := Lib.hid hd
      clear hd
      have hcap : ((n : Nat) : Int) ≤ (cap : Int) := by omega
      by_cases hz : d = 0
      · subst hz
        go_wp2_with fail
        go_round
        case rel => exact ⟨n, by omega, rfl, by show _ = _; rw [← hv.out]; exact bval_drop_zero (by omega) HD.out⟩
        case measure => simp [lenV]
      · have hb : (((d : Nat) : Int) == 0) = false := by simp; omega
        have HZ := Lib.hid hz
        clear hz
        go_wp2_with fail
        go_ret
        have hlen : (l.take (n + 1)).length = n + 1 := by rw [List.length_take]; omega
        refine ⟨_, rfl, ⟨l.take (n + 1), ⟨some ⟨g, 0, none⟩, cap, by rw [hlen]; rfl, by omega, ⟨H2.out.1, fun h => by cases h⟩, fun _ => ⟨g, rfl, fun j hj => ?_⟩⟩, ?_, hv.out⟩, own_slice _ _ _ _ _, rfl⟩
        · rw [hlen] at hj
          rw [HC.out j (by omega)]
          simp only [List.getD_eq_getElem?_getD, List.getElem?_take, if_pos hj]
        · refine Can.of_last (HP.out.take _) (by intro h0; rw [h0] at hlen; simp at hlen) ?_
          rw [hlen]
          simp only [List.getD_eq_getElem?_getD, List.getElem?_take, Nat.add_sub_cancel, if_pos (Nat.lt_succ_self n)]
          rw [← List.getD_eq_getElem?_getD, HD.out]
          exact HZ.out

theorem trim_any (v : Value) (l : List Nat) (w : World) (h : Big w v l) (hp : Parts l) (hl : l.length ≤ 1000) : Calls Tryz.prog 139 #[v] w (BigOut w (bval l)) :=
  (trim_own v l w h hp hl).mono fun e w' ⟨v', he, hN, _, hw⟩ => by subst hw; exact ⟨v', he, hN, Below.refl _ _⟩

theorem drop_get {l : List Nat} {k : Nat} (h : k < l.length) : l.drop k = l.getD k 0 :: l.drop (k + 1) := by
  rw [List.drop_eq_getElem_cons h, List.getD_eq_getElem?_getD, List.getElem?_eq_getElem h]; rfl
theorem bval_drop {l : List Nat} {k : Nat} (h : k < l.length) : bval (l.drop k) = l.getD k 0 + 32768 * bval (l.drop (k + 1)) := by
  rw [drop_get h]; rfl
theorem Parts.drop {l : List Nat} (h : Parts l) (i : Nat) : Parts (l.drop i) := fun d hd => h d (List.mem_of_mem_drop hd)

set_option maxHeartbeats 1000000 in
/-- The integer of some parts, if it is below 2^60. -/
theorem number_any (v : Value) (l : List Nat) (w : World) (h : Big w v l) (hp : Parts l) (hl : l.length ≤ 1000) :
    Calls Tryz.prog 130 #[v] w fun e w' => e = .returned (.tuple #[.int .i64 (if 4 < l.length then 0 else (bval l : Int)), .bool (decide (l.length ≤ 4))]) ∧ w = w' := by
  obtain ⟨A, cap, rfl, h1, h2, h3⟩ := h
  have H3 := Lib.hid h3
  have HP := Lib.hid hp
  have HL : Hid (bval l = bval (l.drop 0)) := rfl
  obtain ⟨r, hr⟩ : ∃ r : Int, (if 4 < l.length then 0 else (bval l : Int)) = r := ⟨_, rfl⟩
  have HR := Lib.hid hr
  obtain ⟨b, hb⟩ : ∃ b : Bool, decide (l.length ≤ 4) = b := ⟨_, rfl⟩
  have HB := Lib.hid hb
  rw [hr, hb]
  clear h3 hp h2 hr hb
  by_cases h4 : 4 < l.length
  · have h4' : (4 : Int) < (l.length : Int) := by omega
    go_enter Tryz.func130, Tryz.ntmps130
    go_wp2_with fail
    go_ret2
    exact ⟨by rw [← HR.out, ← HB.out, if_pos h4]; simp; omega, rfl⟩
  · have h4' : decide ((4 : Int) < (l.length : Int)) = false := by simp; omega
    go_enter Tryz.func130, Tryz.ntmps130
    go_wp2_with fail
    go_loop [4, 5] (fun nv iv => ∃ k : Nat, k ≤ l.length ∧ iv = .int .i64 ((k : Int) - 1) ∧ nv = .int .i64 (bval (l.drop k))) (fun _ iv => (intOf iv + 1).toNat)
    case atStart => exact ⟨l.length, Nat.le_refl _, rfl, by rw [List.drop_length]; rfl⟩
    case round =>
      obtain ⟨k, hk, rfl, rfl⟩ := hrel
      rcases k with _ | k
      · go_wp2_with fail
        go_ret2
        exact ⟨by rw [← HR.out, ← HB.out, if_neg h4]; simp; omega, rfl⟩
      · obtain ⟨g, rfl, hc⟩ := H3.out (by intro h0; subst h0; simp at hk)
        have hcell := hc k (by omega)
        clear hc
        have hbd := bval_lt (HP.out.drop (k + 1))
        have e := bval_drop (l := l) (k := k) (by omega)
        have hd := HP.out.get k
        have hpw : 32768 ^ (l.drop (k + 1)).length ≤ 32768 ^ 3 := Nat.pow_le_pow_right (by decide) (by rw [List.length_drop]; omega)
        have e3 : 32768 ^ 3 = 35184372088832 := by decide
        rw [e3] at hpw
        obtain ⟨d, hd'⟩ : ∃ d, l.getD k 0 = d := ⟨_, rfl⟩
        obtain ⟨t, ht⟩ : ∃ t, bval (l.drop (k + 1)) = t := ⟨_, rfl⟩
        rw [hd'] at hcell e hd
        rw [ht] at e hbd
        have HE := Lib.hid e
        have HT := Lib.hid ht
        have hbd' : t < 35184372088832 := by omega
        rw [ht]
        clear e hbd hpw e3 hd' ht
        have ek : ((k + 1 : Nat) : Int) - 1 = (k : Int) := by omega
        rw [ek]
        clear ek
        go_wp2_with fail
        go_round
        case rel => exact ⟨k, by omega, rfl, by rw [HE.out]; go_num⟩
        case measure => first | (simp [intOf]; done) | (simp [intOf]; omega)

theorem order_cmp {a b : List Nat} {k : Nat} (pa : Parts a) (hl : a.length = b.length) (hk : k < a.length) (hd : bval (a.drop (k + 1)) = bval (b.drop (k + 1))) :
    (a.getD k 0 < b.getD k 0 → bval a < bval b) ∧ (a.getD k 0 = b.getD k 0 → bval (a.drop k) = bval (b.drop k)) := by
  refine ⟨fun h => ?_, fun h => (bval_drop hk).trans (by rw [hd, h]; exact (bval_drop (by omega)).symm)⟩
  have ea := bval_split a k (by omega)
  have eb := bval_split b k (by omega)
  rw [bval_drop hk] at ea
  rw [bval_drop (by omega)] at eb
  have la := bval_lt (pa.take k)
  rw [List.length_take, Nat.min_eq_left (by omega)] at la
  rw [hd] at ea
  rw [ea, eb]
  generalize bval (b.drop (k + 1)) = t at *
  have hm : 32768 ^ k * (a.getD k 0 + 1 + 32768 * t) ≤ 32768 ^ k * (b.getD k 0 + 32768 * t) := Nat.mul_le_mul_left _ (by omega)
  have e1 : 32768 ^ k * (a.getD k 0 + 1 + 32768 * t) = 32768 ^ k * (a.getD k 0 + 32768 * t) + 32768 ^ k := by grind
  omega

theorem ret_i {a b : Int} (h : a = b) : Ending.returned (.int .i64 a) = .returned (.int .i64 b) := by rw [h]
set_option maxHeartbeats 2000000 in
theorem order_any (va vb : Value) (a b : List Nat) (w : World) (ha : Big w va a) (hb : Big w vb b) (ca : Can a) (cb : Can b) (_la : a.length ≤ 1000) (lb : b.length ≤ 1000) :
    Calls Tryz.prog 96 #[va, vb] w fun e w' => e = .returned (.int .i64 (cmpI (bval a) (bval b))) ∧ Below w.heap.size w w' := by
  obtain ⟨A, capa, rfl, h1, h2, h3⟩ := ha
  obtain ⟨B, capb, rfl, h4, h5, h6⟩ := hb
  have H3 := Lib.hid h3
  have H6 := Lib.hid h6
  have CA := Lib.hid ca
  have CB := Lib.hid cb
  obtain ⟨r, hr⟩ : ∃ r : Int, cmpI (bval a) (bval b) = r := ⟨_, rfl⟩
  have HR := Lib.hid hr
  rw [hr]
  clear h3 h6 ca cb h2 h5 hr
  rcases Nat.lt_trichotomy a.length b.length with hlt | heq | hgt
  · have hlt' : (a.length : Int) < (b.length : Int) := by omega
    have := Can.len_lt CA.out CB.out hlt
    go_enter Tryz.func96, Tryz.ntmps96
    go_wp2_with fail
    go_ret
    exact ⟨ret_i (by rw [← HR.out]; unfold cmpI; rw [if_pos (by omega)]), Below.refl _ _⟩
  · have HEQ := Lib.hid heq
    obtain ⟨n, hn⟩ : ∃ n, a.length = n := ⟨_, rfl⟩
    have hn' : b.length = n := by omega
    have HNA := Lib.hid hn
    have HNB := Lib.hid hn'
    rw [hn] at _la h1 ⊢
    rw [hn'] at lb h4 ⊢
    clear heq hn hn'
    go_enter Tryz.func96, Tryz.ntmps96
    go_wp2_with fail
    go_loopw [5] (fun iv wr => ∃ k : Nat, k ≤ n ∧ iv = .int .i64 ((k : Int) - 1) ∧ Hid (bval (a.drop k) = bval (b.drop k)) ∧ Below w.heap.size w wr) (fun iv _ => (intOf iv + 1).toNat)
    case atStart => exact ⟨n, Nat.le_refl _, rfl, by show _ = _; rw [List.drop_eq_nil_of_le (by rw [HNA.out]; exact Nat.le_refl _), List.drop_eq_nil_of_le (by rw [HNB.out]; exact Nat.le_refl _)], Below.refl _ _⟩
    case round =>
      obtain ⟨k, hk, rfl, hd, hbl⟩ := hrel
      rcases k with _ | k
      · go_wp2_with fail
        go_ret
        exact ⟨ret_i (by have := hd.out; simp at this; rw [← HR.out, this]; unfold cmpI; simp), hbl⟩
      · obtain ⟨g, rfl, hc⟩ := H3.out (by intro h0; have := HNA.out; rw [h0] at this; simp at this; omega)
        obtain ⟨g', rfl, hc'⟩ := H6.out (by intro h0; have := HNB.out; rw [h0] at this; simp at this; omega)
        have x1 := upc (hc k (by rw [HNA.out]; omega)) hbl
        have x2 := upc (hc' k (by rw [HNB.out]; omega)) hbl
        have HB := Lib.hid hbl
        clear hc hc' hbl
        have O1 := order_cmp (k := k) CA.out.1 HEQ.out (by rw [HNA.out]; omega) hd.out
        have O2 := order_cmp (k := k) CB.out.1 HEQ.out.symm (by rw [HNB.out]; omega) hd.out.symm
        obtain ⟨d, hd1⟩ : ∃ d, a.getD k 0 = d := ⟨_, rfl⟩
        obtain ⟨d', hd2⟩ : ∃ d, b.getD k 0 = d := ⟨_, rfl⟩
        rw [hd1, hd2] at O1 O2
        rw [hd1] at x1
        rw [hd2] at x2
        have HO1 := Lib.hid O1
        have HO2 := Lib.hid O2
        clear hd1 hd2 O1 O2
        have ek : ((k + 1 : Nat) : Int) - 1 = (k : Int) := by omega
        rw [ek]
        clear ek
        have hk1 : (k : Int) < (n : Int) := by omega
        rcases Nat.lt_trichotomy d d' with hlt | rfl | hgt
        · have hlt' : (d : Int) < (d' : Int) := by omega
          go_wp2_with fail
          go_quiet (fail)
          go_wp2_with fail
          go_ret
          exact ⟨ret_i (by rw [← HR.out]; unfold cmpI; rw [if_pos (by have := HO1.out.1 hlt; omega)]), below_drewN HB.out _⟩
        · go_wp2_with fail
          go_quiet (fail)
          go_wp2_with fail
          go_quiet (fail)
          go_wp2_with fail
          go_roundw
          case rel => exact ⟨k, by omega, rfl, HO1.out.2 (by first | rfl | trivial), below_drewN HB.out _⟩
          case measure => first | (simp [intOf]; done) | (simp [intOf]; omega)
        · have hgt' : (d' : Int) < (d : Int) := by omega
          have hng : decide ((d : Int) < (d' : Int)) = false := by simp; omega
          go_wp2_with fail
          go_quiet (fail)
          go_wp2_with fail
          go_quiet (fail)
          go_wp2_with fail
          go_ret
          exact ⟨ret_i (by rw [← HR.out]; unfold cmpI; have := HO2.out.1 hgt; rw [if_neg (by omega), if_pos (by omega)]), below_drewN (below_drewN HB.out _) _⟩
  · have hgt' : (b.length : Int) < (a.length : Int) := by omega
    have hng : decide ((a.length : Int) < (b.length : Int)) = false := by simp; omega
    have := Can.len_lt CB.out CA.out hgt
    go_enter Tryz.func96, Tryz.ntmps96
    go_wp2_with fail
    go_ret
    exact ⟨ret_i (by rw [← HR.out]; unfold cmpI; rw [if_neg (by omega), if_pos (by omega)]), Below.refl _ _⟩
end Go.Proofs.YthkhhjfldkebcaaGreatDoor

/- Contracts: plus, minus. -/
namespace Go.Proofs.YthkhhjfldkebcaaGreatDoor
open Go.RowKit Go.Proofs Go.Shelf

theorem bval_take' (l : List Nat) (i : Nat) : bval (l.take (i + 1)) = bval (l.take i) + l.getD i 0 * 32768 ^ i := by
  rcases Nat.lt_or_ge i l.length with h | h
  · exact bval_take h
  · rw [List.take_of_length_le (by omega), List.take_of_length_le h, List.getD_eq_getElem?_getD, List.getElem?_eq_none h]
    simp
/-- A digit is kept, the rest is carried. -/
theorem plus_rel {l : List Nat} {i c s S T : Nat} (hp : Parts l) (hl : l.length = i) (h : bval l + c * 32768 ^ i = S) (hs : T = S + (s - c) * 32768 ^ i) (hc : c ≤ s) :
    Parts (l ++ [s % 32768]) ∧ (l ++ [s % 32768]).length = i + 1 ∧ bval (l ++ [s % 32768]) + s / 32768 * 32768 ^ (i + 1) = T := by
  subst hl
  refine ⟨hp.snoc (Nat.mod_lt _ (by decide)), by simp, ?_⟩
  have h1 : bval l + s * 32768 ^ l.length = T := by
    rw [hs, ← h]
    have : s * 32768 ^ l.length = c * 32768 ^ l.length + (s - c) * 32768 ^ l.length := by
      rw [← Nat.add_mul, Nat.add_sub_cancel' hc]
    omega
  have := of_step h1
  rwa [List.length_append, List.length_singleton] at this

set_option maxHeartbeats 4000000 in
theorem plus_parts (va vb : Value) (a b : List Nat) (w : World) (ha : Big w va a) (hb : Big w vb b) (ca : Can a) (cb : Can b) (la : a.length ≤ 200) (lb : b.length ≤ 200) :
    Calls Tryz.prog 110 #[va, vb] w (BigOut w (bval a + bval b)) := by
  obtain ⟨A, capa, rfl, -, -, h3⟩ := ha
  obtain ⟨B, capb, rfl, -, -, h6⟩ := hb
  have H3 := Lib.hid h3
  have H6 := Lib.hid h6
  have CA := Lib.hid ca
  have CB := Lib.hid cb
  obtain ⟨i0, hi, hz0, hz1, hz2⟩ := info_parts Tryz.info3
  obtain ⟨n, hn⟩ : ∃ n, a.length = n := ⟨_, rfl⟩
  obtain ⟨m, hm⟩ : ∃ m, b.length = m := ⟨_, rfl⟩
  have HNA := Lib.hid hn
  have HNB := Lib.hid hm
  rw [hn] at la ⊢
  rw [hm] at lb ⊢
  clear h3 h6 ca cb hn hm
  go_enter Tryz.func110, Tryz.ntmps110
  go_wp2_with fail
  go_loopw [5, 6, 7] (fun out cv iv wr => ∃ (i c : Nat) (l : List Nat), iv = .int .i64 i ∧ cv = .int .i64 c ∧ c ≤ 1 ∧ i ≤ 201 ∧ Hid (Parts l) ∧ Hid (l.length = i) ∧ Hid (bval l + c * 32768 ^ i = bval (a.take i) + bval (b.take i)) ∧
      Hid (i = 0 ∨ 32768 ^ (i - 1) ≤ bval a + bval b) ∧ wr.ownsRow w.heap.size 3 1 out i (l.map pv) ∧ Below w.heap.size w wr)
    (fun _ cv iv _ => 2 * (2000 - (intOf iv).toNat) + (intOf cv).toNat)
  case atStart => exact ⟨0, 0, [], rfl, rfl, by omega, by omega, Parts.nil, rfl, by show _ = _; simp [bval], .inl rfl, World.ownsRow_nil _ _ _ _, Below.refl _ _⟩
  case round =>
    obtain ⟨i, c, l, rfl, rfl, hc, hi1, hp, hl, hv, hg, hown, hbl⟩ := hrel
    have HB := Lib.hid hbl
    have hs := hbl.size
    have ta := bval_take' a i
    have tb := bval_take' b i
    have HTA := Lib.hid ta
    have HTB := Lib.hid tb
    clear ta tb
    have hA : i < n → ∃ g, A = some ⟨g, 0, none⟩ ∧ wr.cell? ⟨g, i, none⟩ = some (pv (a.getD i 0)) ∧ 32768 ^ i ≤ bval a := fun h => by
      have hne : a ≠ [] := by intro h0; have := HNA.out; rw [h0] at this; simp at this; omega
      obtain ⟨g, hA, hcell⟩ := H3.out hne
      exact ⟨g, hA, upc (hcell i (by rw [HNA.out]; exact h)) hbl, Nat.le_trans (Nat.pow_le_pow_right (by decide) (by rw [HNA.out]; omega)) (CA.out.ge hne)⟩
    have hB : i < m → ∃ g, B = some ⟨g, 0, none⟩ ∧ wr.cell? ⟨g, i, none⟩ = some (pv (b.getD i 0)) ∧ 32768 ^ i ≤ bval b := fun h => by
      have hne : b ≠ [] := by intro h0; have := HNB.out; rw [h0] at this; simp at this; omega
      obtain ⟨g, hA, hcell⟩ := H6.out hne
      exact ⟨g, hA, upc (hcell i (by rw [HNB.out]; exact h)) hbl, Nat.le_trans (Nat.pow_le_pow_right (by decide) (by rw [HNB.out]; omega)) (CB.out.ge hne)⟩
    have da1 := CA.out.1.get i
    have db1 := CB.out.1.get i
    have na : ¬ i < n → a.getD i 0 = 0 := fun h => by rw [List.getD_eq_getElem?_getD, List.getElem?_eq_none (by rw [HNA.out]; omega)]; rfl
    have nb : ¬ i < m → b.getD i 0 = 0 := fun h => by rw [List.getD_eq_getElem?_getD, List.getElem?_eq_none (by rw [HNB.out]; omega)]; rfl
    obtain ⟨da, hda⟩ : ∃ d, a.getD i 0 = d := ⟨_, rfl⟩
    obtain ⟨db, hdb⟩ : ∃ d, b.getD i 0 = d := ⟨_, rfl⟩
    rw [hda] at hA na da1
    rw [hdb] at hB nb db1
    have HDA := Lib.hid hda
    have HDB := Lib.hid hdb
    have HHA := Lib.hid hA
    have HHB := Lib.hid hB
    have NA := Lib.hid na
    have NB := Lib.hid nb
    clear hda hdb hA hB na nb hbl
    have HI : Hid (∀ (s : Nat) (v' : Value) (w1 : World) (o : Obj), s = c + da + db → i < 201 → 32768 ^ i ≤ bval a + bval b → w1.ownsRow w.heap.size 3 1 v' (i + 1) (l.map pv ++ [pv (s % 32768)]) → Below w.heap.size w w1 →
        ∃ (i' c' : Nat) (l' : List Nat), Value.int .i64 (i + 1 : Nat) = .int .i64 i' ∧ Value.int .i64 (s / 32768 : Nat) = .int .i64 c' ∧ c' ≤ 1 ∧ i' ≤ 201 ∧ Hid (Parts l') ∧ Hid (l'.length = i') ∧ Hid (bval l' + c' * 32768 ^ i' = bval (a.take i') + bval (b.take i')) ∧
      Hid (i' = 0 ∨ 32768 ^ (i' - 1) ≤ bval a + bval b) ∧ w1.ownsRow w.heap.size 3 1 v' i' (l'.map pv) ∧ Below w.heap.size w w1) := by
      intro s v' w1 o hs hi' hge ho hb1
      have R := plus_rel (s := s) (T := bval (a.take (i + 1)) + bval (b.take (i + 1))) hp.out hl.out hv.out (by
        rw [HTA.out, HTB.out, HDA.out, HDB.out, show s - c = da + db by omega, Nat.add_mul]; omega) (by omega)
      exact ⟨i + 1, s / 32768, l ++ [s % 32768], rfl, rfl, by omega, by omega, R.1, R.2.1, R.2.2, .inr (by simpa using hge), by simpa using ho, hb1⟩
    by_cases e1 : i < n
    · obtain ⟨g1, rfl, cell1, ge1⟩ := HHA.out e1
      have e1' : (i : Int) < (n : Int) := by omega
      have G1 := Lib.hid ge1
      clear ge1
      by_cases e2 : i < m
      · obtain ⟨g2, rfl, cell2, -⟩ := HHB.out e2
        have e2' : (i : Int) < (m : Int) := by omega
        go_wp2_with (at_builtin; refine wpList_append_own _ rfl _ _ 96 rfl w.heap.size 3 i0 (.int .i64 0) 1 8 Tryz.underlying96 hi hz0 hz1 hz2 rfl (by decide) _ _ _ rfl (hown.alloc _) ⟨wr.heap.size, 0, none⟩ 1 1 [.int .i64 (((c : Int) + (da : Int) + (db : Int)) % 32768)] rfl rfl (cell_one_new _ _ _) (by intro u hu; simp at hu; subst hu; rfl) (by unfold maxLen; omega) (by omega) (by simp; omega) ?_; intro v' w1 hown' hgrow _)
        have hb' : Below w.heap.size w w1 := (HB.out.alloc HB.out.size _).grown hgrow (by have := HB.out.size; simp; omega) (fun k hk => (hown.lt k hk).1)
        have HO := HI.out (c + da + db) v' w1 (.map #[] 0) rfl (by omega) (by have := G1.out; omega) (by simpa [pv] using hown') hb'
        have HH := Lib.hid HO
        clear hown' hgrow hown HO cell1 cell2 hb'
        go_wp2_with fail
        go_roundw
        case rel => simpa using HH.out
        case measure => simp [intOf]; omega
      · have e2' : decide ((i : Int) < (m : Int)) = false := by simp; omega
        have e2n : decide (i < m) = false := by simpa using e2
        obtain rfl := NB.out e2
        go_wp2_with (at_builtin; refine wpList_append_own _ rfl _ _ 96 rfl w.heap.size 3 i0 (.int .i64 0) 1 8 Tryz.underlying96 hi hz0 hz1 hz2 rfl (by decide) _ _ _ rfl (hown.alloc _) ⟨wr.heap.size, 0, none⟩ 1 1 [.int .i64 (((c : Int) + (da : Int)) % 32768)] rfl rfl (cell_one_new _ _ _) (by intro u hu; simp at hu; subst hu; rfl) (by unfold maxLen; omega) (by omega) (by simp; omega) ?_; intro v' w1 hown' hgrow _)
        have hb' : Below w.heap.size w w1 := (HB.out.alloc HB.out.size _).grown hgrow (by have := HB.out.size; simp; omega) (fun k hk => (hown.lt k hk).1)
        have HO := HI.out (c + da) v' w1 (.map #[] 0) (by omega) (by omega) (by have := G1.out; omega) (by simpa [pv] using hown') hb'
        have HH := Lib.hid HO
        clear hown' hgrow hown HO cell1 hb'
        go_wp2_with fail
        go_roundw
        case rel => simpa using HH.out
        case measure => simp [intOf]; omega
    · have e1' : decide ((i : Int) < (n : Int)) = false := by simp; omega
      have e1n : decide (i < n) = false := by simpa using e1
      obtain rfl := NA.out e1
      by_cases e2 : i < m
      · obtain ⟨g2, rfl, cell2, ge2⟩ := HHB.out e2
        have e2' : (i : Int) < (m : Int) := by omega
        have G2 := Lib.hid ge2
        clear ge2
        go_wp2_with (at_builtin; refine wpList_append_own _ rfl _ _ 96 rfl w.heap.size 3 i0 (.int .i64 0) 1 8 Tryz.underlying96 hi hz0 hz1 hz2 rfl (by decide) _ _ _ rfl (hown.alloc _) ⟨wr.heap.size, 0, none⟩ 1 1 [.int .i64 (((c : Int) + (db : Int)) % 32768)] rfl rfl (cell_one_new _ _ _) (by intro u hu; simp at hu; subst hu; rfl) (by unfold maxLen; omega) (by omega) (by simp; omega) ?_; intro v' w1 hown' hgrow _)
        have hb' : Below w.heap.size w w1 := (HB.out.alloc HB.out.size _).grown hgrow (by have := HB.out.size; simp; omega) (fun k hk => (hown.lt k hk).1)
        have HO := HI.out (c + db) v' w1 (.map #[] 0) (by omega) (by omega) (by have := G2.out; omega) (by simpa [pv] using hown') hb'
        have HH := Lib.hid HO
        clear hown' hgrow hown HO cell2 hb'
        go_wp2_with fail
        go_roundw
        case rel => simpa using HH.out
        case measure => simp [intOf]; omega
      · have e2' : decide ((i : Int) < (m : Int)) = false := by simp; omega
        have e2n : decide (i < m) = false := by simpa using e2
        obtain rfl := NB.out e2
        have hv' := hv.out
        rw [List.take_of_length_le (by rw [HNA.out]; omega), List.take_of_length_le (by rw [HNB.out]; omega)] at hv'
        have HV := Lib.hid hv'
        clear hv'
        by_cases e3 : c = 0
        · subst e3
          have HP := Lib.hid hown
          clear hown
          go_wp2_with fail
          go_ret
          have hlv := hl.out
          have hval : bval l = bval a + bval b := by have := HV.out; omega
          refine ⟨_, rfl, ⟨l, Big.of_own (by rw [hlv]; exact HP.out), ⟨hp.out, ?_⟩, hval⟩, HB.out⟩
          rcases hg.out with h | h
          · left; exact List.length_eq_zero_iff.1 (by omega)
          · right; rw [hlv, hval]; exact h
        · have c1 : c = 1 := by omega
          subst c1
          have hge : 32768 ^ i ≤ bval a + bval b := by have := HV.out; omega
          have hlt : i < 201 := by
            rcases Nat.lt_or_ge i 201 with h | h
            · exact h
            · exfalso
              have h1 := bval_lt CA.out.1
              have h2 := bval_lt CB.out.1
              have h3 : 32768 ^ a.length ≤ 32768 ^ 200 := Nat.pow_le_pow_right (by decide) (by rw [HNA.out]; exact la)
              have h4 : 32768 ^ b.length ≤ 32768 ^ 200 := Nat.pow_le_pow_right (by decide) (by rw [HNB.out]; exact lb)
              have h5 : 32768 ^ (200 + 1) ≤ 32768 ^ i := Nat.pow_le_pow_right (by decide) h
              rw [Nat.pow_succ] at h5
              omega
          have G3 := Lib.hid hge
          clear hge
          go_wp2_with (at_builtin; refine wpList_append_own _ rfl _ _ 96 rfl w.heap.size 3 i0 (.int .i64 0) 1 8 Tryz.underlying96 hi hz0 hz1 hz2 rfl (by decide) _ _ _ rfl (hown.alloc _) ⟨wr.heap.size, 0, none⟩ 1 1 [.int .i64 1] rfl rfl (cell_one_new _ _ _) (by intro u hu; simp at hu; subst hu; rfl) (by unfold maxLen; omega) (by omega) (by simp; omega) ?_; intro v' w1 hown' hgrow _)
          have hb' : Below w.heap.size w w1 := (HB.out.alloc HB.out.size _).grown hgrow (by have := HB.out.size; simp; omega) (fun k hk => (hown.lt k hk).1)
          have HO := HI.out 1 v' w1 (.map #[] 0) (by omega) (by omega) G3.out (by simpa [pv] using hown') hb'
          have HH := Lib.hid HO
          clear hown' hgrow hown HO hb'
          go_wp2_with fail
          go_roundw
          case rel => simpa using HH.out
          case measure => simp [intOf]; omega
end Go.Proofs.YthkhhjfldkebcaaGreatDoor
