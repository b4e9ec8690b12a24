import Derived.Test.YthkhhjfldkebcaaGreatDoorBp
import Derived.Test.YthkhhjfldkebcaaGreatDoorBi
/- Contracts: the document's digits and Text. -/
namespace Go.Proofs.YthkhhjfldkebcaaGreatDoor
open Go.RowKit Go.Proofs Go.Shelf

theorem conv_one (W : World) (c : Nat) (h : c < 256) : (convert 132 9 (.slice (some ⟨W.heap.size, 0, none⟩) 1 1)).run Tryz.prog (W.alloc (.cells #[.int .u8 (c : Int)] 5)) = .ok (.string ⟨#[c.toUInt8]⟩) (W.alloc (.cells #[.int .u8 (c : Int)] 5)) := by
  have e : (c.toUInt8).toNat = c := Lib.toUInt8_toNat h
  have := run_convert_bytes_back (P := Tryz.prog) (W.alloc (.cells #[.int .u8 (c : Int)] 5)) 132 9 5 ⟨W.heap.size, 0, none⟩ 1 [c.toUInt8] Tryz.underlying132 Tryz.underlying5 Tryz.underlying9 (fun j hj => by
    obtain rfl : j = 0 := by simpa using hj
    rw [Lib.add_plain]
    simp [World.cell?_alloc_new, e])
  exact this

set_option maxRecDepth 100000 in
set_option maxHeartbeats 1000000 in
theorem digits_any (n : Nat) (w : World) (h : n < 4611686018427387904) :
    Calls Tryz.prog 117 #[.int .i64 n] w fun e w' => e = .returned (.string ⟨(Lib.decDigits n).toArray⟩) ∧ Below w.heap.size w w' := by
  have HC := Lib.hid conv_one
  obtain ⟨m, hm⟩ : ∃ m, n / 10 = m := ⟨_, rfl⟩
  obtain ⟨d, hd⟩ : ∃ d, n % 10 = d := ⟨_, rfl⟩
  have e1 : (n : Int) % 10 = (d : Int) := by omega
  have e2 : (n : Int) / 10 = (m : Int) := by omega
  obtain ⟨c, hc⟩ : ∃ c, 48 + d = c := ⟨_, rfl⟩
  have e3 : 48 + (d : Int) = (c : Int) := by omega
  have hcv := conv_one w c (by omega)
  have hd9 : (d : Int) ≤ 9 := by omega
  have hc9 : (c : Int) ≤ 57 := by omega
  go_enter Tryz.func117, Tryz.ntmps117
  go_wp2_with fail
  have hn0 : Lib.decDigits n = (if m = 0 then [] else Lib.decDigits m) ++ [UInt8.ofNat c] := by
    rw [← hc, ← hd, ← hm, Lib.decDigits]
    by_cases h1 : n < 10
    · rw [dif_pos h1, if_pos (by omega), Nat.mod_eq_of_lt h1]; rfl
    · rw [dif_neg h1, if_neg (by omega)]
  have HB := Lib.hid hn0
  have hmb : m ≤ 461168601842738790 := by omega
  clear hn0 hcv e1 e2 e3 hd hm hd9 hc9 hc
  go_loopw [0, 3] (fun nv sv wr => ∃ (k : Nat) (S : ByteArray), nv = .int .i64 k ∧ sv = .string S ∧ k ≤ 461168601842738790 ∧ Hid (Lib.decDigits n = (if k = 0 then [] else Lib.decDigits k) ++ S.data.toList) ∧ Below w.heap.size w wr) (fun nv _ _ => (intOf nv).toNat)
  case atStart => exact ⟨m, _, rfl, rfl, hmb, HB.out, (Below.refl _ _).alloc (Nat.le_refl _) _⟩
  case round =>
    obtain ⟨k, S, rfl, rfl, hkb, hS, hB⟩ := hrel
    have HS := Lib.hid hS
    clear hS
    by_cases hk : k = 0
    · subst hk
      go_wp2_with fail
      go_ret
      refine ⟨?_, hB⟩
      have := HS.out
      rw [if_pos (by trivial), List.nil_append] at this
      have e : (⟨S.data.toList.toArray⟩ : ByteArray) = S := by simp
      rw [this, e]
      rfl
    · obtain ⟨m', hm'⟩ : ∃ m', k / 10 = m' := ⟨_, rfl⟩
      obtain ⟨d', hd'⟩ : ∃ d', k % 10 = d' := ⟨_, rfl⟩
      obtain ⟨c', hc'⟩ : ∃ c', 48 + d' = c' := ⟨_, rfl⟩
      have g1 : (k : Int) % 10 = (d' : Int) := by omega
      have g2 : (k : Int) / 10 = (m' : Int) := by omega
      have g3 : 48 + (d' : Int) = (c' : Int) := by omega
      have hcv := HC.out wr c' (by omega)
      have hd9 : (d' : Int) ≤ 9 := by omega
      have hc9 : (c' : Int) ≤ 57 := by omega
      have hk0 : (0 : Int) < (k : Int) := by omega
      have hstep : Lib.decDigits k = (if m' = 0 then [] else Lib.decDigits m') ++ [UInt8.ofNat c'] := by
        rw [← hc', ← hd', ← hm', Lib.decDigits]
        by_cases h1 : k < 10
        · rw [dif_pos h1, if_pos (by omega), Nat.mod_eq_of_lt h1]; rfl
        · rw [dif_neg h1, if_neg (by omega)]
      have HN : Hid (Lib.decDigits n = (if m' = 0 then [] else Lib.decDigits m') ++ (UInt8.ofNat c' :: S.data.toList)) := by
        have := HS.out
        rw [if_neg hk, hstep, List.append_assoc] at this
        exact this
      have hlt : m' < k := by omega
      have hmb' : m' ≤ 461168601842738790 := by omega
      have hsz : S.size ≤ 20 := by
        have := congrArg List.length HS.out
        rw [Lib.decDigits_length, List.length_append] at this
        have h20 := Lib.nDigits_le20 n (by omega)
        have : S.data.toList.length = S.size := Array.length_toList
        omega
      clear hstep hm' hd' hc' HS hk
      go_wp2_with fail
      go_roundw
      case rel => exact ⟨m', _, rfl, rfl, hmb', by show _ = _; rw [HN.out]; simp, hB.alloc hB.size _⟩
      case measure => simp [intOf]; omega
end Go.Proofs.YthkhhjfldkebcaaGreatDoor

/- Contract: the document's Text. -/
namespace Go.Proofs.YthkhhjfldkebcaaGreatDoor
open Go.RowKit Go.Proofs Go.Shelf

set_option maxRecDepth 100000 in
set_option maxHeartbeats 4000000 in
theorem refText_ok (a : Int) (w : World) (hv : Val a) :
    Calls Tryz.prog 53 #[.int .i64 a] w fun e w' => e = .returned (.string ⟨(textL a).toArray⟩) ∧ Below w.heap.size w w' := by
  obtain ⟨N, hN⟩ : ∃ N, (sz a).toNat = N := ⟨_, rfl⟩
  have hNl : N ≤ 70368744177664 := by rw [← hN]; exact sz_lim' hv
  have hlen := text_len hv
  have C1 : Hid (∀ w, Calls Tryz.prog 69 #[.int .i64 a] w fun e w' => e = .returned (.bool true) ∧ w = w') := fun w => by
    have := refValid a w; rw [decide_eq_true hv] at this; exact this
  have C2 : Hid (∀ w, Calls Tryz.prog 73 #[.int .i64 a] w fun e w' => e = .returned (.int .i64 (N : Int)) ∧ w = w') := fun w => by
    have := refSize a w hv; rw [← hN, Int.toNat_of_nonneg (sz_nn a)]; exact this
  have C3 : Hid (∀ (k : Nat) (w : World), k < 4611686018427387904 → Calls Tryz.prog 117 #[.int .i64 k] w fun e w' => ∃ S : ByteArray, e = .returned (.string S) ∧ S.data.toList = Lib.decDigits k ∧ Below w.heap.size w w') := fun k w hk =>
    (digits_any k w hk).mono fun e w' h => ⟨_, h.1, by simp, h.2⟩
  obtain ⟨q, hq⟩ : ∃ q, N / 65536 = q := ⟨_, rfl⟩
  obtain ⟨r, hr⟩ : ∃ r, N % 65536 = r := ⟨_, rfl⟩
  have e1 : (N : Int) / 65536 = (q : Int) := by omega
  have e2 : (N : Int) % 65536 = (r : Int) := by omega
  have hq64 : q < 18446744073709551616 := by omega
  have hqs : q < 4611686018427387904 := by omega
  have hr1 : r < 65536 := by omega
  have HX : Hid (textL a = ((if a < 0 then [45] else []) ++ Lib.decDigits q) ++ (if r = 0 then [] else [46]) ++ fb 16 r) := by show _ = _; unfold textL headL; rw [hN, hq, hr]; rfl
  have hd20 : (Lib.decDigits q).length ≤ 20 := by
    rw [Lib.decDigits_length]; exact Lib.nDigits_le20 q hq64
  have HL := Lib.hid hlen
  clear hv hN hq hr hlen
  have HE : Hid ((N : Int) % 65536 = (r : Int)) := e2
  by_cases hn : a < 0 <;> by_cases hr0 : r = 0
  all_goals
    have HN := Lib.hid hn
    have HR := Lib.hid hr0
    try (subst hr0; have e3 : (N : Int) % 65536 = 0 := (by omega); clear e2)
    try (have hrp : 0 < r := by omega)
    go_enter Tryz.func53, Tryz.ntmps53
    go_wp2_with (first
      | (go_at_call 69; refine (C1.out _).mono ?_; rintro e w' ⟨rfl, rfl⟩)
      | (go_at_call 73; refine (C2.out _).mono ?_; rintro e w' ⟨rfl, rfl⟩)
      | (go_at_call 117; refine (C3.out q _ hqs).mono ?_; rintro e w1 ⟨S1, rfl, hS1, hb1⟩; have hs1 : S1.size ≤ 20 := (by have : S1.data.toList.length = S1.size := Array.length_toList; rw [hS1] at this; omega)))
    clear C1 C2
    try clear e2
    try clear e3
    go_loopw [4, 6] (fun sv rv wr => ∃ (k : Nat) (S : ByteArray), sv = .string S ∧ rv = .int .i64 k ∧ k < 65536 ∧ Hid (S.data.toList ++ fb 16 k = textL a) ∧ Below w.heap.size w wr) (fun _ rv _ => (frac (intOf rv).toNat).length)
    case atStart =>
      refine ⟨_, _, rfl, congrArg _ HE.out, by omega, ?_, hb1⟩
      show _ = _
      rw [HX.out]
      try rw [show fb 16 0 = [] from rfl]
      simp [hS1, HN.out, HR.out]
    case round =>
      obtain ⟨k, S, rfl, rfl, hk1, hS, hB⟩ := hrel
      have HS := Lib.hid hS
      clear hS hS1 hs1 hb1
      by_cases hz : k = 0
      · subst hz
        go_wp2_with fail
        go_ret
        refine ⟨?_, hB⟩
        have h1 : S.data.toList = textL a := by have := HS.out; rw [show fb 16 0 = [] from rfl, List.append_nil] at this; exact this
        have h2 : (⟨S.data.toList.toArray⟩ : ByteArray) = S := by simp
        rw [← h1, h2]
        rfl
      · obtain ⟨m, hm⟩ : ∃ m, 10 * k = m := ⟨_, rfl⟩
        obtain ⟨p, hp⟩ : ∃ p, m / 65536 = p := ⟨_, rfl⟩
        obtain ⟨t, ht⟩ : ∃ t, m % 65536 = t := ⟨_, rfl⟩
        have g0 : 10 * (k : Int) = (m : Int) := by omega
        have g1 : (m : Int) / 65536 = (p : Int) := by omega
        have g2 : (m : Int) % 65536 = (t : Int) := by omega
        have hk0 : 0 < k := by omega
        have hp9 : p ≤ 9 := by omega
        have hps : p < 4611686018427387904 := by omega
        have ht1 : t < 65536 := by omega
        have hm1 : (m : Int) ≤ 655350 := by omega
        have hF := frac_succ hz
        rw [hm, hp, ht] at hF
        have HF := Lib.hid hF
        have HG : Hid ((m : Int) % 65536 = (t : Int)) := g2
        have hsz : S.size ≤ 60 := by
          have h1 := congrArg List.length HS.out
          have h2 := HL.out
          rw [List.length_append] at h1
          have : S.data.toList.length = S.size := Array.length_toList
          omega
        clear hF hm hp ht hz
        go_wp2_with (go_at_call 117; refine (C3.out p _ hps).mono ?_; rintro e w2 ⟨S2, rfl, hS2, hb2⟩; have hs2 : S2.size ≤ 20 := (by have : S2.data.toList.length = S2.size := Array.length_toList; rw [hS2, Lib.decDigits_length] at this; have := Lib.nDigits_le20 p (by omega); omega))
        go_roundw
        case rel =>
          refine ⟨t, _, rfl, congrArg _ HG.out, ht1, ?_, hB.trans (hb2.mono hB.size)⟩
          show _ = _
          have h1 := HS.out
          have h2 : fb 16 k = (48 + p).toUInt8 :: fb 16 t := by
            show (frac k).map _ = _ :: (frac t).map _
            rw [HF.out]; rfl
          rw [h2] at h1
          rw [← h1]
          simp [hS2, Lib.decDigits_one (show p < 10 by omega)]
        case measure =>
          show (frac _).length < (frac _).length
          simp [intOf]
          rw [HF.out, show ((m : Int) % 65536).toNat = t by rw [HG.out]; rfl]
          simp
end Go.Proofs.YthkhhjfldkebcaaGreatDoor

/- Contract: the document's Text at a number that is none. -/
namespace Go.Proofs.YthkhhjfldkebcaaGreatDoor
open Go.RowKit Go.Proofs Go.Shelf

/-- What refText is for a number that is none. -/
theorem refText_no (a : Int) (w : World) (hv : ¬ Val a) : Calls Tryz.prog 53 #[.int .i64 a] w fun e w' => e = .returned (.string ⟨#[]⟩) ∧ Below w.heap.size w w' := by
  have C1 : Hid (∀ w, Calls Tryz.prog 69 #[.int .i64 a] w fun e w' => e = .returned (.bool false) ∧ w = w') := fun w => by
    have := refValid a w; rw [decide_eq_false hv] at this; exact this
  clear hv
  go_enter Tryz.func53, Tryz.ntmps53
  go_wp2_with (go_at_call 69; refine (C1.out _).mono ?_; rintro e w1 ⟨rfl, rfl⟩)
  go_ret
  exact ⟨rfl, Below.refl _ _⟩
end Go.Proofs.YthkhhjfldkebcaaGreatDoor

/- Contract: the document's form. -/
namespace Go.Proofs.YthkhhjfldkebcaaGreatDoor
open Go.RowKit Go.Proofs Go.Shelf

def Dg (b : Nat) : Prop := 48 ≤ b ∧ b ≤ 57
/-- The point of the bytes f 0 .. f (i - 1), of n bytes in all. -/
def Pt (f : Nat → Nat) (n i p : Nat) : Prop := (p = n ∧ ∀ j, j < i → Dg (f j)) ∨ (p < i ∧ f p = 46 ∧ ∀ j, j < i → j ≠ p → Dg (f j))
/-- The form, with its point. -/
def Fm (f : Nat → Nat) (n p : Nat) : Prop := Pt f n n p ∧ p ≠ 0 ∧ ¬ (1 < p ∧ f 0 = 48) ∧ p + 1 ≠ n
def FormOut (f : Nat → Nat) (n : Nat) (w : World) (e : Ending) (w' : World) : Prop :=
  w = w' ∧ ((∃ p, e = .returned (.tuple #[.int .i64 (p : Nat), .bool true]) ∧ Fm f n p) ∨ (e = .returned (.tuple #[.int .i64 0, .bool false]) ∧ ∀ p, ¬ Fm f n p))

theorem Pt.pre {f : Nat → Nat} {n i p p' : Nat} (hi : i ≤ n) (h : Pt f n i p) (h' : Pt f n n p') : p = n ∨ p = p' := by
  rcases h with h | ⟨h1, h2, -⟩
  · exact .inl h.1
  · right
    rcases h' with ⟨-, h3⟩ | ⟨-, -, h5⟩
    · have := h3 p (by omega); unfold Dg at this; omega
    · by_cases e : p = p'
      · exact e
      · have := h5 p (by omega) e; unfold Dg at this; omega
theorem Pt.dig {f : Nat → Nat} {n i p : Nat} (h : Pt f n i p) (hd : Dg (f i)) : Pt f n (i + 1) p := by
  rcases h with ⟨h1, h2⟩ | ⟨h1, h2, h3⟩
  · refine .inl ⟨h1, fun j hj => ?_⟩
    by_cases e : j = i
    · rw [e]; exact hd
    · exact h2 j (by omega)
  · refine .inr ⟨by omega, h2, fun j hj hp => ?_⟩
    by_cases e : j = i
    · rw [e]; exact hd
    · exact h3 j (by omega) hp
theorem Pt.dot {f : Nat → Nat} {n i : Nat} (hi : i < n) (h : Pt f n i n) (hd : f i = 46) : Pt f n (i + 1) i := by
  rcases h with ⟨-, h2⟩ | ⟨h1, -, -⟩
  · exact .inr ⟨by omega, hd, fun j hj hp => h2 j (by omega)⟩
  · omega
theorem Pt.no {f : Nat → Nat} {n i p : Nat} (hi : i < n) (h : Pt f n i p) (hx : ¬ Dg (f i)) (hy : ¬ (f i = 46 ∧ p = n)) : ∀ p', ¬ Fm f n p' := by
  rintro p' ⟨h', -⟩
  have e := h.pre (by omega) h'
  rcases h' with ⟨h1, h3⟩ | ⟨h1, h4, h5⟩
  · exact hx (h3 i hi)
  · by_cases ei : i = p'
    · subst ei
      rcases e with rfl | rfl
      · exact hy ⟨h4, rfl⟩
      · rcases h with ⟨h, -⟩ | ⟨h, -, -⟩ <;> omega
    · exact hx (h5 i hi ei)
theorem Pt.one {f : Nat → Nat} {n p p' : Nat} (h : Pt f n n p) (h' : Pt f n n p') : p = p' := by
  rcases h.pre (Nat.le_refl _) h' with rfl | e
  · rcases h'.pre (Nat.le_refl _) h with rfl | e
    · rfl
    · exact e.symm
  · exact e

set_option maxRecDepth 100000 in
set_option maxHeartbeats 2000000 in
theorem form_any (s : ByteArray) (w : World) (hs : s.size ≤ 1000) (f : Nat → Nat) (hf : ∀ i (h : i < s.size), (s[i]'h).toNat = f i) :
    Calls Tryz.prog 109 #[.string s] w (FormOut f s.size w) := by
  have HF : Hid (∀ i (h : i < s.size), (s[i]'h).toNat = f i) := hf
  clear hf
  go_enter Tryz.func109, Tryz.ntmps109
  go_wp2_with fail
  go_loopw [4, 5] (fun pv iv wr => ∃ (p i : Nat), pv = .int .i64 p ∧ iv = .int .i64 i ∧ i ≤ s.size ∧ p ≤ s.size ∧ Hid (Pt f s.size i p) ∧ w = wr) (fun _ iv _ => s.size - (intOf iv).toNat)
  case atStart => exact ⟨_, 0, rfl, rfl, by omega, Nat.le_refl _, Or.inl ⟨rfl, fun j h => by omega⟩, rfl⟩
  case round =>
    obtain ⟨p, i, rfl, rfl, hi, hp, hP, rfl⟩ := hrel
    have HP : Hid (Pt f s.size i p) := hP
    clear hP
    by_cases hlt : i < s.size
    · obtain ⟨x, hx⟩ : ∃ x, f i = x := ⟨_, rfl⟩
      have hb : (s[i]'hlt).toNat = x := (HF.out i hlt).trans hx
      have HX := Lib.hid hx
      clear hx
      by_cases hD : Dg x
      · obtain ⟨d1, d2⟩ := hD
        have d3 : ¬ (x : Int) = 46 := by omega
        have hN : Hid (Pt f s.size (i + 1) p) := HP.out.dig (by rw [HX.out]; exact ⟨d1, d2⟩)
        go_wp2_with fail
        go_roundw
        case rel => exact ⟨p, i + 1, rfl, rfl, by omega, hp, hN, by trivial⟩
        case measure => simp [intOf]; omega
      · by_cases hq : x = 46 ∧ p = s.size
        · obtain ⟨rfl, rfl⟩ := hq
          have hN : Hid (Pt f s.size (i + 1) i) := HP.out.dot hlt HX.out
          go_wp2_with fail
          go_roundw
          case rel => exact ⟨i, i + 1, rfl, rfl, by omega, by omega, hN, by trivial⟩
          case measure => simp [intOf]; omega
        · have hN : Hid (∀ p', ¬ Fm f s.size p') := HP.out.no hlt (by rw [HX.out]; exact hD) (by rw [HX.out]; exact hq)
          have hD' : x < 48 ∨ 57 < x := by unfold Dg at hD; omega
          by_cases h46 : x = 46
          · subst h46
            have hpn : ¬ p = s.size := fun h => hq ⟨rfl, h⟩
            clear hq hD hD'
            go_wp2_with fail
            go_ret2
            exact ⟨rfl, .inr ⟨rfl, hN.out⟩⟩
          · clear hq hD
            rcases hD' with h | h
            all_goals
              go_wp2_with fail
              go_ret2
              exact ⟨rfl, .inr ⟨rfl, hN.out⟩⟩
    · obtain rfl : i = s.size := by omega
      have hN : Hid (∀ p', Fm f s.size p' → p' = p) := fun p' h => h.1.one HP.out
      clear hlt hi
      by_cases h0 : p = 0
      · subst h0
        go_wp2_with fail
        go_ret2
        exact ⟨rfl, .inr ⟨rfl, fun p' h => h.2.1 (hN.out p' h)⟩⟩
      · have hpos : 0 < s.size := by omega
        obtain ⟨y, hy⟩ : ∃ y, f 0 = y := ⟨_, rfl⟩
        have hb : (s[0]'hpos).toNat = y := (HF.out 0 hpos).trans hy
        have HY := Lib.hid hy
        clear hy
        by_cases h1 : 1 < p ∧ y = 48
        · obtain ⟨h1, rfl⟩ := h1
          go_wp2_with fail
          go_ret2
          exact ⟨rfl, .inr ⟨rfl, fun p' h => h.2.2.1 ⟨by rw [hN.out p' h]; exact h1, HY.out⟩⟩⟩
        · have H1 := Lib.hid h1
          have hc : ¬ 1 < p ∨ (1 < p ∧ ¬ y = 48) := by omega
          clear h1
          by_cases h2 : p + 1 = s.size
          · have h2' : (p : Int) = (s.size : Int) - 1 := by omega
            rcases hc with hc | ⟨hc, hc2⟩
            all_goals
              go_wp2_with fail
              go_ret2
              exact ⟨rfl, .inr ⟨rfl, fun p' h => h.2.2.2 (by rw [hN.out p' h]; exact h2)⟩⟩
          · have h2' : ¬ (p : Int) = (s.size : Int) - 1 := by omega
            have H2 := Lib.hid h2
            have H0 := Lib.hid h0
            have z0 : ((p : Int) == 0) = false := by simp; omega
            have z2 : ((p : Int) == (s.size : Int) - 1) = false := by simp; omega
            rcases hc with hc | ⟨hc, hc2⟩
            all_goals
              go_wp2_with fail
              go_ret2
              exact ⟨rfl, .inl ⟨p, rfl, HP.out, H0.out, by rw [HY.out]; exact H1.out, H2.out⟩⟩
end Go.Proofs.YthkhhjfldkebcaaGreatDoor
