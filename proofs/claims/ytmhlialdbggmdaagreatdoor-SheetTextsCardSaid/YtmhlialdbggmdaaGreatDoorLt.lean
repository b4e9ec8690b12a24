/- The walk of SheetTexts: it answers true. -/
import Derived.Test.YtmhlialdbggmdaaGreatDoorPg
import Derived.Test.YtmhlialdbggmdaaGreatDoorRq
import Derived.Test.YtmhlialdbggmdaaGreatDoorIs
namespace Go.Proofs.YtmhlialdbggmdaaGreatDoor
open Go.RowKit Go.Proofs Go.Shelf

/-- What Parse comes to, apart from the world. -/
def PaQ (s : ByteArray) (v : Value) (k e : Int) (W : World) : Prop :=
  (2000 < s.size ∧ v = .slice none 0 0 ∧ k = 0 ∧ e = 3) ∨
  (s.size ≤ 2000 ∧ ((∃ j : Nat, ParC 16 s.data.toList (.bad j) ∧ v = .slice none 0 0 ∧ k = j ∧ e = 5) ∨
   ∃ L, ParC 16 s.data.toList (.ok L) ∧ ((chkB L = false ∧ v = .slice none 0 0 ∧ k = s.size ∧ e = 2) ∨ (chkB L = true ∧ k = 0 ∧ e = 0 ∧ RowS W v L))))
theorem rowS_nil (w : World) : RowS w (.slice none 0 0) [] := ⟨none, 0, rfl, Nat.le_refl _, ⟨Nat.zero_le _, Nat.zero_le _⟩, fun h => absurd rfl h⟩
theorem PaP.gives {s : ByteArray} {w w' : World} {en : Ending} (h : PaP s w en w') :
    ∃ A n c k e, en = .returned (.tuple #[.slice A n c, .int .i64 k, .int .i64 e]) ∧ PaQ s (.slice A n c) k e w' ∧ Below w.heap.size w w' := by
  obtain ⟨h, hb⟩ := h
  rcases h with ⟨h, rfl⟩ | ⟨h, ⟨k, h1, rfl⟩ | ⟨L, h1, ⟨h2, rfl⟩ | ⟨h2, v, rfl, h3⟩⟩⟩
  · exact ⟨_, _, _, _, _, rfl, .inl ⟨h, rfl, rfl, rfl⟩, hb⟩
  · exact ⟨_, _, _, _, _, rfl, .inr ⟨h, .inl ⟨k, h1, rfl, rfl, rfl⟩⟩, hb⟩
  · exact ⟨_, _, _, _, _, rfl, .inr ⟨h, .inr ⟨L, h1, .inl ⟨h2, rfl, rfl, rfl⟩⟩⟩, hb⟩
  · have hr := RowS.of_own h3 (by have := h1.2.2; omega)
    obtain ⟨A, c, hv, -⟩ := id hr
    subst hv
    exact ⟨_, _, _, _, _, rfl, .inr ⟨h, .inr ⟨L, h1, .inr ⟨h2, rfl, rfl, hr⟩⟩⟩, hb⟩
theorem PaQ.join {s : ByteArray} {v v' : Value} {k k' e e' : Int} {W W' : World} (h : PaQ s v k e W) (h' : PaQ s v' k' e' W') :
    k = k' ∧ e = e' ∧ ∃ L, RowS W v L ∧ RowS W' v' L ∧ (e = 0 → chkB L = true ∧ s.data.toList = printL L) := by
  rcases h with ⟨h0, rfl, rfl, rfl⟩ | ⟨h0, h⟩
  · rcases h' with ⟨-, rfl, rfl, rfl⟩ | ⟨h1, -⟩
    · exact ⟨rfl, rfl, [], rowS_nil _, rowS_nil _, fun h => by omega⟩
    · omega
  · rcases h' with ⟨h1, -⟩ | ⟨-, h'⟩
    · omega
    · rcases h with ⟨j, p, rfl, rfl, rfl⟩ | ⟨L, p, h⟩ <;> rcases h' with ⟨j', p', rfl, rfl, rfl⟩ | ⟨L', p', h'⟩
      · have := parC_only 16 _ _ _ p p'
        injection this with this
        subst this
        exact ⟨rfl, rfl, [], rowS_nil _, rowS_nil _, fun h => by omega⟩
      · cases parC_only 16 _ _ _ p p'
      · cases parC_only 16 _ _ _ p p'
      · have := parC_only 16 _ _ _ p p'
        injection this with this
        subst this
        rcases h with ⟨c, rfl, rfl, rfl⟩ | ⟨c, rfl, rfl, r⟩ <;> rcases h' with ⟨c', rfl, rfl, rfl⟩ | ⟨c', rfl, rfl, r'⟩
        · exact ⟨rfl, rfl, [], rowS_nil _, rowS_nil _, fun h => by omega⟩
        · rw [c] at c'; cases c'
        · rw [c] at c'; cases c'
        · exact ⟨rfl, rfl, L, r, r', fun _ => ⟨c, p.1⟩⟩
theorem dd_short : ∀ (k u : Nat), u < 10 ^ (k + 1) → (Lib.decDigits u).length ≤ k + 1
  | 0, u, h => by rw [Lib.decDigits, dif_pos (by omega)]; simp
  | k + 1, u, h => by
    rw [Lib.decDigits]
    split
    · simp
    · have h1 : u / 10 < 10 ^ (k + 1) := by rw [Nat.pow_succ] at h; omega
      have := dd_short k (u / 10) h1
      rw [List.length_append]; simp; omega
theorem okT_of {t : St} (h : okSt t) : okT t := by
  obtain ⟨⟨h1, h2⟩, h3, -⟩ := h
  have key : ∀ n : Int, -6553600000 ≤ n → n ≤ 6553600000 → numOk n := fun n ha hb => by
    refine ⟨⟨by omega, by omega⟩, ?_⟩
    unfold Lib.itoa
    have hd : ∀ u : Nat, u ≤ 6553600000 → (Lib.decDigits u).length ≤ 18 := fun u hu => by
      have h1 : u < 10 ^ (17 + 1) := by
        have h3 : (10 : Nat) ^ (17 + 1) = 1000000000000000000 := by decide
        omega
      exact dd_short 17 u h1
    split
    · rw [trim_minus]; exact hd _ (by omega)
    · rw [trim_plain (dd_head _)]; exact hd _ (by omega)
  unfold OkS at h3
  exact ⟨by omega, h2, key _ h3.1.1 h3.1.2, key _ h3.2.1 h3.2.2⟩
theorem print_parse {l : List St} (h : chkB l = true) {S : ByteArray} (hS : (⟨(printL l).toArray⟩ : ByteArray) = S) (w : World) (hT : Tab w) (hE : ErrMem w) :
    Calls Tryz.prog 15 #[.string S] w fun e w' => (∃ A n c, e = .returned (.tuple #[.slice A n c, .int .i64 0, .int .i64 0]) ∧ RowS w' (.slice A n c) l) ∧ Below w.heap.size w w' := by
  have hl : S.data.toList = printL l := by rw [← hS]
  obtain ⟨h16, hok⟩ := chk_facts h
  have hlen := print_len hok l.length (Nat.le_refl _)
  rw [List.take_length] at hlen
  have hp : ParC 16 S.data.toList (.ok l) := ⟨hl, fun t ht => by obtain ⟨j, hj, rfl⟩ := List.getElem_of_mem ht; exact okT_of (hok j hj), h16⟩
  have hsz : S.size ≤ 2000 := by rw [Lib.size_eq, hl]; omega
  refine (Parse_any S w hT hE).mono ?_
  rintro e w' hq
  obtain ⟨A, n, c, k, e', rfl, hq, hb⟩ := hq.gives
  rcases hq with ⟨h0, -⟩ | ⟨-, ⟨j, p, -⟩ | ⟨L, p, hq⟩⟩
  · omega
  · cases parC_only 16 _ _ _ p hp
  · have := parC_only 16 _ _ _ p hp
    injection this with this
    subst this
    rcases hq with ⟨c', -⟩ | ⟨-, rfl, rfl, r⟩
    · rw [h] at c'; cases c'
    · exact ⟨⟨A, n, c, rfl, r⟩, hb⟩

set_option maxRecDepth 100000 in
set_option maxHeartbeats 4000000 in
theorem Texts_law (A : Option Addr) (len cap : Nat) (s : ByteArray) (w : World) (hE : ErrMem w) (hT : Tab w) (hl : len ≤ 281474976710656 → ∃ l : List St, l.length = len ∧ RowS w (.slice A len cap) l) (hsz : s.size ≤ 9223372036854775807) :
    Calls Tryz.prog 4 #[.slice A len cap, .string s] w (Back (.bool true) w) := by
  have H12 : Hid (∀ W, Below w.heap.size w W → Calls Tryz.prog 12 #[] W (Back (.bool true) W)) := fun W hb => awake_any W (Lib.tabBelow_of_tabIs hT W hb) (hE.up hb)
  have HTB : Hid (∀ W, Below w.heap.size w W → Tab W) := fun W hb => Lib.tabBelow_of_tabIs hT W hb
  have B : Hid (Below w.heap.size w w) := Below.refl _ _
  by_cases h40 : 40 < len
  · have h40' : (40 : Int) < (len : Int) := by omega
    clear hl hE hT
    go_enter Tryz.func4, Tryz.ntmps4
    go_wp2_with (go_at_call 12; (with_reducible refine (H12.out _ B.out).mono ?_); rintro e w1 ⟨rfl, hb1⟩)
    go_ret
    exact ⟨rfl, hb1⟩
  · obtain ⟨l, rfl, hrow⟩ := hl (by omega)
    have h40' : ¬ (40 : Int) < (l.length : Int) := by omega
    have HR := Lib.hid hrow
    by_cases h21 : 2100 < s.size
    · have h21' : (2100 : Int) < (s.size : Int) := by omega
      clear hl hE hT hrow HR
      go_enter Tryz.func4, Tryz.ntmps4
      go_wp2_with (go_at_call 12; (with_reducible refine (H12.out _ B.out).mono ?_); rintro e w1 ⟨rfl, hb1⟩)
      go_ret
      exact ⟨rfl, hb1⟩
    · have h21' : ¬ (2100 : Int) < (s.size : Int) := by omega
      have H15 : Hid (∀ W, Below w.heap.size w W → Calls Tryz.prog 15 #[.string s] W (PaP s W)) := fun W hW => Parse_any s W (Lib.tabBelow_of_tabIs hT W hW) (hE.up hW)
      have H16 : Hid (∀ W, Below w.heap.size w W → Calls Tryz.prog 16 #[.string s] W (PaP s W)) := fun W hW => refParse s (by omega) W
      cases hc : chkB l with
      | false =>
        have H13 : Hid (∀ W, Below w.heap.size w W → Calls Tryz.prog 13 #[.slice A l.length cap] W (Back (.tuple #[.string ⟨#[]⟩, .int .i64 2]) W)) := fun W hW => by
          have := Print_any l _ W (HR.out.up hW) (Lib.tabBelow_of_tabIs hT W hW)
          rw [hc] at this; exact this
        have H14 : Hid (∀ W, Below w.heap.size w W → Calls Tryz.prog 14 #[.slice A l.length cap] W (Back (.tuple #[.string ⟨#[]⟩, .int .i64 2]) W)) := fun W hW => by
          have := refPrint l _ W (HR.out.up hW)
          rw [hc] at this; exact this
        clear hl hrow h40 h21 hE hT hc hsz
        go_enter Tryz.func4, Tryz.ntmps4
        go_upto_region 7 with (first
          | (go_at_call 13; (with_reducible refine (H13.out _ B.out).mono ?_); rintro e w1 ⟨rfl, HBW⟩; replace B := Lib.hid (B.out.trans (HBW.mono B.out.size)); clear HBW)
          | (go_at_call 14; (with_reducible refine (H14.out _ B.out).mono ?_); rintro e w1 ⟨rfl, HBW⟩; replace B := Lib.hid (B.out.trans (HBW.mono B.out.size)); clear HBW)
          | (go_at_call 15; (with_reducible refine (H15.out _ B.out).mono ?_); rintro e w1 h; obtain ⟨A1, n1, c1, k1, e1, rfl, hq, HBW⟩ := h.gives; have Q1 := Lib.hid hq; replace B := Lib.hid (B.out.trans (HBW.mono B.out.size)); clear HBW hq h)
          | (go_at_call 16; (with_reducible refine (H16.out _ B.out).mono ?_); rintro e w2 h; obtain ⟨A2, n2, c2, k2, e2, rfl, hq, HBW⟩ := h.gives; replace B := Lib.hid (B.out.trans (HBW.mono B.out.size)); obtain ⟨rfl, rfl, L, r1, r2, hz⟩ := Q1.out.join hq; have R1 := Lib.hid (r1.up HBW); have R2 := Lib.hid r2; have HZ := Lib.hid hz; clear HBW hq h r1 r2 hz Q1))
        have BK := B
        have B2 : Hid (∀ W, Below w2.heap.size w2 W → Below w.heap.size w W) := fun W hW => BK.out.trans (hW.mono BK.out.size)
        have C : Hid (Below w2.heap.size w2 w2) := Below.refl _ _
        have H17 : Hid (∀ W, Below w2.heap.size w2 W → Calls Tryz.prog 17 #[.slice A1 n1 c1, .slice A2 n2 c2] W (Back (.bool true) W)) := fun W hW => Same_eq L _ _ W (R1.out.up hW) (R2.out.up hW)
        by_cases he : e1 = 0
        · subst he
          obtain ⟨hz1, hz2⟩ := HZ.out rfl
          have P13 : Hid (∀ W, Below w2.heap.size w2 W → Calls Tryz.prog 13 #[.slice A1 n1 c1] W (Back (.tuple #[.string s, .int .i64 0]) W)) := fun W hW => by
            have := Print_any L _ W (R1.out.up hW) (HTB.out W (B2.out W hW))
            rw [if_pos hz1, ← hz2] at this
            exact this
          clear HZ hz1 hz2
          go_wp2_with (first
            | (go_at_call 17; (with_reducible refine (H17.out _ C.out).mono ?_); rintro e w1 ⟨rfl, HBW⟩; replace C := Lib.hid (C.out.trans (HBW.mono C.out.size)); replace B := Lib.hid (B.out.trans (HBW.mono B.out.size)); clear HBW)
            | (go_at_call 12; (with_reducible refine (H12.out _ B.out).mono ?_); rintro e w1 ⟨rfl, HBW⟩; replace C := Lib.hid (C.out.trans (HBW.mono C.out.size)); replace B := Lib.hid (B.out.trans (HBW.mono B.out.size)); clear HBW)
            | (go_at_call 13; (with_reducible refine (P13.out _ C.out).mono ?_); rintro e w1 ⟨rfl, HBW⟩; replace C := Lib.hid (C.out.trans (HBW.mono C.out.size)); replace B := Lib.hid (B.out.trans (HBW.mono B.out.size)); clear HBW))
          go_ret
          exact ⟨rfl, B.out⟩
        · have he' : (e1 == 0) = false := by rw [beq_eq_false_iff_ne]; exact he
          clear HZ he
          go_wp2_with (first
            | (go_at_call 17; (with_reducible refine (H17.out _ C.out).mono ?_); rintro e w1 ⟨rfl, HBW⟩; replace C := Lib.hid (C.out.trans (HBW.mono C.out.size)); replace B := Lib.hid (B.out.trans (HBW.mono B.out.size)); clear HBW)
            | (go_at_call 12; (with_reducible refine (H12.out _ B.out).mono ?_); rintro e w1 ⟨rfl, HBW⟩; replace C := Lib.hid (C.out.trans (HBW.mono C.out.size)); replace B := Lib.hid (B.out.trans (HBW.mono B.out.size)); clear HBW))
          go_ret
          exact ⟨rfl, B.out⟩
      | true =>
        obtain ⟨S, hS⟩ : ∃ S : ByteArray, (⟨(printL l).toArray⟩ : ByteArray) = S := ⟨_, rfl⟩
        have H13 : Hid (∀ W, Below w.heap.size w W → Calls Tryz.prog 13 #[.slice A l.length cap] W (Back (.tuple #[.string S, .int .i64 0]) W)) := fun W hW => by
          have := Print_any l _ W (HR.out.up hW) (Lib.tabBelow_of_tabIs hT W hW)
          rw [if_pos hc, hS] at this; exact this
        have H14 : Hid (∀ W, Below w.heap.size w W → Calls Tryz.prog 14 #[.slice A l.length cap] W (Back (.tuple #[.string S, .int .i64 0]) W)) := fun W hW => by
          have := refPrint l _ W (HR.out.up hW)
          rw [if_pos hc, hS] at this; exact this
        have P15 : Hid (∀ W, Below w.heap.size w W → Calls Tryz.prog 15 #[.string S] W fun e w' => (∃ A n c, e = .returned (.tuple #[.slice A n c, .int .i64 0, .int .i64 0]) ∧ RowS w' (.slice A n c) l) ∧ Below W.heap.size W w') := fun W hW => print_parse hc hS W (Lib.tabBelow_of_tabIs hT W hW) (hE.up hW)
        clear hl hrow h40 h21 hE hT hc hS hsz
        go_enter Tryz.func4, Tryz.ntmps4
        go_upto_region 7 with (first
          | (go_at_call 13; (with_reducible refine (H13.out _ B.out).mono ?_); rintro e w1 ⟨rfl, HBW⟩; replace B := Lib.hid (B.out.trans (HBW.mono B.out.size)); clear HBW)
          | (go_at_call 14; (with_reducible refine (H14.out _ B.out).mono ?_); rintro e w1 ⟨rfl, HBW⟩; replace B := Lib.hid (B.out.trans (HBW.mono B.out.size)); clear HBW)
          | (go_at_call 15; (with_reducible refine (H15.out _ B.out).mono ?_); rintro e w1 h; obtain ⟨A1, n1, c1, k1, e1, rfl, hq, HBW⟩ := h.gives; have Q1 := Lib.hid hq; replace B := Lib.hid (B.out.trans (HBW.mono B.out.size)); clear HBW hq h)
          | (go_at_call 16; (with_reducible refine (H16.out _ B.out).mono ?_); rintro e w2 h; obtain ⟨A2, n2, c2, k2, e2, rfl, hq, HBW⟩ := h.gives; replace B := Lib.hid (B.out.trans (HBW.mono B.out.size)); obtain ⟨rfl, rfl, L, r1, r2, hz⟩ := Q1.out.join hq; have R1 := Lib.hid (r1.up HBW); have R2 := Lib.hid r2; have HZ := Lib.hid hz; clear HBW hq h r1 r2 hz Q1))
        have BK := B
        have B2 : Hid (∀ W, Below w2.heap.size w2 W → Below w.heap.size w W) := fun W hW => BK.out.trans (hW.mono BK.out.size)
        have C : Hid (Below w2.heap.size w2 w2) := Below.refl _ _
        have H17 : Hid (∀ W, Below w2.heap.size w2 W → Calls Tryz.prog 17 #[.slice A1 n1 c1, .slice A2 n2 c2] W (Back (.bool true) W)) := fun W hW => Same_eq L _ _ W (R1.out.up hW) (R2.out.up hW)
        by_cases he : e1 = 0
        · subst he
          obtain ⟨hz1, hz2⟩ := HZ.out rfl
          have P13 : Hid (∀ W, Below w2.heap.size w2 W → Calls Tryz.prog 13 #[.slice A1 n1 c1] W (Back (.tuple #[.string s, .int .i64 0]) W)) := fun W hW => by
            have := Print_any L _ W (R1.out.up hW) (HTB.out W (B2.out W hW))
            rw [if_pos hz1, ← hz2] at this
            exact this
          clear HZ hz1 hz2
          go_wp2_with (first
            | (go_at_call 15; (with_reducible refine (P15.out _ B.out).mono ?_); rintro e w1 ⟨⟨A3, n3, c3, rfl, hr3⟩, HBW⟩; replace C := Lib.hid (C.out.trans (HBW.mono C.out.size)); replace B := Lib.hid (B.out.trans (HBW.mono B.out.size)); have R3 := Lib.hid hr3; have H18 : Hid (∀ W, Below w1.heap.size w1 W → Calls Tryz.prog 17 #[.slice A3 n3 c3, .slice A l.length cap] W (Back (.bool true) W)) := (fun W hW => Same_eq l _ _ W (R3.out.up hW) (HR.out.up (B.out.trans (hW.mono B.out.size)))); have D : Hid (Below w1.heap.size w1 w1) := Below.refl _ _; clear HBW hr3)
            | (go_at_call 17; (with_reducible refine (H18.out _ D.out).mono ?_); rintro e w1 ⟨rfl, HBW⟩; replace C := Lib.hid (C.out.trans (HBW.mono C.out.size)); replace B := Lib.hid (B.out.trans (HBW.mono B.out.size)); clear HBW)
            | (go_at_call 17; (with_reducible refine (H17.out _ C.out).mono ?_); rintro e w1 ⟨rfl, HBW⟩; replace C := Lib.hid (C.out.trans (HBW.mono C.out.size)); replace B := Lib.hid (B.out.trans (HBW.mono B.out.size)); clear HBW)
            | (go_at_call 12; (with_reducible refine (H12.out _ B.out).mono ?_); rintro e w1 ⟨rfl, HBW⟩; replace C := Lib.hid (C.out.trans (HBW.mono C.out.size)); replace B := Lib.hid (B.out.trans (HBW.mono B.out.size)); clear HBW)
            | (go_at_call 13; (with_reducible refine (P13.out _ C.out).mono ?_); rintro e w1 ⟨rfl, HBW⟩; replace C := Lib.hid (C.out.trans (HBW.mono C.out.size)); replace B := Lib.hid (B.out.trans (HBW.mono B.out.size)); clear HBW))
          go_ret
          exact ⟨rfl, B.out⟩
        · have he' : (e1 == 0) = false := by rw [beq_eq_false_iff_ne]; exact he
          clear HZ he
          go_wp2_with (first
            | (go_at_call 15; (with_reducible refine (P15.out _ B.out).mono ?_); rintro e w1 ⟨⟨A3, n3, c3, rfl, hr3⟩, HBW⟩; replace C := Lib.hid (C.out.trans (HBW.mono C.out.size)); replace B := Lib.hid (B.out.trans (HBW.mono B.out.size)); have R3 := Lib.hid hr3; have H18 : Hid (∀ W, Below w1.heap.size w1 W → Calls Tryz.prog 17 #[.slice A3 n3 c3, .slice A l.length cap] W (Back (.bool true) W)) := (fun W hW => Same_eq l _ _ W (R3.out.up hW) (HR.out.up (B.out.trans (hW.mono B.out.size)))); have D : Hid (Below w1.heap.size w1 w1) := Below.refl _ _; clear HBW hr3)
            | (go_at_call 17; (with_reducible refine (H18.out _ D.out).mono ?_); rintro e w1 ⟨rfl, HBW⟩; replace C := Lib.hid (C.out.trans (HBW.mono C.out.size)); replace B := Lib.hid (B.out.trans (HBW.mono B.out.size)); clear HBW)
            | (go_at_call 17; (with_reducible refine (H17.out _ C.out).mono ?_); rintro e w1 ⟨rfl, HBW⟩; replace C := Lib.hid (C.out.trans (HBW.mono C.out.size)); replace B := Lib.hid (B.out.trans (HBW.mono B.out.size)); clear HBW)
            | (go_at_call 12; (with_reducible refine (H12.out _ B.out).mono ?_); rintro e w1 ⟨rfl, HBW⟩; replace C := Lib.hid (C.out.trans (HBW.mono C.out.size)); replace B := Lib.hid (B.out.trans (HBW.mono B.out.size)); clear HBW))
          go_ret
          exact ⟨rfl, B.out⟩
end Go.Proofs.YtmhlialdbggmdaaGreatDoor
