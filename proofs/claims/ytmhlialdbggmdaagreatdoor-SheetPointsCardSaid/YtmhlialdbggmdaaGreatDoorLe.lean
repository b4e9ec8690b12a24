/- The walk of SheetOwns: it answers true. -/
import Derived.Test.YtmhlialdbggmdaaGreatDoorLd
namespace Go.Proofs.YtmhlialdbggmdaaGreatDoor
open Go.RowKit Go.Proofs Go.Shelf

theorem own_base {b b' : Nat} {W : World} {e : TypeId} {size n : Nat} {v : Value} {xs : List Value} (h : W.ownsRow b e size v n xs) (hb : b' ≤ b) : W.ownsRow b' e size v n xs := by
  obtain ⟨q1, q2⟩ := h
  refine ⟨q1, q2.imp_right ?_⟩
  rintro ⟨g, cap, cur, q3, q4, q5, q6⟩
  exact ⟨g, cap, cur, q3, by omega, q5, q6⟩
theorem own_row_up {b : Nat} {W W' : World} {e : TypeId} {size n : Nat} {v : Value} {xs : List Value} (h : W.ownsRow b e size v n xs) (hb : Below W.heap.size W W') : W'.ownsRow b e size v n xs := by
  obtain ⟨q1, q2⟩ := h
  refine ⟨q1, q2.imp_right ?_⟩
  rintro ⟨g, cap, cur, q3, q4, q5, q6⟩
  exact ⟨g, cap, cur, q3, q4, boxed_cells_up q5 hb, q6⟩
/-- A row of the call's own: it may be written. -/
def RowX (b size : Nat) (v : Value) (n : Nat) (W : World) : Prop :=
  n = 0 ∨ ∃ g c, v = .slice (some ⟨g, 0, none⟩) n c ∧ b ≤ g ∧ ∀ j, j < n * size → (∃ u, W.cell? ⟨g, j, none⟩ = some u) ∧ W.frozen? ⟨g, j, none⟩ = false
theorem RowX.up {b size n : Nat} {v : Value} {W W' : World} (h : RowX b size v n W) (hb : Below W.heap.size W W') : RowX b size v n W' := by
  refine h.imp_right ?_
  rintro ⟨g, c, h1, h2, h3⟩
  refine ⟨g, c, h1, h2, fun j hj => ?_⟩
  obtain ⟨⟨u, h4⟩, h5⟩ := h3 j hj
  exact ⟨⟨u, upc h4 hb⟩, (hb.frozen (p := ⟨g, j, none⟩) (lt_cell h4)).trans h5⟩
theorem RowX.set {b size n : Nat} {v : Value} {W : World} (h : RowX b size v n W) (p : Addr) (u : Value) : RowX b size v n (W.setCell p u) := by
  refine h.imp_right ?_
  rintro ⟨g, c, h1, h2, h3⟩
  refine ⟨g, c, h1, h2, fun j hj => ?_⟩
  obtain ⟨⟨x, h4⟩, h5⟩ := h3 j hj
  refine ⟨?_, (World.frozen?_setCell _ _ _ _).trans h5⟩
  by_cases e : (⟨g, j, none⟩ : Addr) = p
  · subst e; exact ⟨_, World.cell?_setCell_same _ _ _ h4⟩
  · exact ⟨x, (World.cell?_setCell_other _ _ _ _ (fun h => e h.symm)).trans h4⟩
theorem RowX.mono {b b' size n : Nat} {v : Value} {W : World} (h : RowX b size v n W) (hb : b' ≤ b) : RowX b' size v n W := by
  refine h.imp_right ?_
  rintro ⟨g, c, h1, h2, h3⟩
  exact ⟨g, c, h1, by omega, h3⟩
theorem RowX.of_own {b n c : Nat} {A : Option Addr} {W : World} {L : List St} (h : OwnS b W (.slice A n c) L) (hn : L.length = n) : RowX b 4 (.slice A n c) n W := by
  subst hn
  rcases h.2 with ⟨-, h0⟩ | ⟨g, cap, cur, h1, h2, -⟩
  · exact .inl h0
  · injection h1 with e1 _ e3
    subst e1 e3
    have hh : W.ownsRow b 53 4 (.slice (some ⟨g, 0, none⟩) L.length c) L.length (L.flatMap stC) := h
    refine .inr ⟨g, c, rfl, h2, fun j hj => ⟨?_, hh.frozenAt j⟩⟩
    rw [hh.cellAt j hj]
    have : j < (L.flatMap stC).length := by rw [stC_len]; exact hj
    exact ⟨_, List.getElem?_eq_getElem this⟩
theorem RowX.of_ownN {b c : Nat} {A : Option Addr} {W : World} {d : List Nat} (h : OwnN b W (.slice A d.length c) d) : RowX b 1 (.slice A d.length c) d.length W := by
  obtain ⟨A', c', he, -, -, -, h5⟩ := h
  injection he with e1 _ e3
  subst e1 e3
  by_cases hd : d = []
  · exact .inl (by rw [hd]; rfl)
  · obtain ⟨g, rfl, h6, h7⟩ := h5 hd
    exact .inr ⟨g, _, rfl, h6, fun j hj => ⟨⟨_, (h7 j (by omega)).1⟩, (h7 j (by omega)).2⟩⟩
def mirL (l : List St) : List St := if chkB l = true then l.map mirS else []
def mirE (l : List St) : Int := if chkB l = true then 0 else 2
theorem Mirror_own (l : List St) (v : Value) (w : World) (hrow : RowS w v l) : Calls Tryz.prog 31 #[v] w fun e w' => (∃ A c, e = .returned (.tuple #[.slice A (mirL l).length c, .int .i64 (mirE l)]) ∧ OwnS w.heap.size w' (.slice A (mirL l).length c) (mirL l)) ∧ Below w.heap.size w w' := by
  refine (Mirror_any l v w hrow).mono ?_
  rintro e w' ⟨⟨h, rfl⟩ | ⟨h, u, rfl, ho⟩, hb⟩
  · have e1 : mirL l = [] := by unfold mirL; rw [h]; rfl
    have e2 : mirE l = 2 := by unfold mirE; rw [h]; rfl
    rw [e1, e2]
    exact ⟨⟨none, 0, rfl, World.ownsRow_nil _ _ _ _⟩, hb⟩
  · have e1 : mirL l = l.map mirS := by unfold mirL; rw [if_pos h]
    have e2 : mirE l = 0 := by unfold mirE; rw [if_pos h]
    rw [e1, e2]
    obtain ⟨A, c, rfl⟩ := (RowS.of_own ho (by have := (chk_facts h).1; simp; omega)).form
    exact ⟨⟨A, c, rfl, ho⟩, hb⟩
theorem refMirror_own (l : List St) (v : Value) (w : World) (hrow : RowS w v l) : Calls Tryz.prog 38 #[v] w fun e w' => (∃ A c, e = .returned (.tuple #[.slice A (mirL l).length c, .int .i64 (mirE l)]) ∧ OwnS w.heap.size w' (.slice A (mirL l).length c) (mirL l)) ∧ Below w.heap.size w w' := by
  refine (refMirror l v w hrow).mono ?_
  rintro e w' ⟨⟨h, rfl⟩ | ⟨h, u, rfl, ho⟩, hb⟩
  · have e1 : mirL l = [] := by unfold mirL; rw [h]; rfl
    have e2 : mirE l = 2 := by unfold mirE; rw [h]; rfl
    rw [e1, e2]
    exact ⟨⟨none, 0, rfl, World.ownsRow_nil _ _ _ _⟩, hb⟩
  · have e1 : mirL l = l.map mirS := by unfold mirL; rw [if_pos h]
    have e2 : mirE l = 0 := by unfold mirE; rw [if_pos h]
    rw [e1, e2]
    obtain ⟨A, c, rfl⟩ := (RowS.of_own ho (by have := (chk_facts h).1; simp; omega)).form
    exact ⟨⟨A, c, rfl, ho⟩, hb⟩
theorem mirL_len (l : List St) : (mirL l).length ≤ 16 := by
  unfold mirL; split
  · rename_i h; have := (chk_facts h).1; simpa using this
  · simp
theorem Nearest_own (l : List St) (v : Value) (w : World) (hrow : RowS w v l) : Calls Tryz.prog 35 #[v] w fun e w' => (∃ A n c e5, e = .returned (.tuple #[.slice A n c, .int .i64 e5]) ∧ n ≤ 16 ∧ RowX w.heap.size 1 (.slice A n c) n w') ∧ Below w.heap.size w w' := by
  refine (Nearest_any l v w hrow).mono ?_
  rintro e w' ⟨⟨h, rfl⟩ | ⟨h, u, d, rfl, hn, ho⟩, hb⟩
  · exact ⟨⟨none, 0, 0, 2, rfl, by omega, .inl rfl⟩, hb⟩
  · obtain ⟨A, c, rfl⟩ := ho.form
    refine ⟨⟨A, d.length, c, 0, rfl, ?_, .of_ownN ho⟩, hb⟩
    rw [hn.1.length_eq]; unfold hIdx; rw [List.length_map]
    have := hsK_len l l.length; have := (chk_facts h).1; omega
theorem Count_own (l : List St) (v : Value) (w : World) (hrow : RowS w v l) : Calls Tryz.prog 30 #[v] w fun e w' => (∃ a b c : Int, e = .returned (.tuple #[.int .i64 a, .int .i64 b, .int .i64 c])) ∧ Below w.heap.size w w' := by
  refine (Count_any l v w hrow).mono ?_
  rintro e w' ⟨⟨h, rfl⟩ | ⟨h, d, hn, rfl⟩, hb⟩
  · exact ⟨⟨_, _, _, rfl⟩, hb⟩
  · exact ⟨⟨_, _, _, rfl⟩, hb⟩

set_option maxRecDepth 100000 in
set_option maxHeartbeats 4000000 in
theorem Owns_law (A : Option Addr) (len cap : Nat) (w : World) (hE : ErrMem w) (hT : Tab w) (hl : len ≤ 281474976710656 → ∃ l : List St, l.length = len ∧ RowS w (.slice A len cap) l) :
    Calls Tryz.prog 9 #[.slice A len cap] w (Back (.bool true) w) := by
  obtain ⟨i0, hi, hz0, hz1, hz2⟩ := info_parts Tryz.info53
  have H12 : Hid (∀ W, Below w.heap.size w W → Calls Tryz.prog 12 #[] W (Back (.bool true) W)) := fun W hb => awake_any W (Lib.tabBelow_of_tabIs hT W hb) (hE.up hb)
  have B : Hid (Below w.heap.size w w) := Below.refl _ _
  clear hE hT
  by_cases h40 : 40 < len
  · have h40' : (40 : Int) < (len : Int) := by omega
    clear hl
    go_enter Tryz.func9, Tryz.ntmps9
    go_wp2_with (go_at_call 12; (with_reducible refine (H12.out _ B.out).mono ?_); rintro e w1 ⟨rfl, hb1⟩)
    go_ret
    exact ⟨rfl, hb1⟩
  · obtain ⟨l, rfl, hrow⟩ := hl (by omega)
    have h40' : ¬ (40 : Int) < (l.length : Int) := by omega
    have hl40 : l.length ≤ 40 := by omega
    have HR := Lib.hid hrow
    clear hl hrow h40
    cases A with
    | none =>
      have hl0 : l = [] := by
        obtain ⟨A, cap', he, h1, h2, h3⟩ := HR.out
        injection he with e1 _ _
        subst e1
        cases l with
        | nil => rfl
        | cons a l => obtain ⟨b, o, h, -⟩ := h3 (by simp); cases h
      subst hl0
      go_enter Tryz.func9, Tryz.ntmps9
      go_upto_region 4 with fail
      have hg : RowS (w.alloc (.cells #[] 53)) (.slice (some ⟨w.heap.size, 0, none⟩) 0 0) [] := ⟨_, 0, rfl, Nat.le_refl _, ⟨Nat.zero_le _, Nat.zero_le _⟩, fun h => absurd rfl h⟩
      replace B : Hid (Below w.heap.size w (w.alloc (.cells #[] 53))) := (Below.refl w.heap.size w).alloc (Nat.le_refl _) _
      generalize w.alloc (.cells #[] 53) = W1 at hg B ⊢
      have HG := Lib.hid hg
      clear hg
      have hz1 := B.out.size
      obtain ⟨ml, hml⟩ : ∃ n, (mirL []).length = n := ⟨_, rfl⟩
      obtain ⟨me, hme⟩ : ∃ n, mirE [] = n := ⟨_, rfl⟩
      have hml16 : ml ≤ 16 := by rw [← hml]; exact mirL_len _
      have H31g : Hid (∀ W, Below W1.heap.size W1 W → Calls Tryz.prog 31 #[.slice (some ⟨w.heap.size, 0, none⟩) 0 0] W fun e w' => (∃ A4 c4, e = .returned (.tuple #[.slice A4 ml c4, .int .i64 me]) ∧ Hid (RowX W1.heap.size 4 (.slice A4 ml c4) ml w')) ∧ Below W.heap.size W w') := fun W hW => by
        refine (Mirror_own [] _ W (HG.out.up hW)).mono ?_
        rintro e w' ⟨⟨A4, c4, he, ho⟩, hb⟩
        rw [hml] at he ho
        rw [hme] at he
        exact ⟨⟨A4, c4, he, (RowX.of_own ho hml).mono hW.size⟩, hb⟩
      have H35g : Hid (∀ W, Below W1.heap.size W1 W → Calls Tryz.prog 35 #[.slice (some ⟨w.heap.size, 0, none⟩) 0 0] W fun e w' => (∃ A5 n5 c5 e5, e = .returned (.tuple #[.slice A5 n5 c5, .int .i64 e5]) ∧ n5 ≤ 16 ∧ Hid (RowX W1.heap.size 1 (.slice A5 n5 c5) n5 w')) ∧ Below W.heap.size W w') := fun W hW => by
        refine (Nearest_own [] _ W (HG.out.up hW)).mono ?_
        rintro e w' ⟨⟨A5, n5, c5, e5, he, h1, ho⟩, hb⟩
        exact ⟨⟨A5, n5, c5, e5, he, h1, ho.mono hW.size⟩, hb⟩
      have H30g : Hid (∀ W, Below W1.heap.size W1 W → Calls Tryz.prog 30 #[.slice (some ⟨w.heap.size, 0, none⟩) 0 0] W fun e w' => (∃ a b c : Int, e = .returned (.tuple #[.int .i64 a, .int .i64 b, .int .i64 c])) ∧ Below W.heap.size W w') := fun W hW => Count_own [] _ W (HG.out.up hW)
      have H31 : Hid (∀ W, Below w.heap.size w W → Calls Tryz.prog 31 #[.slice none 0 cap] W fun e w' => (∃ A6 c6, e = .returned (.tuple #[.slice A6 ml c6, .int .i64 me]) ∧ Hid (RowS w' (.slice A6 ml c6) (mirL []))) ∧ Below W.heap.size W w') := fun W hW => by
        refine (Mirror_own [] _ W (HR.out.up hW)).mono ?_
        rintro e w' ⟨⟨A4, c4, he, ho⟩, hb⟩
        rw [hml] at he ho
        rw [hme] at he
        exact ⟨⟨A4, c4, he, RowS.of_own ho (by omega)⟩, hb⟩
      have H38 : Hid (∀ W, Below w.heap.size w W → Calls Tryz.prog 38 #[.slice none 0 cap] W fun e w' => (∃ A6 c6, e = .returned (.tuple #[.slice A6 ml c6, .int .i64 me]) ∧ Hid (RowS w' (.slice A6 ml c6) (mirL []))) ∧ Below W.heap.size W w') := fun W hW => by
        refine (refMirror_own [] _ W (HR.out.up hW)).mono ?_
        rintro e w' ⟨⟨A4, c4, he, ho⟩, hb⟩
        rw [hml] at he ho
        rw [hme] at he
        exact ⟨⟨A4, c4, he, RowS.of_own ho (by omega)⟩, hb⟩
      have C : Hid (Below W1.heap.size W1 W1) := Below.refl _ _
      have H17g : Hid (∀ W, Below W1.heap.size W1 W → Calls Tryz.prog 17 #[.slice (some ⟨w.heap.size, 0, none⟩) 0 0, .slice none 0 cap] W (Back (.bool true) W)) := fun W hW => Same_eq [] _ _ W (HG.out.up hW) (HR.out.up (B.out.trans (hW.mono hz1)))
      clear hml hme
      go_wp2_with (first
        | (go_at_call 31; (with_reducible refine (H31g.out _ C.out).mono ?_); rintro e w2 ⟨⟨A4, c4, rfl, ho⟩, hb1⟩; have X4 := ho; clear ho; replace C := Lib.hid (C.out.trans (hb1.mono C.out.size)); clear hb1)
        | (go_at_call 35; (with_reducible refine (H35g.out _ C.out).mono ?_); rintro e w3 ⟨⟨A5, n5, c5, e5, rfl, h5, ho⟩, hb1⟩; have X5 := ho; clear ho; replace X4 := Lib.hid (X4.out.up hb1); replace C := Lib.hid (C.out.trans (hb1.mono C.out.size)); clear hb1)
        | (go_at_call 30; (with_reducible refine (H30g.out _ C.out).mono ?_); rintro e w4 ⟨⟨qa, qb, qc, rfl⟩, hb1⟩; replace X4 := Lib.hid (X4.out.up hb1); replace X5 := Lib.hid (X5.out.up hb1); replace C := Lib.hid (C.out.trans (hb1.mono C.out.size)); clear hb1))
      go_loopw [8] (fun iv wr => ∃ i : Nat, i ≤ ml ∧ iv = .int .i64 i ∧ Hid (RowX W1.heap.size 4 (.slice A4 ml c4) ml wr) ∧ Hid (RowX W1.heap.size 1 (.slice A5 n5 c5) n5 wr) ∧ Hid (Below W1.heap.size W1 wr)) (fun iv _ => ml - (intOf iv).toNat)
      case atStart => exact ⟨0, by omega, rfl, X4, X5, C⟩
      case round =>
        obtain ⟨i, hil, rfl, hx4, hx5, hb⟩ := hrel
        have Y4 := Lib.hid hx4.out
        have Y5 := Lib.hid hx5.out
        have HB := Lib.hid hb.out
        clear hx4 hx5 hb
        by_cases hlt : i < ml
        · have hlt' : (i : Int) < (ml : Int) := by omega
          obtain ⟨g, c, hv, hg, hcl⟩ : ∃ g c, Value.slice A4 ml c4 = .slice (some ⟨g, 0, none⟩) ml c ∧ W1.heap.size ≤ g ∧ ∀ j, j < ml * 4 → (∃ u, wr.cell? ⟨g, j, none⟩ = some u) ∧ wr.frozen? ⟨g, j, none⟩ = false := by
            rcases Y4.out with h | h
            · omega
            · exact h
          injection hv with hv1 _ hv2
          subst hv1 hv2
          obtain ⟨⟨u0, k0⟩, f0⟩ := hcl (i * 4) (by omega)
          obtain ⟨⟨u1, k1⟩, f1⟩ := hcl (i * 4 + 1) (by omega)
          obtain ⟨⟨u2, k2⟩, f2⟩ := hcl (i * 4 + 2) (by omega)
          obtain ⟨⟨u3, k3⟩, f3⟩ := hcl (i * 4 + 3) (by omega)
          clear hcl
          go_wp2_with fail
          go_roundw
          case rel => exact ⟨i + 1, by omega, by go_num, (((Y4.out.set _ _).set _ _).set _ _).set _ _, (((Y5.out.set _ _).set _ _).set _ _).set _ _, (((HB.out.setCell (p := ⟨g, i * 4, none⟩) hg _).setCell (p := ⟨g, i * 4 + 1, none⟩) hg _).setCell (p := ⟨g, i * 4 + 2, none⟩) hg _).setCell (p := ⟨g, i * 4 + 3, none⟩) hg _⟩
          case measure => simp [intOf]; omega
        · obtain rfl : i = ml := by omega
          obtain ⟨wo, hwo⟩ : ∃ wo, wo = wr := ⟨_, rfl⟩
          subst hwo
          clear X4 X5 C Y4
          go_wp2_with fail
          go_loopw [9] (fun iv wr => ∃ k : Nat, k ≤ n5 ∧ iv = .int .i64 k ∧ Hid (RowX W1.heap.size 1 (.slice A5 n5 c5) n5 wr) ∧ Hid (Below W1.heap.size W1 wr)) (fun iv _ => n5 - (intOf iv).toNat)
          case atStart => exact ⟨0, by omega, rfl, Y5, HB⟩
          case round =>
            obtain ⟨k, hkl, rfl, hx5, hb⟩ := hrel
            have Z5 := Lib.hid hx5.out
            have HC := Lib.hid hb.out
            clear hx5 hb
            by_cases hkt : k < n5
            · have hkt' : (k : Int) < (n5 : Int) := by omega
              obtain ⟨g, c, hv, hg, hcl⟩ : ∃ g c, Value.slice A5 n5 c5 = .slice (some ⟨g, 0, none⟩) n5 c ∧ W1.heap.size ≤ g ∧ ∀ j, j < n5 * 1 → (∃ u, wr.cell? ⟨g, j, none⟩ = some u) ∧ wr.frozen? ⟨g, j, none⟩ = false := by
                rcases Z5.out with h | h
                · omega
                · exact h
              injection hv with hv1 _ hv2
              subst hv1 hv2
              obtain ⟨⟨u0, k0⟩, f0⟩ := hcl k (by omega)
              clear hcl
              go_wp2_with fail
              go_roundw
              case rel => exact ⟨k + 1, by omega, by go_num, Z5.out.set _ _, HC.out.setCell (p := ⟨g, k, none⟩) hg _⟩
              case measure => simp [intOf]; omega
            · obtain rfl : k = n5 := by omega
              have D := Lib.hid (B.out.trans (HC.out.mono hz1))
              clear Y5 HB Z5
              go_wp2_with (first
                | (go_at_call 31; (with_reducible refine (H31.out _ D.out).mono ?_); rintro e w5 ⟨⟨A6, c6, rfl, ho⟩, hb1⟩; have X6 := ho; clear ho; replace HC := Lib.hid (HC.out.trans (hb1.mono HC.out.size)); replace D := Lib.hid (D.out.trans (hb1.mono D.out.size)); clear hb1)
                | (go_at_call 38; (with_reducible refine (H38.out _ D.out).mono ?_); rintro e w6 ⟨⟨A7, c7, rfl, ho⟩, hb1⟩; have X7 := ho; clear ho; replace X6 := Lib.hid (X6.out.up hb1); replace HC := Lib.hid (HC.out.trans (hb1.mono HC.out.size)); replace D := Lib.hid (D.out.trans (hb1.mono D.out.size)); clear hb1)
                | (go_at_call 17; first
                  | ((with_reducible refine (H17g.out _ HC.out).mono ?_); rintro e w7 ⟨rfl, hb1⟩; replace X6 := Lib.hid (X6.out.up hb1); replace X7 := Lib.hid (X7.out.up hb1); replace D := Lib.hid (D.out.trans (hb1.mono D.out.size)); clear hb1)
                  | ((with_reducible refine (Same_eq (mirL []) _ _ _ X6.out X7.out).mono ?_); rintro e w8 ⟨rfl, hb1⟩; replace D := Lib.hid (D.out.trans (hb1.mono D.out.size)); clear hb1))
                | (go_at_call 12; (with_reducible refine (H12.out _ D.out).mono ?_); rintro e w9 ⟨rfl, hb1⟩; replace D := Lib.hid (D.out.trans (hb1.mono D.out.size)); clear hb1))
              go_ret
              exact ⟨rfl, D.out⟩
    | some a =>
      have hOw : (w.alloc (.cells #[] 53)).ownsRow w.heap.size 53 4 (.slice (some ⟨w.heap.size, 0, none⟩) 0 0) 0 [] := World.ownsRow_lit w #[] 0 (Nat.le_refl _) (Nat.zero_le _) rfl
      have hnews : ∀ j u, (l.flatMap stC)[j]? = some u → (w.alloc (.cells #[] 53)).cell? (a.add j) = some u := by
        intro j u hu
        have hR := HR.out.up ((Below.refl w.heap.size w).alloc (Nat.le_refl _) (.cells #[] 53))
        have hne : l ≠ [] := by intro e; subst e; simp at hu
        obtain ⟨A, cap', he, h1, h2, h3⟩ := HR.out
        injection he with e1 _ e3
        obtain ⟨b, o, hA, -⟩ := h3 hne
        rw [← e1] at hA
        injection hA with hA
        subst hA
        exact hR.news j u hu
      have HOw := Lib.hid hOw
      have HNW := Lib.hid hnews
      have HNL := Lib.hid (stC_len l)
      have HON : Hid (∀ u ∈ l.flatMap stC, u.oneCell' = true) := fun u h => stC_one h
      clear hOw hnews
      go_enter Tryz.func9, Tryz.ntmps9
      go_upto_region 4 with (at_builtin; refine wpList_append_own _ rfl _ _ 30 rfl w.heap.size 53 i0 _ 4 32 Tryz.underlying30 hi hz0 hz1 hz2 rfl (by decide) _ _ _ rfl HOw.out a l.length cap (l.flatMap stC) rfl HNL.out HNW.out HON.out (by unfold maxLen; omega) (by omega) (by simp) ?_; intro gv W1 hown hgrow hnn; have HOWN := Lib.hid hown; have HGROW := Lib.hid hgrow; clear hown hgrow hnn)
      have hown2 : OwnS w.heap.size W1 gv l := by
        have h2 := HOWN.out
        rw [Nat.zero_add, List.nil_append] at h2
        exact h2
      have hg : RowS W1 gv l := RowS.of_own hown2 (by omega)
      replace B : Hid (Below w.heap.size w W1) := ((Below.refl w.heap.size w).alloc (Nat.le_refl _) _).grown HGROW.out (by simp) (fun k e => by
        have e' : some w.heap.size = some k := e
        injection e' with e'
        omega)
      obtain ⟨Ag, cg, rfl⟩ := hg.form
      have HG := Lib.hid hg
      clear HOWN HGROW hown2 hg HOw HNW HNL HON
      have hz1 := B.out.size
      obtain ⟨ml, hml⟩ : ∃ n, (mirL l).length = n := ⟨_, rfl⟩
      obtain ⟨me, hme⟩ : ∃ n, mirE l = n := ⟨_, rfl⟩
      have hml16 : ml ≤ 16 := by rw [← hml]; exact mirL_len _
      have H31g : Hid (∀ W, Below W1.heap.size W1 W → Calls Tryz.prog 31 #[.slice Ag l.length cg] W fun e w' => (∃ A4 c4, e = .returned (.tuple #[.slice A4 ml c4, .int .i64 me]) ∧ Hid (RowX W1.heap.size 4 (.slice A4 ml c4) ml w')) ∧ Below W.heap.size W w') := fun W hW => by
        refine (Mirror_own l _ W (HG.out.up hW)).mono ?_
        rintro e w' ⟨⟨A4, c4, he, ho⟩, hb⟩
        rw [hml] at he ho
        rw [hme] at he
        exact ⟨⟨A4, c4, he, (RowX.of_own ho hml).mono hW.size⟩, hb⟩
      have H35g : Hid (∀ W, Below W1.heap.size W1 W → Calls Tryz.prog 35 #[.slice Ag l.length cg] W fun e w' => (∃ A5 n5 c5 e5, e = .returned (.tuple #[.slice A5 n5 c5, .int .i64 e5]) ∧ n5 ≤ 16 ∧ Hid (RowX W1.heap.size 1 (.slice A5 n5 c5) n5 w')) ∧ Below W.heap.size W w') := fun W hW => by
        refine (Nearest_own l _ W (HG.out.up hW)).mono ?_
        rintro e w' ⟨⟨A5, n5, c5, e5, he, h1, ho⟩, hb⟩
        exact ⟨⟨A5, n5, c5, e5, he, h1, ho.mono hW.size⟩, hb⟩
      have H30g : Hid (∀ W, Below W1.heap.size W1 W → Calls Tryz.prog 30 #[.slice Ag l.length cg] W fun e w' => (∃ a b c : Int, e = .returned (.tuple #[.int .i64 a, .int .i64 b, .int .i64 c])) ∧ Below W.heap.size W w') := fun W hW => Count_own l _ W (HG.out.up hW)
      have H31 : Hid (∀ W, Below w.heap.size w W → Calls Tryz.prog 31 #[.slice (some a) l.length cap] W fun e w' => (∃ A6 c6, e = .returned (.tuple #[.slice A6 ml c6, .int .i64 me]) ∧ Hid (RowS w' (.slice A6 ml c6) (mirL l))) ∧ Below W.heap.size W w') := fun W hW => by
        refine (Mirror_own l _ W (HR.out.up hW)).mono ?_
        rintro e w' ⟨⟨A4, c4, he, ho⟩, hb⟩
        rw [hml] at he ho
        rw [hme] at he
        exact ⟨⟨A4, c4, he, RowS.of_own ho (by omega)⟩, hb⟩
      have H38 : Hid (∀ W, Below w.heap.size w W → Calls Tryz.prog 38 #[.slice (some a) l.length cap] W fun e w' => (∃ A6 c6, e = .returned (.tuple #[.slice A6 ml c6, .int .i64 me]) ∧ Hid (RowS w' (.slice A6 ml c6) (mirL l))) ∧ Below W.heap.size W w') := fun W hW => by
        refine (refMirror_own l _ W (HR.out.up hW)).mono ?_
        rintro e w' ⟨⟨A4, c4, he, ho⟩, hb⟩
        rw [hml] at he ho
        rw [hme] at he
        exact ⟨⟨A4, c4, he, RowS.of_own ho (by omega)⟩, hb⟩
      have C : Hid (Below W1.heap.size W1 W1) := Below.refl _ _
      have H17g : Hid (∀ W, Below W1.heap.size W1 W → Calls Tryz.prog 17 #[.slice Ag l.length cg, .slice (some a) l.length cap] W (Back (.bool true) W)) := fun W hW => Same_eq l _ _ W (HG.out.up hW) (HR.out.up (B.out.trans (hW.mono hz1)))
      clear hml hme
      go_wp2_with (first
        | (go_at_call 31; (with_reducible refine (H31g.out _ C.out).mono ?_); rintro e w2 ⟨⟨A4, c4, rfl, ho⟩, hb1⟩; have X4 := ho; clear ho; replace C := Lib.hid (C.out.trans (hb1.mono C.out.size)); clear hb1)
        | (go_at_call 35; (with_reducible refine (H35g.out _ C.out).mono ?_); rintro e w3 ⟨⟨A5, n5, c5, e5, rfl, h5, ho⟩, hb1⟩; have X5 := ho; clear ho; replace X4 := Lib.hid (X4.out.up hb1); replace C := Lib.hid (C.out.trans (hb1.mono C.out.size)); clear hb1)
        | (go_at_call 30; (with_reducible refine (H30g.out _ C.out).mono ?_); rintro e w4 ⟨⟨qa, qb, qc, rfl⟩, hb1⟩; replace X4 := Lib.hid (X4.out.up hb1); replace X5 := Lib.hid (X5.out.up hb1); replace C := Lib.hid (C.out.trans (hb1.mono C.out.size)); clear hb1))
      go_loopw [8] (fun iv wr => ∃ i : Nat, i ≤ ml ∧ iv = .int .i64 i ∧ Hid (RowX W1.heap.size 4 (.slice A4 ml c4) ml wr) ∧ Hid (RowX W1.heap.size 1 (.slice A5 n5 c5) n5 wr) ∧ Hid (Below W1.heap.size W1 wr)) (fun iv _ => ml - (intOf iv).toNat)
      case atStart => exact ⟨0, by omega, rfl, X4, X5, C⟩
      case round =>
        obtain ⟨i, hil, rfl, hx4, hx5, hb⟩ := hrel
        have Y4 := Lib.hid hx4.out
        have Y5 := Lib.hid hx5.out
        have HB := Lib.hid hb.out
        clear hx4 hx5 hb
        by_cases hlt : i < ml
        · have hlt' : (i : Int) < (ml : Int) := by omega
          obtain ⟨g, c, hv, hg, hcl⟩ : ∃ g c, Value.slice A4 ml c4 = .slice (some ⟨g, 0, none⟩) ml c ∧ W1.heap.size ≤ g ∧ ∀ j, j < ml * 4 → (∃ u, wr.cell? ⟨g, j, none⟩ = some u) ∧ wr.frozen? ⟨g, j, none⟩ = false := by
            rcases Y4.out with h | h
            · omega
            · exact h
          injection hv with hv1 _ hv2
          subst hv1 hv2
          obtain ⟨⟨u0, k0⟩, f0⟩ := hcl (i * 4) (by omega)
          obtain ⟨⟨u1, k1⟩, f1⟩ := hcl (i * 4 + 1) (by omega)
          obtain ⟨⟨u2, k2⟩, f2⟩ := hcl (i * 4 + 2) (by omega)
          obtain ⟨⟨u3, k3⟩, f3⟩ := hcl (i * 4 + 3) (by omega)
          clear hcl
          go_wp2_with fail
          go_roundw
          case rel => exact ⟨i + 1, by omega, by go_num, (((Y4.out.set _ _).set _ _).set _ _).set _ _, (((Y5.out.set _ _).set _ _).set _ _).set _ _, (((HB.out.setCell (p := ⟨g, i * 4, none⟩) hg _).setCell (p := ⟨g, i * 4 + 1, none⟩) hg _).setCell (p := ⟨g, i * 4 + 2, none⟩) hg _).setCell (p := ⟨g, i * 4 + 3, none⟩) hg _⟩
          case measure => simp [intOf]; omega
        · obtain rfl : i = ml := by omega
          obtain ⟨wo, hwo⟩ : ∃ wo, wo = wr := ⟨_, rfl⟩
          subst hwo
          clear X4 X5 C Y4
          go_wp2_with fail
          go_loopw [9] (fun iv wr => ∃ k : Nat, k ≤ n5 ∧ iv = .int .i64 k ∧ Hid (RowX W1.heap.size 1 (.slice A5 n5 c5) n5 wr) ∧ Hid (Below W1.heap.size W1 wr)) (fun iv _ => n5 - (intOf iv).toNat)
          case atStart => exact ⟨0, by omega, rfl, Y5, HB⟩
          case round =>
            obtain ⟨k, hkl, rfl, hx5, hb⟩ := hrel
            have Z5 := Lib.hid hx5.out
            have HC := Lib.hid hb.out
            clear hx5 hb
            by_cases hkt : k < n5
            · have hkt' : (k : Int) < (n5 : Int) := by omega
              obtain ⟨g, c, hv, hg, hcl⟩ : ∃ g c, Value.slice A5 n5 c5 = .slice (some ⟨g, 0, none⟩) n5 c ∧ W1.heap.size ≤ g ∧ ∀ j, j < n5 * 1 → (∃ u, wr.cell? ⟨g, j, none⟩ = some u) ∧ wr.frozen? ⟨g, j, none⟩ = false := by
                rcases Z5.out with h | h
                · omega
                · exact h
              injection hv with hv1 _ hv2
              subst hv1 hv2
              obtain ⟨⟨u0, k0⟩, f0⟩ := hcl k (by omega)
              clear hcl
              go_wp2_with fail
              go_roundw
              case rel => exact ⟨k + 1, by omega, by go_num, Z5.out.set _ _, HC.out.setCell (p := ⟨g, k, none⟩) hg _⟩
              case measure => simp [intOf]; omega
            · obtain rfl : k = n5 := by omega
              have D := Lib.hid (B.out.trans (HC.out.mono hz1))
              clear Y5 HB Z5
              go_wp2_with (first
                | (go_at_call 31; (with_reducible refine (H31.out _ D.out).mono ?_); rintro e w5 ⟨⟨A6, c6, rfl, ho⟩, hb1⟩; have X6 := ho; clear ho; replace HC := Lib.hid (HC.out.trans (hb1.mono HC.out.size)); replace D := Lib.hid (D.out.trans (hb1.mono D.out.size)); clear hb1)
                | (go_at_call 38; (with_reducible refine (H38.out _ D.out).mono ?_); rintro e w6 ⟨⟨A7, c7, rfl, ho⟩, hb1⟩; have X7 := ho; clear ho; replace X6 := Lib.hid (X6.out.up hb1); replace HC := Lib.hid (HC.out.trans (hb1.mono HC.out.size)); replace D := Lib.hid (D.out.trans (hb1.mono D.out.size)); clear hb1)
                | (go_at_call 17; first
                  | ((with_reducible refine (H17g.out _ HC.out).mono ?_); rintro e w7 ⟨rfl, hb1⟩; replace X6 := Lib.hid (X6.out.up hb1); replace X7 := Lib.hid (X7.out.up hb1); replace D := Lib.hid (D.out.trans (hb1.mono D.out.size)); clear hb1)
                  | ((with_reducible refine (Same_eq (mirL l) _ _ _ X6.out X7.out).mono ?_); rintro e w8 ⟨rfl, hb1⟩; replace D := Lib.hid (D.out.trans (hb1.mono D.out.size)); clear hb1))
                | (go_at_call 12; (with_reducible refine (H12.out _ D.out).mono ?_); rintro e w9 ⟨rfl, hb1⟩; replace D := Lib.hid (D.out.trans (hb1.mono D.out.size)); clear hb1))
              go_ret
              exact ⟨rfl, D.out⟩
end Go.Proofs.YtmhlialdbggmdaaGreatDoor
