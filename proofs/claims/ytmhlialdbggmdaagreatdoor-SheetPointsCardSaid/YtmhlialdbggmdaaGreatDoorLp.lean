/- The walk of SheetPoints: it answers true. -/
import Derived.Test.YtmhlialdbggmdaaGreatDoorWt
namespace Go.Proofs.YtmhlialdbggmdaaGreatDoor
open Go.RowKit Go.Proofs Go.Shelf

/-- A variable of two cells. -/
def Bx2 (W : World) (B : Nat) (a b : Value) : Prop := ∃ ty, W.heap[B]? = some (.cells #[a, b] ty (0, 0))
theorem Bx2.lt {W : World} {B : Nat} {a b : Value} (h : Bx2 W B a b) : B < W.heap.size := by obtain ⟨ty, h⟩ := h; exact (Array.getElem?_eq_some_iff.1 h).1
theorem Bx2.cells {W : World} {B : Nat} {a b : Value} (h : Bx2 W B a b) : W.cell? ⟨B, 0, none⟩ = some a ∧ W.cell? ⟨B, 0 + 1, none⟩ = some b ∧ W.cell? ⟨B, 1, none⟩ = some b ∧ W.frozen? ⟨B, 0, none⟩ = false ∧ W.frozen? ⟨B, 1, none⟩ = false := by
  obtain ⟨ty, h⟩ := h
  exact ⟨by simp [World.cell?, h], by simp [World.cell?, h], by simp [World.cell?, h], by simp [World.frozen?, h], by simp [World.frozen?, h]⟩
theorem Bx2.up {W W' : World} {B : Nat} {a b : Value} (h : Bx2 W B a b) (hb : Below W.heap.size W W') : Bx2 W' B a b := by
  have hl := h.lt
  obtain ⟨ty, h⟩ := h
  exact ⟨ty, (hb.block B hl).trans h⟩
theorem Bx2.kept {W W' : World} {row : Option Nat} {B : Nat} {a b : Value} (h : Bx2 W B a b) (hg : W.grownBy W' row) (hne : some B ≠ row) : Bx2 W' B a b := by
  have hl := h.lt
  obtain ⟨ty, h⟩ := h
  exact ⟨ty, (hg.block B hl hne).trans h⟩
theorem grownBy_set (W : World) (b o : Nat) (v : Value) : W.grownBy (W.setCell ⟨b, o, none⟩ v) (some b) :=
  ⟨rfl, rfl, rfl, (KeepsWalks.setCell W _ v).size, fun k _ hk => Below.heap_setCell _ _ _ k (fun e => hk (by rw [e]))⟩
theorem Bx2.other {W : World} {B B' o : Nat} {a b : Value} (h : Bx2 W B a b) (hne : B ≠ B') (v : Value) : Bx2 (W.setCell ⟨B', o, none⟩ v) B a b := h.kept (grownBy_set W B' o v) (fun e => hne (by cases e; rfl))
theorem Bx2.set0 {W : World} {B : Nat} {a b : Value} (h : Bx2 W B a b) (v : Value) : Bx2 (W.setCell ⟨B, 0, none⟩ v) B v b := by
  obtain ⟨ty, h⟩ := h
  obtain ⟨hlt, hk⟩ := Array.getElem?_eq_some_iff.1 h
  refine ⟨ty, ?_⟩
  show (W.heap.modify B _)[B]? = _
  rw [Array.getElem?_eq_getElem (by rw [Array.size_modify]; exact hlt), Array.getElem_modify_self, hk]
  rfl
theorem Bx2.set1 {W : World} {B : Nat} {a b : Value} (h : Bx2 W B a b) (v : Value) : Bx2 (W.setCell ⟨B, 1, none⟩ v) B a v := by
  obtain ⟨ty, h⟩ := h
  obtain ⟨hlt, hk⟩ := Array.getElem?_eq_some_iff.1 h
  refine ⟨ty, ?_⟩
  show (W.heap.modify B _)[B]? = _
  rw [Array.getElem?_eq_getElem (by rw [Array.size_modify]; exact hlt), Array.getElem_modify_self, hk]
  rfl
theorem row_set {W : World} {base B o : Nat} {e : TypeId} {size n : Nat} {u : Value} {xs : List Value} (h : W.ownsRow base e size u n xs) (hB : B < base) (v : Value) : (W.setCell ⟨B, o, none⟩ v).ownsRow base e size u n xs :=
  h.kept (grownBy_set W B o v) (by
    rcases h.2 with ⟨rfl, -⟩ | ⟨g, cap, cur, rfl, hb, -⟩
    · exact .inl rfl
    · right
      simp only [Value.ownBlock]
      intro e'
      have : g = B := by simpa using e'
      omega)

/-- The least square of a list, or -1. -/
def mnv (a : List Int) : Int := (mn a).getD (-1)
theorem sq_nn (x : Int) : 0 ≤ x * x := by
  rcases Int.le_total 0 x with h | h
  · exact Int.mul_nonneg h h
  · exact Int.mul_nonneg_of_nonpos_of_nonpos h h
theorem hs_nn {l : List St} {t x : Int} (h : x ∈ hs l t) : 0 ≤ x := by
  unfold hs at h
  obtain ⟨s, -, rfl⟩ := List.mem_map.1 h
  unfold sqd
  have h1 := sq_nn s.x
  have h2 := sq_nn s.y
  omega
theorem mnv_spec (a : List Int) (h : ∀ x ∈ a, 0 ≤ x) : (a = [] ∧ mnv a = -1) ∨ (0 ≤ mnv a ∧ mnv a ∈ a ∧ ∀ x ∈ a, mnv a ≤ x) := by
  unfold mnv
  rcases mn_spec a with ⟨rfl, e⟩ | ⟨m, e, h1, h2⟩
  · exact .inl ⟨rfl, by rw [e]; rfl⟩
  · rw [e]; exact .inr ⟨h m h1, h1, h2⟩
theorem mnv_snoc (a : List Int) (x : Int) (h : ∀ y ∈ a, 0 ≤ y) : mnv (a ++ [x]) = if mnv a < 0 ∨ x < mnv a then x else mnv a := by
  have key : ∀ m, m ∈ a ++ [x] → (∀ y ∈ a ++ [x], m ≤ y) → mnv (a ++ [x]) = m := fun m h1 h2 => by unfold mnv; rw [mn_of h1 h2]; rfl
  rcases mnv_spec a h with ⟨rfl, e⟩ | ⟨h0, h1, h2⟩
  · rw [if_pos (by rw [e]; omega)]
    exact key x (by simp) (by simp)
  · split
    · refine key x (by simp) (fun y hy => ?_)
      rcases List.mem_append.1 hy with hy | hy
      · have := h2 y hy; omega
      · simp at hy; omega
    · refine key _ (by simp [h1]) (fun y hy => ?_)
      rcases List.mem_append.1 hy with hy | hy
      · exact h2 y hy
      · simp at hy; omega
theorem mnv_lt (a : List Int) (h : ∀ y ∈ a, 0 ≤ y) (x : Int) : (mnv a < 0 ∨ x < mnv a) ↔ ∀ y ∈ a, x < y := by
  rcases mnv_spec a h with ⟨rfl, e⟩ | ⟨h0, h1, h2⟩
  · rw [e]; simp
  · constructor
    · intro hx y hy; have := h2 y hy; omega
    · intro hx; have := hx _ h1; omega
theorem hs_take {l : List St} {k : Nat} (hk : k < l.length) (t : Int) : hs (l.take (k + 1)) t = hs (l.take k) t ++ (if hs1 t (l[k]'hk) = true then [sqd (l[k]'hk).x (l[k]'hk).y] else []) := by
  rw [List.take_succ_eq_append_getElem hk, hs_append]
  congr 1
  unfold hs
  split
  · rename_i h; rw [List.filter_cons_of_pos h]; rfl
  · rename_i h; rw [List.filter_cons_of_neg h]; rfl
theorem alone_take {l : List St} {k : Nat} (hk : k < l.length) (t : Int) : aloneL (l.take (k + 1)) t = aloneL (l.take k) t ++ (if (l[k]'hk).t = t then [l[k]'hk] else []) := by
  rw [List.take_succ_eq_append_getElem hk]
  unfold aloneL
  rw [List.filter_append]
  congr 1
  split
  · rename_i h; rw [List.filter_cons_of_pos (by simpa using h)]; rfl
  · rename_i h; rw [List.filter_cons_of_neg (by simpa using h)]; rfl

theorem Bx2.grown {W W' : World} {B base n : Nat} {a b v : Value} {e : TypeId} {size : Nat} {xs : List Value} (h : Bx2 W B a b) (ho : W.ownsRow base e size v n xs) (hB : B < base) (hg : W.grownBy W' v.ownBlock) : Bx2 W' B a b :=
  h.kept hg (fun e' => by have := (ownBlock_ge ho e'.symm).1; omega)
theorem pt_shape {b : Nat} {W : World} {e : TypeId} {size n : Nat} {v : Value} {xs : List Value} (h : W.ownsRow b e size v n xs) : ∃ A c, v = .slice A n c := by
  rcases h.2 with ⟨rfl, h0⟩ | ⟨g, cap, cur, rfl, -⟩
  · exact ⟨none, 0, by rw [h0]⟩
  · exact ⟨_, _, rfl⟩
theorem hs_len (l : List St) (t : Int) : (hs l t).length ≤ l.length := by unfold hs; rw [List.length_map]; exact List.length_filter_le _ _
theorem alone_len (l : List St) (t : Int) : (aloneL l t).length ≤ l.length := List.length_filter_le _ _
/-- What stands between two rounds. -/
def PtI (l : List St) (M : Int) (H : Nat) (k : Nat) (u : Value) (W : World) : Prop :=
  Bx2 W H (.int .i64 ((hs (l.take k) 0).length : Nat)) (.int .i64 ((hs (l.take k) 1).length : Nat)) ∧ Bx2 W (H + 1) (.int .i64 (mnv (hs (l.take k) 0))) (.int .i64 (mnv (hs (l.take k) 1))) ∧ OwnS (H + 2) W u (aloneL (l.take k) M)

set_option maxRecDepth 100000 in
set_option maxHeartbeats 8000000 in
theorem Points_at0 (l : List St) (A : Option Addr) (cap : Nat) (i : Int) (P : Int) (w : World) (hE : ErrMem w) (hT : Tab w) (hrow : RowS w (.slice A l.length cap) l) (hi0 : 0 ≤ i) (hi1 : i ≤ 255) (hc : chkB l = true) (hr : refT l = (0, P)) (hw : Win (hs l 0) (hs l 1)) :
    Calls Tryz.prog 7 #[.slice A l.length cap, .int .u8 i] w (Back (.bool true) w) := by
  have H12 : Hid (∀ W, Below w.heap.size w W → Calls Tryz.prog 12 #[] W (Back (.bool true) W)) := fun W hb => awake_any W (Lib.tabBelow_of_tabIs hT W hb) (hE.up hb)
  have B : Hid (Below w.heap.size w w) := Below.refl _ _
  clear hE hT
  have HR := Lib.hid hrow
  obtain ⟨i0, hi, hz0, hz1, hz2⟩ := info_parts Tryz.info53
  have HF := Lib.hid (chk_facts hc)
  have h16 := HF.out.1
  have HCK := Lib.hid hc
  have h40' : ¬ (40 : Int) < (l.length : Int) := by omega
  have H29 : Hid (∀ W, Below w.heap.size w W → Calls Tryz.prog 29 #[.slice A l.length cap] W (Back (.bool true) W)) := fun W hW => by
    have := refCheck l _ W (HR.out.up hW); rw [hc] at this; exact this
  have H30 : Hid (∀ W, Below w.heap.size w W → Calls Tryz.prog 30 #[.slice A l.length cap] W (Back (.tuple #[.int .i64 (0), .int .i64 P, .int .i64 0]) W)) := fun W hW => by
    have := count_ref l _ W (HR.out.up hW) hc; rw [hr] at this; exact this
  have H31 : Hid (∀ W, Below w.heap.size w W → Calls Tryz.prog 31 #[.slice A l.length cap] W fun e w' => (∃ A1 n1 c1, e = .returned (.tuple #[.slice A1 n1 c1, .int .i64 0]) ∧ RowS w' (.slice A1 n1 c1) (l.map mirS)) ∧ Below W.heap.size W w') := fun W hW => by
    refine (Mirror_any l _ W (HR.out.up hW)).mono ?_
    rintro e w' ⟨⟨h, -⟩ | ⟨-, u, rfl, ho⟩, hb⟩
    · rw [hc] at h; cases h
    · have hrr := RowS.of_own ho (by simp; omega)
      obtain ⟨A1, c1, rfl, -⟩ := id hrr
      exact ⟨⟨_, _, _, rfl, hrr⟩, hb⟩
  have HRT := Lib.hid hr
  have HP : Hid (1 ≤ P ∧ P ≤ 8 ∧ P ≤ (hs l 0).length) := by
    have h1 := ref_win (l := l) (T := 0) (by decide) hw
    rw [hr] at h1
    injection h1 with _ h1
    have h2 := pts_pos hw
    have h3 := pts_le (hs l 0) (hs l 1)
    have h4 := team_len hc 0
    have h5 : P = ((pts (hs l 0) (hs l 1) : Nat) : Int) := h1
    exact ⟨by omega, by omega, by omega⟩
  have hP1 := HP.out.1
  have hP8 := HP.out.2.1
  have hP0 : (P == 0) = false := by rw [beq_eq_false_iff_ne]; omega
  have HW := Lib.hid hw
  clear hw
  clear hrow hc hr
  go_enter Tryz.func7, Tryz.ntmps7
  go_upto_region 11 with (first
    | (go_at_call 29; (with_reducible refine (H29.out _ B.out).mono ?_); rintro e w1 ⟨rfl, hb1⟩; replace B := Lib.hid (B.out.trans (hb1.mono B.out.size)); clear hb1)
    | (go_at_call 31; (with_reducible refine (H31.out _ B.out).mono ?_); rintro e w1 ⟨⟨A1, n1, c1, rfl, hmr⟩, hb1⟩; replace B := Lib.hid (B.out.trans (hb1.mono B.out.size)); clear hb1; have H30M : Hid (Calls Tryz.prog 30 #[.slice A1 n1 c1] w1 (Back (.tuple #[.int .i64 (0), .int .i64 P, .int .i64 0]) w1)) := (by have := count_ref (l.map mirS) _ w1 hmr (chk_mir HCK.out); rw [ref_mir, HRT.out] at this; exact this); clear hmr)
    | (go_at_call 30; (with_reducible refine (H30.out _ B.out).mono ?_); rintro e w1 ⟨rfl, hb1⟩; replace B := Lib.hid (B.out.trans (hb1.mono B.out.size)); clear hb1)
    | (go_at_call 30; (with_reducible refine (H30M.out).mono ?_); rintro e w1 ⟨rfl, hb1⟩; replace B := Lib.hid (B.out.trans (hb1.mono B.out.size)); clear hb1))
  obtain ⟨H, hH⟩ : ∃ H, w1.heap.size = H := ⟨_, rfl⟩
  rw [hH]
  generalize hwl : (w1.alloc _).alloc _ = wl
  have HX0 : Hid (Bx2 wl H (.int .i64 0) (.int .i64 0)) := by
    show Bx2 _ _ _ _
    rw [← hwl, ← hH]
    exact ⟨50, by rw [Below.heap_alloc _ _ _ (by simp), World.alloc_heap_new]⟩
  have HX1 : Hid (Bx2 wl (H + 1) (.int .i64 (-1)) (.int .i64 (-1))) := by
    show Bx2 _ _ _ _
    rw [← hwl, ← hH]
    have := World.alloc_heap_new (w1.alloc (.cells #[.int .i64 0, .int .i64 0] 50)) (.cells #[.int .i64 (-1), .int .i64 (-1)] 51)
    rw [World.size_alloc] at this
    exact ⟨51, this⟩
  have HH : Hid (w.heap.size ≤ H) := by show _ ≤ _; rw [← hH]; exact B.out.size
  replace B : Hid (Below w.heap.size w wl) := by show Below _ _ _; rw [← hwl]; exact (B.out.alloc B.out.size _).alloc (by simp; have := B.out.size; omega) _
  clear hwl hH
  have HC : Hid (l ≠ [] → ∃ b o, A = some ⟨b, o, none⟩ ∧ ∀ j (h : j < l.length), At4 w b (o + j * 4) (l[j]'h)) := by
    obtain ⟨A', cap', he, -, -, h⟩ := HR.out
    injection he with e1 _ e2
    subst e1
    exact h
  have hlc : l.length ≤ cap := by
    obtain ⟨A', cap', he, h, -, -⟩ := HR.out
    injection he with e1 _ e2
    omega
  have P0 : Hid (PtI l 0 H 0 (.slice none 0 0) wl) := ⟨HX0.out, HX1.out, World.ownsRow_nil _ _ _ _⟩
  have hmx : max (0 : Int) 0 = 0 := by decide
  clear HX0 HX1
  go_loopw [15, 16] (fun u iv wr => ∃ k : Nat, k ≤ l.length ∧ iv = .int .i64 k ∧ Hid (PtI l 0 H k u wr) ∧ Hid (Below w.heap.size w wr)) (fun _ iv _ => l.length - (intOf iv).toNat)
  case atStart => exact ⟨0, by omega, rfl, P0, B⟩
  case round =>
    obtain ⟨k, hk, rfl, hPt, hb⟩ := hrel
    have HX0 := Lib.hid hPt.out.1
    have HX1 := Lib.hid hPt.out.2.1
    have HO := Lib.hid hPt.out.2.2
    have HB := Lib.hid hb.out
    clear hPt hb P0 B
    by_cases hlt : k < l.length
    · have hlt' : (k : Int) < (l.length : Int) := by omega
      obtain ⟨b, o, rfl, hc⟩ := HC.out (by intro h; subst h; simp at hlt)
      have hA := hc k hlt
      have hst := HF.out.2 k hlt
      have ht0 := hs_take hlt 0
      have ht1 := hs_take hlt 1
      have hal := alone_take hlt 0
      obtain ⟨s, hs'⟩ : ∃ s, l[k]'hlt = s := ⟨_, rfl⟩
      rw [hs'] at hA hst ht0 ht1 hal
      have HA0 := Lib.hid hA
      have HT0 := Lib.hid ht0
      have HT1 := Lib.hid ht1
      have HAL := Lib.hid hal
      have H32 : Hid (∀ w, Calls Tryz.prog 32 #[.agg #[.int .i64 s.x, .int .i64 s.y]] w (Back (.bool (decide (InH s.x s.y))) w)) := fun w => refInHouse s.x s.y w hst.2.1
      obtain ⟨p, hp⟩ : ∃ p, sqd s.x s.y = p := ⟨_, rfl⟩
      have H33 : Hid (∀ w, Calls Tryz.prog 33 #[.agg #[.int .i64 s.x, .int .i64 s.y]] w (Back (.int .i64 p) w)) := fun w => by rw [← hp]; exact refSquare s.x s.y w (sqd_bound hst.2.2)
      have HP0 := Lib.hid hp
      have hts : s.t = 0 ∨ s.t = 1 := by have := hst.1.1; omega
      obtain ⟨AU, cu, hu⟩ := pt_shape HO.out
      subst hu
      obtain ⟨nA, hnA⟩ : ∃ n, (aloneL (l.take k) 0).length = n := ⟨_, rfl⟩
      obtain ⟨n0, hn0⟩ : ∃ n, (hs (l.take k) 0).length = n := ⟨_, rfl⟩
      obtain ⟨n1, hn1⟩ : ∃ n, (hs (l.take k) 1).length = n := ⟨_, rfl⟩
      obtain ⟨b0, hb0⟩ : ∃ n, mnv (hs (l.take k) 0) = n := ⟨_, rfl⟩
      obtain ⟨b1, hb1⟩ : ∃ n, mnv (hs (l.take k) 1) = n := ⟨_, rfl⟩
      have hl0 := hs_len (l.take k) 0
      have hl1 := hs_len (l.take k) 1
      have hlA := alone_len (l.take k) 0
      rw [List.length_take, hn0] at hl0
      rw [List.length_take, hn1] at hl1
      rw [List.length_take, hnA] at hlA
      have hn016 : n0 ≤ 16 := by omega
      have hn116 : n1 ≤ 16 := by omega
      have hnA16 : nA ≤ 16 := by omega
      have HNA := Lib.hid hnA
      have HN0 := Lib.hid hn0
      have HN1 := Lib.hid hn1
      have HM0 := Lib.hid hb0
      have HM1 := Lib.hid hb1
      rw [hn0, hn1] at HX0
      rw [hb0, hb1] at HX1
      rw [hnA] at HO ⊢
      clear hs' hA hst ht0 ht1 hal hp hc hnA hn0 hn1 hb0 hb1 hl0 hl1 hlA HC
      obtain ⟨s1, s2, s3, s4⟩ := s
      simp only at hts
      rcases hts with rfl | rfl
      ·
        have HO1 : Hid (aloneL (l.take (k + 1)) 0 = aloneL (l.take k) 0 ++ [⟨0, s2, s3, s4⟩]) := by show _ = _; rw [HAL.out, if_pos rfl]
        have K2 : Hid ((wr.alloc (.cells #[.int .i64 0, .int .i64 s2, .int .i64 s3, .int .i64 s4] 53)).ownsRow (H + 2) 53 4 (.slice AU nA cu) nA ((aloneL (l.take k) 0).flatMap stC))  := by
          have h := HO.out.alloc (.cells #[.int .i64 0, .int .i64 s2, .int .i64 s3, .int .i64 s4] 53)
          rw [HNA.out] at h
          exact h
        have NW := Lib.hid (news_lit wr ⟨0, s2, s3, s4⟩)
        have hHz : H + 1 < wr.heap.size := HX1.out.lt
        have HB2 : Hid (Below w.heap.size w (wr.alloc (.cells #[.int .i64 0, .int .i64 s2, .int .i64 s3, .int .i64 s4] 53))) := HB.out.alloc HB.out.size _
        obtain ⟨a0, a1, a2, a3⟩ := HA0.out.up HB.out
        go_upto_region 15 with (at_builtin; refine wpList_append_own _ rfl _ _ 30 rfl (H + 2) 53 i0 _ 4 32 Tryz.underlying30 hi hz0 hz1 hz2 rfl (by decide) _ _ _ rfl K2.out ⟨wr.heap.size, 0, none⟩ 1 1 (stC ⟨0, s2, s3, s4⟩) rfl rfl NW.out (fun u h => stC_one1 h) (by unfold maxLen; omega) (by omega) (by simp; omega) ?_; intro u1 w5 hown hgrow hnn; replace HX0 := Lib.hid ((HX0.out.up ((Below.refl _ _).alloc (Nat.le_refl _) _)).grown K2.out (by omega) hgrow); replace HX1 := Lib.hid ((HX1.out.up ((Below.refl _ _).alloc (Nat.le_refl _) _)).grown K2.out (by omega) hgrow); replace HB := Lib.hid (HB2.out.grown hgrow (by simp; have := HB.out.size; omega) (fun j hj => by have := (ownBlock_ge K2.out hj).1; have := HH.out; omega)); have HO5 := Lib.hid hown; clear hown hgrow hnn)
        replace HO : Hid (OwnS (H + 2) w5 u1 (aloneL (l.take (k + 1)) 0)) := by
          have h5 := HO5.out
          have e1 : ([⟨0, s2, s3, s4⟩] : List St).flatMap stC = stC ⟨0, s2, s3, s4⟩ := by simp
          show World.ownsRow _ _ _ _ _ _ _
          rw [HO1.out, List.length_append, HNA.out, List.flatMap_append, e1]; exact h5
        clear K2 NW HB2 HO5 HO1 HAL HNA hHz a0 a1 a2 a3
        obtain ⟨a0, a1, a2, a3⟩ := HA0.out.up HB.out
        by_cases hin : InH s3 s4
        · rw [decide_eq_true hin] at H32
          go_upto_region 16 with (go_at_call 32; refine (H32.out _).mono ?_; rintro e w2 ⟨rfl, hb2⟩; replace HX0 := Lib.hid (HX0.out.up hb2); replace HX1 := Lib.hid (HX1.out.up hb2); replace HO := Lib.hid (own_row_up HO.out hb2); replace HB := Lib.hid (HB.out.trans (hb2.mono HB.out.size)); clear hb2)
          clear a0 a1 a2 a3 H32
          obtain ⟨a0, a1, a2, a3⟩ := HA0.out.up HB.out
          obtain ⟨x0, -, x1, f0, f1⟩ := HX0.out.cells
          go_upto_region 18 with fail
          generalize hW3 : World.setCell _ _ _ = W3
          replace HX0 : Hid (Bx2 W3 H (.int .i64 ((n0 : Int) + 1)) (.int .i64 n1)) := by show Bx2 _ _ _ _; rw [← hW3]; exact HX0.out.set0 _
          replace HX1 : Hid (Bx2 W3 (H + 1) (.int .i64 b0) (.int .i64 b1)) := by show Bx2 _ _ _ _; rw [← hW3]; exact HX1.out.other (by omega) _
          replace HO : Hid (OwnS (H + 2) W3 u1 (aloneL (l.take (k + 1)) 0)) := by show World.ownsRow _ _ _ _ _ _ _; rw [← hW3]; exact row_set HO.out (by omega) _
          replace HB : Hid (Below w.heap.size w W3) := by show Below _ _ _; rw [← hW3]; exact HB.out.setCell (p := ⟨H, 0, none⟩) HH.out _
          clear hW3 a0 a1 a2 a3 x0 x1 f0 f1
          obtain ⟨a0, a1, a2, a3⟩ := HA0.out.up HB.out
          obtain ⟨x0, -, x1, f0, f1⟩ := HX1.out.cells
          have q2 := fun X : BW W3 => upc a2 X.same
          have q3 := fun X : BW W3 => upc a3 X.same
          have qb := fun X : BW W3 => upc x0 X.same
          clear a0 a1 a2 a3 x0 x1 f0 f1
          by_cases hbn : b0 < 0
          ·
            refine wp_region_quietB (by kernel_rfl) (by kernel_rfl) ?_
            repeat (go_big_quiet_step ((go_at_call 33; exact quietB (H33.out _))))
            refine wpQuiet_nil ?_
            rintro wy ⟨⟨wz, hb2⟩, hwz⟩
            change wy = wz at hwz
            subst hwz
            replace HX0 := Lib.hid (HX0.out.up hb2)
            replace HX1 := Lib.hid (HX1.out.up hb2)
            replace HO := Lib.hid (own_row_up HO.out hb2)
            replace HB := Lib.hid (HB.out.trans (hb2.mono HB.out.size))
            clear q2 q3 qb hb2
            obtain ⟨a0, a1, a2, a3⟩ := HA0.out.up HB.out
            have HH0 : Hid (hs (l.take (k + 1)) 0 = hs (l.take k) 0 ++ [sqd s3 s4]) := by show _ = _; rw [HT0.out, if_pos (by unfold hs1; simp [hin])]
            have HH1 : Hid (hs (l.take (k + 1)) 1 = hs (l.take k) 1) := by show _ = _; rw [HT1.out, if_neg (by unfold hs1; simp), List.append_nil]
            have E0 : Hid (((hs (l.take (k + 1)) 0).length : Int) = (n0 : Int) + 1) := by show _ = _; rw [HH0.out, List.length_append, HN0.out]; simp
            have E1 : Hid (((hs (l.take (k + 1)) 1).length : Int) = (n1 : Int)) := by show _ = _; rw [HH1.out, HN1.out]
            have E2 : Hid (mnv (hs (l.take (k + 1)) 0) = p) := by show _ = _; rw [HH0.out, mnv_snoc _ _ (fun _ h => hs_nn h), HM0.out, HP0.out, if_pos (by omega)]
            have E3 : Hid (mnv (hs (l.take (k + 1)) 1) = b1) := by show _ = _; rw [HH1.out, HM1.out]
            clear HT0 HT1 HH0 HH1 HN0 HN1 HM0 HM1
            go_wp2_with (go_at_call 33; refine (H33.out _).mono ?_; rintro e w2 ⟨rfl, hb2⟩; replace HX0 := Lib.hid (HX0.out.up hb2); replace HX1 := Lib.hid (HX1.out.up hb2); replace HO := Lib.hid (own_row_up HO.out hb2); replace HB := Lib.hid (HB.out.trans (hb2.mono HB.out.size)); clear hb2; obtain ⟨x0, -, x1, f0, f1⟩ := HX1.out.cells)
            generalize hW4 : World.setCell w2 _ _ = W4
            replace HX0 : Hid (Bx2 W4 H (.int .i64 ((n0 : Int) + 1)) (.int .i64 n1)) := by show Bx2 _ _ _ _; rw [← hW4]; exact HX0.out.other (by omega) _
            replace HX1 : Hid (Bx2 W4 (H + 1) (.int .i64 p) (.int .i64 b1)) := by show Bx2 _ _ _ _; rw [← hW4]; exact HX1.out.set0 _
            replace HO : Hid (OwnS (H + 2) W4 u1 (aloneL (l.take (k + 1)) 0)) := by show World.ownsRow _ _ _ _ _ _ _; rw [← hW4]; exact row_set HO.out (by omega) _
            replace HB : Hid (Below w.heap.size w W4) := by show Below _ _ _; rw [← hW4]; exact HB.out.setCell (p := ⟨H + 1, 0, none⟩) (Nat.le_succ_of_le HH.out) _
            clear hW4 x0 x1 f0 f1
            go_roundw
            case rel =>
              refine ⟨k + 1, by omega, by go_num, ?_, HB.out⟩
              show PtI _ _ _ _ _ _
              refine ⟨?_, ?_, HO.out⟩
              · rw [E0.out, E1.out]; exact HX0.out
              · rw [E2.out, E3.out]; exact HX1.out
            case measure => simp [intOf]; omega

          · by_cases hpb : p < b0
            ·
              refine wp_region_quietB (by kernel_rfl) (by kernel_rfl) ?_
              repeat (go_big_quiet_step ((go_at_call 33; exact quietB (H33.out _))))
              refine wpQuiet_nil ?_
              rintro wy ⟨⟨wz, hb2⟩, hwz⟩
              change wy = wz at hwz
              subst hwz
              replace HX0 := Lib.hid (HX0.out.up hb2)
              replace HX1 := Lib.hid (HX1.out.up hb2)
              replace HO := Lib.hid (own_row_up HO.out hb2)
              replace HB := Lib.hid (HB.out.trans (hb2.mono HB.out.size))
              clear q2 q3 qb hb2
              obtain ⟨a0, a1, a2, a3⟩ := HA0.out.up HB.out
              have HH0 : Hid (hs (l.take (k + 1)) 0 = hs (l.take k) 0 ++ [sqd s3 s4]) := by show _ = _; rw [HT0.out, if_pos (by unfold hs1; simp [hin])]
              have HH1 : Hid (hs (l.take (k + 1)) 1 = hs (l.take k) 1) := by show _ = _; rw [HT1.out, if_neg (by unfold hs1; simp), List.append_nil]
              have E0 : Hid (((hs (l.take (k + 1)) 0).length : Int) = (n0 : Int) + 1) := by show _ = _; rw [HH0.out, List.length_append, HN0.out]; simp
              have E1 : Hid (((hs (l.take (k + 1)) 1).length : Int) = (n1 : Int)) := by show _ = _; rw [HH1.out, HN1.out]
              have E2 : Hid (mnv (hs (l.take (k + 1)) 0) = p) := by show _ = _; rw [HH0.out, mnv_snoc _ _ (fun _ h => hs_nn h), HM0.out, HP0.out, if_pos (by omega)]
              have E3 : Hid (mnv (hs (l.take (k + 1)) 1) = b1) := by show _ = _; rw [HH1.out, HM1.out]
              clear HT0 HT1 HH0 HH1 HN0 HN1 HM0 HM1
              go_wp2_with (go_at_call 33; refine (H33.out _).mono ?_; rintro e w2 ⟨rfl, hb2⟩; replace HX0 := Lib.hid (HX0.out.up hb2); replace HX1 := Lib.hid (HX1.out.up hb2); replace HO := Lib.hid (own_row_up HO.out hb2); replace HB := Lib.hid (HB.out.trans (hb2.mono HB.out.size)); clear hb2; obtain ⟨x0, -, x1, f0, f1⟩ := HX1.out.cells)
              generalize hW4 : World.setCell w2 _ _ = W4
              replace HX0 : Hid (Bx2 W4 H (.int .i64 ((n0 : Int) + 1)) (.int .i64 n1)) := by show Bx2 _ _ _ _; rw [← hW4]; exact HX0.out.other (by omega) _
              replace HX1 : Hid (Bx2 W4 (H + 1) (.int .i64 p) (.int .i64 b1)) := by show Bx2 _ _ _ _; rw [← hW4]; exact HX1.out.set0 _
              replace HO : Hid (OwnS (H + 2) W4 u1 (aloneL (l.take (k + 1)) 0)) := by show World.ownsRow _ _ _ _ _ _ _; rw [← hW4]; exact row_set HO.out (by omega) _
              replace HB : Hid (Below w.heap.size w W4) := by show Below _ _ _; rw [← hW4]; exact HB.out.setCell (p := ⟨H + 1, 0, none⟩) (Nat.le_succ_of_le HH.out) _
              clear hW4 x0 x1 f0 f1
              go_roundw
              case rel =>
                refine ⟨k + 1, by omega, by go_num, ?_, HB.out⟩
                show PtI _ _ _ _ _ _
                refine ⟨?_, ?_, HO.out⟩
                · rw [E0.out, E1.out]; exact HX0.out
                · rw [E2.out, E3.out]; exact HX1.out
              case measure => simp [intOf]; omega

            ·
              refine wp_region_quietB (by kernel_rfl) (by kernel_rfl) ?_
              repeat (go_big_quiet_step ((go_at_call 33; exact quietB (H33.out _))))
              refine wpQuiet_nil ?_
              rintro wy ⟨⟨wz, hb2⟩, hwz⟩
              change wy = wz at hwz
              subst hwz
              replace HX0 := Lib.hid (HX0.out.up hb2)
              replace HX1 := Lib.hid (HX1.out.up hb2)
              replace HO := Lib.hid (own_row_up HO.out hb2)
              replace HB := Lib.hid (HB.out.trans (hb2.mono HB.out.size))
              clear q2 q3 qb hb2
              have HH0 : Hid (hs (l.take (k + 1)) 0 = hs (l.take k) 0 ++ [sqd s3 s4]) := by show _ = _; rw [HT0.out, if_pos (by unfold hs1; simp [hin])]
              have HH1 : Hid (hs (l.take (k + 1)) 1 = hs (l.take k) 1) := by show _ = _; rw [HT1.out, if_neg (by unfold hs1; simp), List.append_nil]
              have E0 : Hid (((hs (l.take (k + 1)) 0).length : Int) = (n0 : Int) + 1) := by show _ = _; rw [HH0.out, List.length_append, HN0.out]; simp
              have E1 : Hid (((hs (l.take (k + 1)) 1).length : Int) = (n1 : Int)) := by show _ = _; rw [HH1.out, HN1.out]
              have E2 : Hid (mnv (hs (l.take (k + 1)) 0) = b0) := by show _ = _; rw [HH0.out, mnv_snoc _ _ (fun _ h => hs_nn h), HM0.out, HP0.out, if_neg (by omega)]
              have E3 : Hid (mnv (hs (l.take (k + 1)) 1) = b1) := by show _ = _; rw [HH1.out, HM1.out]
              clear HT0 HT1 HH0 HH1 HN0 HN1 HM0 HM1
              go_wp2_with fail
              go_roundw
              case rel =>
                refine ⟨k + 1, by omega, by go_num, ?_, HB.out⟩
                show PtI _ _ _ _ _ _
                refine ⟨?_, ?_, HO.out⟩
                · rw [E0.out, E1.out]; exact HX0.out
                · rw [E2.out, E3.out]; exact HX1.out
              case measure => simp [intOf]; omega

        · rw [decide_eq_false hin] at H32
          have HH0 : Hid (hs (l.take (k + 1)) 0 = hs (l.take k) 0 ++ []) := by show _ = _; rw [HT0.out, if_neg (by unfold hs1; simp [hin])]
          have HH1 : Hid (hs (l.take (k + 1)) 1 = hs (l.take k) 1) := by show _ = _; rw [HT1.out, if_neg (by unfold hs1; simp), List.append_nil]
          have E0 : Hid (((hs (l.take (k + 1)) 0).length : Int) = (n0 : Int)) := by show _ = _; rw [HH0.out, List.length_append, HN0.out]; simp
          have E1 : Hid (((hs (l.take (k + 1)) 1).length : Int) = (n1 : Int)) := by show _ = _; rw [HH1.out, HN1.out]
          have E2 : Hid (mnv (hs (l.take (k + 1)) 0) = b0) := by show _ = _; rw [HH0.out, List.append_nil, HM0.out]
          have E3 : Hid (mnv (hs (l.take (k + 1)) 1) = b1) := by show _ = _; rw [HH1.out, HM1.out]

          clear HT0 HT1 HH0 HH1 HN0 HN1 HM0 HM1
          go_wp2_with (go_at_call 32; refine (H32.out _).mono ?_; rintro e w2 ⟨rfl, hb2⟩; replace HX0 := Lib.hid (HX0.out.up hb2); replace HX1 := Lib.hid (HX1.out.up hb2); replace HO := Lib.hid (own_row_up HO.out hb2); replace HB := Lib.hid (HB.out.trans (hb2.mono HB.out.size)); clear hb2)
          go_roundw
          case rel =>
            refine ⟨k + 1, by omega, by go_num, ?_, HB.out⟩
            show PtI _ _ _ _ _ _
            refine ⟨?_, ?_, HO.out⟩
            · rw [E0.out, E1.out]; exact HX0.out
            · rw [E2.out, E3.out]; exact HX1.out
          case measure => simp [intOf]; omega

      ·
        replace HO : Hid (OwnS (H + 2) wr (.slice AU nA cu) (aloneL (l.take (k + 1)) 0)) := by
          show World.ownsRow _ _ _ _ _ _ _
          rw [HAL.out, if_neg (show ¬ ((1 : Int) = 0) by decide), List.append_nil]; exact HO.out
        obtain ⟨u1, hu1⟩ : ∃ u, Value.slice AU nA cu = u := ⟨_, rfl⟩
        rw [hu1] at HO ⊢
        obtain ⟨a0, a1, a2, a3⟩ := HA0.out.up HB.out
        go_upto_region 15 with fail
        clear HAL HNA hu1 a0 a1 a2 a3
        obtain ⟨a0, a1, a2, a3⟩ := HA0.out.up HB.out
        by_cases hin : InH s3 s4
        · rw [decide_eq_true hin] at H32
          go_upto_region 16 with (go_at_call 32; refine (H32.out _).mono ?_; rintro e w2 ⟨rfl, hb2⟩; replace HX0 := Lib.hid (HX0.out.up hb2); replace HX1 := Lib.hid (HX1.out.up hb2); replace HO := Lib.hid (own_row_up HO.out hb2); replace HB := Lib.hid (HB.out.trans (hb2.mono HB.out.size)); clear hb2)
          clear a0 a1 a2 a3 H32
          obtain ⟨a0, a1, a2, a3⟩ := HA0.out.up HB.out
          obtain ⟨x0, -, x1, f0, f1⟩ := HX0.out.cells
          go_upto_region 18 with fail
          generalize hW3 : World.setCell _ _ _ = W3
          replace HX0 : Hid (Bx2 W3 H (.int .i64 n0) (.int .i64 ((n1 : Int) + 1))) := by show Bx2 _ _ _ _; rw [← hW3]; exact HX0.out.set1 _
          replace HX1 : Hid (Bx2 W3 (H + 1) (.int .i64 b0) (.int .i64 b1)) := by show Bx2 _ _ _ _; rw [← hW3]; exact HX1.out.other (by omega) _
          replace HO : Hid (OwnS (H + 2) W3 u1 (aloneL (l.take (k + 1)) 0)) := by show World.ownsRow _ _ _ _ _ _ _; rw [← hW3]; exact row_set HO.out (by omega) _
          replace HB : Hid (Below w.heap.size w W3) := by show Below _ _ _; rw [← hW3]; exact HB.out.setCell (p := ⟨H, 1, none⟩) HH.out _
          clear hW3 a0 a1 a2 a3 x0 x1 f0 f1
          obtain ⟨a0, a1, a2, a3⟩ := HA0.out.up HB.out
          obtain ⟨x0, -, x1, f0, f1⟩ := HX1.out.cells
          have q2 := fun X : BW W3 => upc a2 X.same
          have q3 := fun X : BW W3 => upc a3 X.same
          have qb := fun X : BW W3 => upc x1 X.same
          clear a0 a1 a2 a3 x0 x1 f0 f1
          by_cases hbn : b1 < 0
          ·
            refine wp_region_quietB (by kernel_rfl) (by kernel_rfl) ?_
            repeat (go_big_quiet_step ((go_at_call 33; exact quietB (H33.out _))))
            refine wpQuiet_nil ?_
            rintro wy ⟨⟨wz, hb2⟩, hwz⟩
            change wy = wz at hwz
            subst hwz
            replace HX0 := Lib.hid (HX0.out.up hb2)
            replace HX1 := Lib.hid (HX1.out.up hb2)
            replace HO := Lib.hid (own_row_up HO.out hb2)
            replace HB := Lib.hid (HB.out.trans (hb2.mono HB.out.size))
            clear q2 q3 qb hb2
            obtain ⟨a0, a1, a2, a3⟩ := HA0.out.up HB.out
            have HH1 : Hid (hs (l.take (k + 1)) 1 = hs (l.take k) 1 ++ [sqd s3 s4]) := by show _ = _; rw [HT1.out, if_pos (by unfold hs1; simp [hin])]
            have HH0 : Hid (hs (l.take (k + 1)) 0 = hs (l.take k) 0) := by show _ = _; rw [HT0.out, if_neg (by unfold hs1; simp), List.append_nil]
            have E1 : Hid (((hs (l.take (k + 1)) 1).length : Int) = (n1 : Int) + 1) := by show _ = _; rw [HH1.out, List.length_append, HN1.out]; simp
            have E0 : Hid (((hs (l.take (k + 1)) 0).length : Int) = (n0 : Int)) := by show _ = _; rw [HH0.out, HN0.out]
            have E3 : Hid (mnv (hs (l.take (k + 1)) 1) = p) := by show _ = _; rw [HH1.out, mnv_snoc _ _ (fun _ h => hs_nn h), HM1.out, HP0.out, if_pos (by omega)]
            have E2 : Hid (mnv (hs (l.take (k + 1)) 0) = b0) := by show _ = _; rw [HH0.out, HM0.out]
            clear HT0 HT1 HH0 HH1 HN0 HN1 HM0 HM1
            go_wp2_with (go_at_call 33; refine (H33.out _).mono ?_; rintro e w2 ⟨rfl, hb2⟩; replace HX0 := Lib.hid (HX0.out.up hb2); replace HX1 := Lib.hid (HX1.out.up hb2); replace HO := Lib.hid (own_row_up HO.out hb2); replace HB := Lib.hid (HB.out.trans (hb2.mono HB.out.size)); clear hb2; obtain ⟨x0, -, x1, f0, f1⟩ := HX1.out.cells)
            generalize hW4 : World.setCell w2 _ _ = W4
            replace HX0 : Hid (Bx2 W4 H (.int .i64 n0) (.int .i64 ((n1 : Int) + 1))) := by show Bx2 _ _ _ _; rw [← hW4]; exact HX0.out.other (by omega) _
            replace HX1 : Hid (Bx2 W4 (H + 1) (.int .i64 b0) (.int .i64 p)) := by show Bx2 _ _ _ _; rw [← hW4]; exact HX1.out.set1 _
            replace HO : Hid (OwnS (H + 2) W4 u1 (aloneL (l.take (k + 1)) 0)) := by show World.ownsRow _ _ _ _ _ _ _; rw [← hW4]; exact row_set HO.out (by omega) _
            replace HB : Hid (Below w.heap.size w W4) := by show Below _ _ _; rw [← hW4]; exact HB.out.setCell (p := ⟨H + 1, 1, none⟩) (Nat.le_succ_of_le HH.out) _
            clear hW4 x0 x1 f0 f1
            go_roundw
            case rel =>
              refine ⟨k + 1, by omega, by go_num, ?_, HB.out⟩
              show PtI _ _ _ _ _ _
              refine ⟨?_, ?_, HO.out⟩
              · rw [E0.out, E1.out]; exact HX0.out
              · rw [E2.out, E3.out]; exact HX1.out
            case measure => simp [intOf]; omega

          · by_cases hpb : p < b1
            ·
              refine wp_region_quietB (by kernel_rfl) (by kernel_rfl) ?_
              repeat (go_big_quiet_step ((go_at_call 33; exact quietB (H33.out _))))
              refine wpQuiet_nil ?_
              rintro wy ⟨⟨wz, hb2⟩, hwz⟩
              change wy = wz at hwz
              subst hwz
              replace HX0 := Lib.hid (HX0.out.up hb2)
              replace HX1 := Lib.hid (HX1.out.up hb2)
              replace HO := Lib.hid (own_row_up HO.out hb2)
              replace HB := Lib.hid (HB.out.trans (hb2.mono HB.out.size))
              clear q2 q3 qb hb2
              obtain ⟨a0, a1, a2, a3⟩ := HA0.out.up HB.out
              have HH1 : Hid (hs (l.take (k + 1)) 1 = hs (l.take k) 1 ++ [sqd s3 s4]) := by show _ = _; rw [HT1.out, if_pos (by unfold hs1; simp [hin])]
              have HH0 : Hid (hs (l.take (k + 1)) 0 = hs (l.take k) 0) := by show _ = _; rw [HT0.out, if_neg (by unfold hs1; simp), List.append_nil]
              have E1 : Hid (((hs (l.take (k + 1)) 1).length : Int) = (n1 : Int) + 1) := by show _ = _; rw [HH1.out, List.length_append, HN1.out]; simp
              have E0 : Hid (((hs (l.take (k + 1)) 0).length : Int) = (n0 : Int)) := by show _ = _; rw [HH0.out, HN0.out]
              have E3 : Hid (mnv (hs (l.take (k + 1)) 1) = p) := by show _ = _; rw [HH1.out, mnv_snoc _ _ (fun _ h => hs_nn h), HM1.out, HP0.out, if_pos (by omega)]
              have E2 : Hid (mnv (hs (l.take (k + 1)) 0) = b0) := by show _ = _; rw [HH0.out, HM0.out]
              clear HT0 HT1 HH0 HH1 HN0 HN1 HM0 HM1
              go_wp2_with (go_at_call 33; refine (H33.out _).mono ?_; rintro e w2 ⟨rfl, hb2⟩; replace HX0 := Lib.hid (HX0.out.up hb2); replace HX1 := Lib.hid (HX1.out.up hb2); replace HO := Lib.hid (own_row_up HO.out hb2); replace HB := Lib.hid (HB.out.trans (hb2.mono HB.out.size)); clear hb2; obtain ⟨x0, -, x1, f0, f1⟩ := HX1.out.cells)
              generalize hW4 : World.setCell w2 _ _ = W4
              replace HX0 : Hid (Bx2 W4 H (.int .i64 n0) (.int .i64 ((n1 : Int) + 1))) := by show Bx2 _ _ _ _; rw [← hW4]; exact HX0.out.other (by omega) _
              replace HX1 : Hid (Bx2 W4 (H + 1) (.int .i64 b0) (.int .i64 p)) := by show Bx2 _ _ _ _; rw [← hW4]; exact HX1.out.set1 _
              replace HO : Hid (OwnS (H + 2) W4 u1 (aloneL (l.take (k + 1)) 0)) := by show World.ownsRow _ _ _ _ _ _ _; rw [← hW4]; exact row_set HO.out (by omega) _
              replace HB : Hid (Below w.heap.size w W4) := by show Below _ _ _; rw [← hW4]; exact HB.out.setCell (p := ⟨H + 1, 1, none⟩) (Nat.le_succ_of_le HH.out) _
              clear hW4 x0 x1 f0 f1
              go_roundw
              case rel =>
                refine ⟨k + 1, by omega, by go_num, ?_, HB.out⟩
                show PtI _ _ _ _ _ _
                refine ⟨?_, ?_, HO.out⟩
                · rw [E0.out, E1.out]; exact HX0.out
                · rw [E2.out, E3.out]; exact HX1.out
              case measure => simp [intOf]; omega

            ·
              refine wp_region_quietB (by kernel_rfl) (by kernel_rfl) ?_
              repeat (go_big_quiet_step ((go_at_call 33; exact quietB (H33.out _))))
              refine wpQuiet_nil ?_
              rintro wy ⟨⟨wz, hb2⟩, hwz⟩
              change wy = wz at hwz
              subst hwz
              replace HX0 := Lib.hid (HX0.out.up hb2)
              replace HX1 := Lib.hid (HX1.out.up hb2)
              replace HO := Lib.hid (own_row_up HO.out hb2)
              replace HB := Lib.hid (HB.out.trans (hb2.mono HB.out.size))
              clear q2 q3 qb hb2
              have HH1 : Hid (hs (l.take (k + 1)) 1 = hs (l.take k) 1 ++ [sqd s3 s4]) := by show _ = _; rw [HT1.out, if_pos (by unfold hs1; simp [hin])]
              have HH0 : Hid (hs (l.take (k + 1)) 0 = hs (l.take k) 0) := by show _ = _; rw [HT0.out, if_neg (by unfold hs1; simp), List.append_nil]
              have E1 : Hid (((hs (l.take (k + 1)) 1).length : Int) = (n1 : Int) + 1) := by show _ = _; rw [HH1.out, List.length_append, HN1.out]; simp
              have E0 : Hid (((hs (l.take (k + 1)) 0).length : Int) = (n0 : Int)) := by show _ = _; rw [HH0.out, HN0.out]
              have E3 : Hid (mnv (hs (l.take (k + 1)) 1) = b1) := by show _ = _; rw [HH1.out, mnv_snoc _ _ (fun _ h => hs_nn h), HM1.out, HP0.out, if_neg (by omega)]
              have E2 : Hid (mnv (hs (l.take (k + 1)) 0) = b0) := by show _ = _; rw [HH0.out, HM0.out]
              clear HT0 HT1 HH0 HH1 HN0 HN1 HM0 HM1
              go_wp2_with fail
              go_roundw
              case rel =>
                refine ⟨k + 1, by omega, by go_num, ?_, HB.out⟩
                show PtI _ _ _ _ _ _
                refine ⟨?_, ?_, HO.out⟩
                · rw [E0.out, E1.out]; exact HX0.out
                · rw [E2.out, E3.out]; exact HX1.out
              case measure => simp [intOf]; omega

        · rw [decide_eq_false hin] at H32
          have HH1 : Hid (hs (l.take (k + 1)) 1 = hs (l.take k) 1 ++ []) := by show _ = _; rw [HT1.out, if_neg (by unfold hs1; simp [hin])]
          have HH0 : Hid (hs (l.take (k + 1)) 0 = hs (l.take k) 0) := by show _ = _; rw [HT0.out, if_neg (by unfold hs1; simp), List.append_nil]
          have E1 : Hid (((hs (l.take (k + 1)) 1).length : Int) = (n1 : Int)) := by show _ = _; rw [HH1.out, List.length_append, HN1.out]; simp
          have E0 : Hid (((hs (l.take (k + 1)) 0).length : Int) = (n0 : Int)) := by show _ = _; rw [HH0.out, HN0.out]
          have E3 : Hid (mnv (hs (l.take (k + 1)) 1) = b1) := by show _ = _; rw [HH1.out, List.append_nil, HM1.out]
          have E2 : Hid (mnv (hs (l.take (k + 1)) 0) = b0) := by show _ = _; rw [HH0.out, HM0.out]

          clear HT0 HT1 HH0 HH1 HN0 HN1 HM0 HM1
          go_wp2_with (go_at_call 32; refine (H32.out _).mono ?_; rintro e w2 ⟨rfl, hb2⟩; replace HX0 := Lib.hid (HX0.out.up hb2); replace HX1 := Lib.hid (HX1.out.up hb2); replace HO := Lib.hid (own_row_up HO.out hb2); replace HB := Lib.hid (HB.out.trans (hb2.mono HB.out.size)); clear hb2)
          go_roundw
          case rel =>
            refine ⟨k + 1, by omega, by go_num, ?_, HB.out⟩
            show PtI _ _ _ _ _ _
            refine ⟨?_, ?_, HO.out⟩
            · rw [E0.out, E1.out]; exact HX0.out
            · rw [E2.out, E3.out]; exact HX1.out
          case measure => simp [intOf]; omega

    · obtain rfl : k = l.length := by omega
      rw [List.take_length] at HX0 HX1 HO
      have hchA : chkB (aloneL l 0) = true := chk_sub HCK.out List.filter_sublist
      have HRA := Lib.hid (RowS.of_own HO.out (by have := alone_len l 0; omega))
      obtain ⟨AU, cu, hu⟩ := pt_shape HO.out
      subst hu
      obtain ⟨nA, hnA⟩ : ∃ n, (aloneL l 0).length = n := ⟨_, rfl⟩
      obtain ⟨n0, hn0⟩ : ∃ n, (hs l 0).length = n := ⟨_, rfl⟩
      obtain ⟨n1, hn1⟩ : ∃ n, (hs l 1).length = n := ⟨_, rfl⟩
      obtain ⟨b0, hb0⟩ : ∃ n, mnv (hs l 0) = n := ⟨_, rfl⟩
      obtain ⟨b1, hb1⟩ : ∃ n, mnv (hs l 1) = n := ⟨_, rfl⟩
      have hl0 := hs_len l 0
      have hl1 := hs_len l 1
      rw [hn0] at hl0
      rw [hn1] at hl1
      have hn016 : n0 ≤ 16 := by omega
      have hn116 : n1 ≤ 16 := by omega
      have HM0 := Lib.hid hb0
      have HM1 := Lib.hid hb1
      rw [hn0, hn1] at HX0
      rw [hb0, hb1] at HX1
      rw [hnA] at HRA ⊢
      have hcnt := fun W (hW : Below wr.heap.size wr W) => count_ref (aloneL l 0) _ W (HRA.out.up hW) hchA
      have hra := ref_alone l (t := 0) (by decide)
      rw [hn0] at hra
      have hpn : ¬ ((n0 : Int) < P) := by have h1 := HP.out.2.2; rw [hn0] at h1; omega
      have hn1p : 1 ≤ n0 := by have h1 := HP.out; rw [hn0] at h1; omega
      have hra' : refT (aloneL l 0) = (0, (n0 : Int)) := by
        rcases hra with ⟨h, -⟩ | ⟨-, h⟩
        · omega
        · exact h
      rw [hra'] at hcnt
      have H30A : Hid (∀ W, Below wr.heap.size wr W → Calls Tryz.prog 30 #[.slice AU nA cu] W (Back (.tuple #[.int .i64 0, .int .i64 (n0 : Int), .int .i64 0]) W)) := hcnt
      have hp8 : ¬ (8 : Int) < P := by omega
      clear hra hra' hcnt hchA hnA hn0 hn1 hb0 hb1 hl0 hl1 hP1 hP8
      go_upto_region 23 with (go_at_call 30; (with_reducible refine (H30A.out _ (Below.refl _ _)).mono ?_); rintro e w2 ⟨rfl, hb2⟩; replace HX0 := Lib.hid (HX0.out.up hb2); replace HX1 := Lib.hid (HX1.out.up hb2); replace HB := Lib.hid (HB.out.trans (hb2.mono HB.out.size)); clear hb2; obtain ⟨x0, -, x1, f0, f1⟩ := HX0.out.cells)
      clear x0 x1 f0 f1 H30A HRA HO
      by_cases hl0 : l.length = 0
      · have hl0' : ((l.length : Int) == 0) = true := by rw [beq_iff_eq]; omega
        clear hl0
        go_wp2_with (go_at_call 12; (with_reducible refine (H12.out _ HB.out).mono ?_); rintro e w1 ⟨rfl, hb2⟩; replace HB := Lib.hid (HB.out.trans (hb2.mono HB.out.size)); clear hb2)
        go_ret
        exact ⟨rfl, HB.out⟩
      · have hl0' : ((l.length : Int) == 0) = false := by rw [beq_eq_false_iff_ne]; omega
        have hlp : (0 : Int) < (l.length : Int) := by omega
        obtain ⟨kk, hkk⟩ : ∃ kk : Nat, i % (l.length : Int) = (kk : Int) := Int.eq_ofNat_of_zero_le (Int.emod_nonneg _ (by omega))
        have hkl' : (kk : Int) < (l.length : Int) := by rw [← hkk]; exact Int.emod_lt_of_pos _ hlp
        have hkl : kk < l.length := by omega
        have htm : i.tmod (l.length : Int) = (kk : Int) := by rw [Int.tmod_eq_emod_of_nonneg hi0]; exact hkk
        have hce : chkB (l.eraseIdx kk) = true := chk_sub HCK.out (List.eraseIdx_sublist _ _)
        have HCE := Lib.hid hce
        obtain ⟨⟨nw, lf⟩, hre⟩ : ∃ q, refT (l.eraseIdx kk) = q := ⟨_, rfl⟩
        have HRE := Lib.hid hre
        have H34 : Hid (∀ W, Below w.heap.size w W → Calls Tryz.prog 34 #[.slice A l.length cap, .int .i64 kk] W fun e w' => (∃ A2 n2 c2, e = .returned (.slice A2 n2 c2) ∧ RowS w' (.slice A2 n2 c2) (l.eraseIdx kk)) ∧ Below W.heap.size W w') := fun W hW => by
          refine (without_any l A cap kk W (HR.out.up hW) hkl h16).mono ?_
          rintro e w' ⟨⟨u, rfl, ho⟩, hb⟩
          rw [← List.eraseIdx_eq_take_drop_succ] at ho
          have hrr := RowS.of_own ho (by have := (List.eraseIdx_sublist l kk).length_le; omega)
          obtain ⟨A1, c1, rfl, -⟩ := id hrr
          exact ⟨⟨_, _, _, rfl, hrr⟩, hb⟩
        have hst := HF.out.2 kk hkl
        obtain ⟨b, o, hAe, hc⟩ := HC.out (by intro h; subst h; simp at hkl)
        have hA := hc kk hkl
        have hown := fun hw ht hn => ref_own (l := l) (k := kk) hkl (T := 0) (by decide) hw ht hn
        have hoth := fun hw hn => ref_other (l := l) (k := kk) hkl (T := 0) (by decide) hw hn
        obtain ⟨s, hs'⟩ : ∃ s, l[kk]'hkl = s := ⟨_, rfl⟩
        rw [hs'] at hA hst hown hoth
        rw [hre] at hown hoth
        have HOWN := Lib.hid hown
        have HOTH := Lib.hid hoth
        have HA0 := Lib.hid hA
        have H32 : Hid (∀ w, Calls Tryz.prog 32 #[.agg #[.int .i64 s.x, .int .i64 s.y]] w (Back (.bool (decide (InH s.x s.y))) w)) := fun w => refInHouse s.x s.y w hst.2.1
        obtain ⟨p, hp⟩ : ∃ p, sqd s.x s.y = p := ⟨_, rfl⟩
        have H33 : Hid (∀ w, Calls Tryz.prog 33 #[.agg #[.int .i64 s.x, .int .i64 s.y]] w (Back (.int .i64 p) w)) := fun w => by rw [← hp]; exact refSquare s.x s.y w (sqd_bound hst.2.2)
        have HP0 := Lib.hid hp
        have hts : s.t = 0 ∨ s.t = 1 := by have := hst.1.1; omega
        subst hAe
        clear hl0 hs' hA hst hp hc hown hoth hre hce HC
        obtain ⟨s1, s2, s3, s4⟩ := s
        simp only at hts
        go_upto_region 29 with (first
          | (go_at_call 34; (with_reducible refine (H34.out _ HB.out).mono ?_); rintro e w2 ⟨⟨A2, n2, c2, rfl, hrr⟩, hb2⟩; replace HX0 := Lib.hid (HX0.out.up hb2); replace HX1 := Lib.hid (HX1.out.up hb2); replace HB := Lib.hid (HB.out.trans (hb2.mono HB.out.size)); clear hb2; have H30E : Hid (Calls Tryz.prog 30 #[.slice A2 n2 c2] w2 (Back (.tuple #[.int .i64 nw, .int .i64 lf, .int .i64 0]) w2)) := (by have := count_ref (l.eraseIdx kk) _ w2 hrr HCE.out; rw [HRE.out] at this; exact this); clear hrr)
          | (go_at_call 30; (with_reducible refine (H30E.out).mono ?_); rintro e w3 ⟨rfl, hb2⟩; replace HX0 := Lib.hid (HX0.out.up hb2); replace HX1 := Lib.hid (HX1.out.up hb2); replace HB := Lib.hid (HB.out.trans (hb2.mono HB.out.size)); clear hb2 H30E))
        have e1t : (1 : Int) - 0 = 1 := by decide
        have HKEY : Hid ((b1 < 0 ∨ p < b1) ↔ ∀ y ∈ hs l (1 - 0), p < y) := by
          show _ ↔ _
          rw [e1t, ← HM1.out]; exact mnv_lt _ (fun _ h => hs_nn h) p
        have HWW : Hid (Win (hs l 0) (hs l (1 - 0))) := by show Win _ _; rw [e1t]; exact HW.out
        have HPE : Hid (P = ((pts (hs l 0) (hs l (1 - 0)) : Nat) : Int)) := by
          show _ = _
          have h := ref_win (l := l) (T := 0) (by decide) HWW.out
          rw [HRT.out] at h
          injection h
        clear e1t
        rcases hts with rfl | rfl
        ·
          by_cases hin : InH s3 s4
          · rw [decide_eq_true hin] at H32
            by_cases hbn : b1 < 0
            ·
              clear HKEY HWW HPE
              obtain ⟨a0, a1, a2, a3⟩ := HA0.out.up HB.out
              simp only at a0 a1 a2 a3
              obtain ⟨x0, -, x1, f0, f1⟩ := HX1.out.cells
              have q0 := fun X : BW w3 => upc a0 X.same
              have q2 := fun X : BW w3 => upc a2 X.same
              have q3 := fun X : BW w3 => upc a3 X.same
              have qx0 := fun X : BW w3 => upc x0 X.same
              have qx1 := fun X : BW w3 => upc x1 X.same
              clear a0 a1 a2 a3 x0 x1 f0 f1 H34 HOWN HOTH HP0 HM0 HM1 HRE HCE
              refine wp_region_quietB (by kernel_rfl) (by kernel_rfl) ?_
              repeat (go_big_quiet_step (first | (go_at_call 32; exact quietB (H32.out _)) | (go_at_call 33; exact quietB (H33.out _))))
              refine wpQuiet_nil ?_
              rintro wy ⟨⟨wz, hb2⟩, hwz⟩
              change wy = wz at hwz
              subst hwz
              replace HB := Lib.hid (HB.out.trans (hb2.mono HB.out.size))
              clear q0 q2 q3 qx0 qx1 hb2
              obtain ⟨a0, a1, a2, a3⟩ := HA0.out.up HB.out
              go_wp2_with (go_at_call 12; (with_reducible refine (H12.out _ HB.out).mono ?_); rintro e w1 ⟨rfl, hb2⟩; replace HB := Lib.hid (HB.out.trans (hb2.mono HB.out.size)); clear hb2)
              go_ret
              exact ⟨rfl, HB.out⟩
            · by_cases hpb : p < b1
              ·
                clear HKEY HWW HPE
                obtain ⟨a0, a1, a2, a3⟩ := HA0.out.up HB.out
                simp only at a0 a1 a2 a3
                obtain ⟨x0, -, x1, f0, f1⟩ := HX1.out.cells
                have q0 := fun X : BW w3 => upc a0 X.same
                have q2 := fun X : BW w3 => upc a2 X.same
                have q3 := fun X : BW w3 => upc a3 X.same
                have qx0 := fun X : BW w3 => upc x0 X.same
                have qx1 := fun X : BW w3 => upc x1 X.same
                clear a0 a1 a2 a3 x0 x1 f0 f1 H34 HOWN HOTH HP0 HM0 HM1 HRE HCE
                refine wp_region_quietB (by kernel_rfl) (by kernel_rfl) ?_
                repeat (go_big_quiet_step (first | (go_at_call 32; exact quietB (H32.out _)) | (go_at_call 33; exact quietB (H33.out _))))
                refine wpQuiet_nil ?_
                rintro wy ⟨⟨wz, hb2⟩, hwz⟩
                change wy = wz at hwz
                subst hwz
                replace HB := Lib.hid (HB.out.trans (hb2.mono HB.out.size))
                clear q0 q2 q3 qx0 qx1 hb2
                obtain ⟨a0, a1, a2, a3⟩ := HA0.out.up HB.out
                go_wp2_with (go_at_call 12; (with_reducible refine (H12.out _ HB.out).mono ?_); rintro e w1 ⟨rfl, hb2⟩; replace HB := Lib.hid (HB.out.trans (hb2.mono HB.out.size)); clear hb2)
                go_ret
                exact ⟨rfl, HB.out⟩
              · have HNO : ¬ (InH s3 s4 ∧ ∀ y ∈ hs l (1 - 0), sqd s3 s4 < y) := fun h => by
                  rw [HP0.out] at h
                  have := HKEY.out.2 h.2
                  omega
                have hq := HOWN.out HWW.out rfl (fun h => HNO h)
                rw [← HPE.out] at hq
                injection hq with hq1 hq2
                subst hq1 hq2

                clear HNO
                clear HKEY HWW HPE
                obtain ⟨a0, a1, a2, a3⟩ := HA0.out.up HB.out
                simp only at a0 a1 a2 a3
                obtain ⟨x0, -, x1, f0, f1⟩ := HX1.out.cells
                have q0 := fun X : BW w3 => upc a0 X.same
                have q2 := fun X : BW w3 => upc a2 X.same
                have q3 := fun X : BW w3 => upc a3 X.same
                have qx0 := fun X : BW w3 => upc x0 X.same
                have qx1 := fun X : BW w3 => upc x1 X.same
                clear a0 a1 a2 a3 x0 x1 f0 f1 H34 HOWN HOTH HP0 HM0 HM1 HRE HCE
                refine wp_region_quietB (by kernel_rfl) (by kernel_rfl) ?_
                repeat (go_big_quiet_step (first | (go_at_call 32; exact quietB (H32.out _)) | (go_at_call 33; exact quietB (H33.out _))))
                refine wpQuiet_nil ?_
                rintro wy ⟨⟨wz, hb2⟩, hwz⟩
                change wy = wz at hwz
                subst hwz
                replace HB := Lib.hid (HB.out.trans (hb2.mono HB.out.size))
                clear q0 q2 q3 qx0 qx1 hb2
                obtain ⟨a0, a1, a2, a3⟩ := HA0.out.up HB.out
                go_wp2_with (go_at_call 12; (with_reducible refine (H12.out _ HB.out).mono ?_); rintro e w1 ⟨rfl, hb2⟩; replace HB := Lib.hid (HB.out.trans (hb2.mono HB.out.size)); clear hb2)
                go_ret
                exact ⟨rfl, HB.out⟩
          · rw [decide_eq_false hin] at H32
            have HNO : ¬ (InH s3 s4 ∧ ∀ y ∈ hs l (1 - 0), sqd s3 s4 < y) := fun h => hin h.1
            have hq := HOWN.out HWW.out rfl (fun h => HNO h)
            rw [← HPE.out] at hq
            injection hq with hq1 hq2
            subst hq1 hq2

            clear HNO
            clear HKEY HWW HPE
            obtain ⟨a0, a1, a2, a3⟩ := HA0.out.up HB.out
            simp only at a0 a1 a2 a3
            obtain ⟨x0, -, x1, f0, f1⟩ := HX1.out.cells
            have q0 := fun X : BW w3 => upc a0 X.same
            have q2 := fun X : BW w3 => upc a2 X.same
            have q3 := fun X : BW w3 => upc a3 X.same
            have qx0 := fun X : BW w3 => upc x0 X.same
            have qx1 := fun X : BW w3 => upc x1 X.same
            clear a0 a1 a2 a3 x0 x1 f0 f1 H34 HOWN HOTH HP0 HM0 HM1 HRE HCE
            refine wp_region_quietB (by kernel_rfl) (by kernel_rfl) ?_
            repeat (go_big_quiet_step (first | (go_at_call 32; exact quietB (H32.out _)) | (go_at_call 33; exact quietB (H33.out _))))
            refine wpQuiet_nil ?_
            rintro wy ⟨⟨wz, hb2⟩, hwz⟩
            change wy = wz at hwz
            subst hwz
            replace HB := Lib.hid (HB.out.trans (hb2.mono HB.out.size))
            clear q0 q2 q3 qx0 qx1 hb2
            obtain ⟨a0, a1, a2, a3⟩ := HA0.out.up HB.out
            go_wp2_with (go_at_call 12; (with_reducible refine (H12.out _ HB.out).mono ?_); rintro e w1 ⟨rfl, hb2⟩; replace HB := Lib.hid (HB.out.trans (hb2.mono HB.out.size)); clear hb2)
            go_ret
            exact ⟨rfl, HB.out⟩
        ·
          have hq := HOTH.out HWW.out (by decide)
          obtain ⟨hq1, hq2⟩ := hq
          rw [← HPE.out] at hq2
          replace hq1 : nw = 0 := hq1
          replace hq2 : P ≤ lf := hq2
          subst hq1
          have hq3 : ¬ lf < P := by omega
          clear hq2 HKEY HWW HPE
          obtain ⟨a0, a1, a2, a3⟩ := HA0.out.up HB.out
          simp only at a0 a1 a2 a3
          obtain ⟨x0, -, x1, f0, f1⟩ := HX1.out.cells
          have q0 := fun X : BW w3 => upc a0 X.same
          have q2 := fun X : BW w3 => upc a2 X.same
          have q3 := fun X : BW w3 => upc a3 X.same
          have qx0 := fun X : BW w3 => upc x0 X.same
          have qx1 := fun X : BW w3 => upc x1 X.same
          clear a0 a1 a2 a3 x0 x1 f0 f1 H34 HOWN HOTH HP0 HM0 HM1 HRE HCE
          refine wp_region_quietB (by kernel_rfl) (by kernel_rfl) ?_
          repeat (go_big_quiet_step (first | (go_at_call 32; exact quietB (H32.out _)) | (go_at_call 33; exact quietB (H33.out _))))
          refine wpQuiet_nil ?_
          rintro wy ⟨⟨wz, hb2⟩, hwz⟩
          change wy = wz at hwz
          subst hwz
          replace HB := Lib.hid (HB.out.trans (hb2.mono HB.out.size))
          clear q0 q2 q3 qx0 qx1 hb2
          obtain ⟨a0, a1, a2, a3⟩ := HA0.out.up HB.out
          go_wp2_with (go_at_call 12; (with_reducible refine (H12.out _ HB.out).mono ?_); rintro e w1 ⟨rfl, hb2⟩; replace HB := Lib.hid (HB.out.trans (hb2.mono HB.out.size)); clear hb2)
          go_ret
          exact ⟨rfl, HB.out⟩
end Go.Proofs.YtmhlialdbggmdaaGreatDoor
