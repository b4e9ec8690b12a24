/- Contract: the document's Parse. -/
import Derived.Test.YtmhlialdbggmdaaGreatDoorLi
import Derived.Test.YtmhlialdbggmdaaGreatDoorRm
namespace Go.Proofs.YtmhlialdbggmdaaGreatDoor
open Go.RowKit Go.Proofs Go.Shelf

/-- What Parse comes to, the program's and the document's. -/
def PaP (s : ByteArray) (w : World) (e : Ending) (w' : World) : Prop :=
  ((2000 < s.size ∧ e = .returned (.tuple #[.slice none 0 0, .int .i64 0, .int .i64 3])) ∨
    (s.size ≤ 2000 ∧ ((∃ k : Nat, ParC 16 s.data.toList (.bad k) ∧ e = .returned (.tuple #[.slice none 0 0, .int .i64 k, .int .i64 5])) ∨
      ∃ L, ParC 16 s.data.toList (.ok L) ∧ ((chkB L = false ∧ e = .returned (.tuple #[.slice none 0 0, .int .i64 s.size, .int .i64 2])) ∨ (chkB L = true ∧ ∃ v, e = .returned (.tuple #[v, .int .i64 0, .int .i64 0]) ∧ OwnS w.heap.size w' v L))))) ∧ Below w.heap.size w w'
/-- What stands between two rounds: so many bytes are so many stones. -/
def PrI (s : ByteArray) (k n : Nat) (L : List St) : Prop :=
  L.length = n ∧ (printL L).length = k ∧ s.data.toList = printL L ++ s.data.toList.drop k ∧ (∀ t ∈ L, okT t) ∧ n ≤ 16
theorem print_add (L : List St) (t : St) : printL (L ++ [t]) = printL L ++ (lineB t ++ [10]) := by
  unfold printL; rw [List.flatMap_append, List.flatMap_cons, List.flatMap_nil, lineL_eq]; simp

theorem PrI.step {s : ByteArray} {k n : Nat} {L : List St} {own r2 : List UInt8} {t : St} (h : PrI s k n L) (hs : s.data.toList = printL L ++ (own ++ 10 :: r2)) (hl : lineOk own t) (hn : n ≠ 16) : PrI s (k + own.length + 1) (n + 1) (L ++ [t]) := by
  obtain ⟨h1, h2, h3, h4, h5⟩ := h
  obtain ⟨ho, rfl⟩ := hl
  have e : (printL (L ++ [t])).length = k + (lineB t).length + 1 := by rw [print_add]; simp; omega
  have e2 : s.data.toList = printL (L ++ [t]) ++ r2 := by rw [hs, print_add]; simp
  refine ⟨by simp [h1], e, ?_, ?_, by omega⟩
  · conv => rhs; rw [e2, ← e]
    rw [List.drop_left]; exact e2
  · intro x hx
    rcases List.mem_append.1 hx with hx | hx
    · exact h4 x hx
    · rw [List.mem_singleton] at hx; subst hx; exact ho
theorem row_up {b : Nat} {W W' : World} {e : TypeId} {size n : Nat} {v : Value} {xs : List Value} (h : W.ownsRow b e size v n xs) (hb : Below W.heap.size W W') : W'.ownsRow b e size v n xs := by
  obtain ⟨q1, q2⟩ := h
  refine ⟨q1, q2.imp_right ?_⟩
  rintro ⟨g, cap, cur, q3, q4, q5, q6⟩
  exact ⟨g, cap, cur, q3, q4, boxed_cells_up q5 hb, q6⟩
theorem row_shape {b : Nat} {W : World} {e : TypeId} {size n : Nat} {v : Value} {xs : List Value} (h : W.ownsRow b e size v n xs) : ∃ A c, v = .slice A n c := by
  rcases h.2 with ⟨rfl, h0⟩ | ⟨g, cap, cur, rfl, -⟩
  · exact ⟨none, 0, by rw [h0]⟩
  · exact ⟨_, _, rfl⟩

set_option maxRecDepth 100000 in
set_option maxHeartbeats 4000000 in
theorem refParse (s : ByteArray) (hs : s.size ≤ 100000) (w : World) : Calls Tryz.prog 16 #[.string s] w (PaP s w) := by
  obtain ⟨i0, hi, hz0, hz1, hz2⟩ := info_parts Tryz.info53
  by_cases hl : 2000 < s.size
  · have hl' : (2000 : Int) < (s.size : Int) := by omega
    go_enter Tryz.func16, Tryz.ntmps16
    go_wp2_with fail
    exact bodyPost_ret (v := .tuple #[.slice none 0 0, .int .i64 0, .int .i64 3]) (by simp [results, Tryz.results16, go_sem]) rfl ⟨.inl ⟨by omega, rfl⟩, Below.refl _ _⟩
  · have hl' : ¬ (2000 : Int) < (s.size : Int) := by omega
    have hl2 : s.size ≤ 2000 := by omega
    go_enter Tryz.func16, Tryz.ntmps16
    go_wp2_with fail
    clear hl hl'
    have B0 : Hid (Below w.heap.size w w) := Below.refl _ _
    have I0 : Hid (PrI s 0 0 []) := ⟨rfl, rfl, by simp [printL], by simp, by omega⟩
    have O0 : Hid (w.ownsRow w.heap.size 53 4 (.slice none 0 0) 0 (([] : List St).flatMap stC)) := World.ownsRow_nil _ _ _ _
    go_loopw [5, 6] (fun u av wr => ∃ k n L, k ≤ s.size ∧ av = .int .i64 (k : Nat) ∧ Hid (PrI s k n L) ∧ Hid (wr.ownsRow w.heap.size 53 4 u n (L.flatMap stC)) ∧ Hid (Below w.heap.size w wr)) (fun _ av _ => s.size - (intOf av).toNat)
    case atStart => exact ⟨0, 0, [], by omega, rfl, I0, O0, B0⟩
    case round =>
      obtain ⟨k, n, L, hk, rfl, hi', ho, hb⟩ := hrel
      have HI := Lib.hid hi'.out
      have HK := Lib.hid ho.out
      have HB := Lib.hid hb.out
      clear hi' ho hb I0 O0 B0
      by_cases hlt : k < s.size
      · have hlt' : (k : Int) < (s.size : Int) := by omega
        obtain ⟨r, hr⟩ : ∃ r, s.extract k s.size = r := ⟨_, rfl⟩
        have HRL : Hid (r.data.toList = s.data.toList.drop k) := by
          show _ = _
          rw [← hr, Lib.extract_data, List.take_of_length_le (by rw [List.length_drop, ← Lib.size_eq]; omega)]
        have HRS : Hid (r.size = s.size - k) := by show _ = _; rw [Lib.size_eq, HRL.out, List.length_drop, ← Lib.size_eq]
        have HSP : Hid (s.data.toList = printL L ++ r.data.toList) := by show _ = _; rw [HRL.out]; exact HI.out.2.2.1
        have hrs : r.size ≤ 100000 := by rw [HRS.out]; omega
        have HNE : Hid (r.data.toList ≠ []) := fun e => by
          have h1 := HRS.out
          rw [Lib.size_eq, e] at h1
          simp at h1; omega
        have hbd : ∀ (h : L.length = 16 ∨ ∀ t r', okT t → r.data.toList ≠ lineB t ++ 10 :: r'), ParC 16 s.data.toList (.bad k) := fun h =>
          ⟨L, r.data.toList, HSP.out, HI.out.2.2.2.1, by have := HI.out.1; have := HI.out.2.2.2.2; omega, HNE.out, HI.out.2.1.symm, h⟩
        have HBD := Lib.hid hbd
        have hz := HB.out.size
        obtain ⟨A, c, rfl⟩ := row_shape HK.out
        clear hbd
        rcases idx_cases r 10 with ⟨hq, hm⟩ | ⟨j, hj, hq, hrl, ha⟩
        · have H1 : Hid (∀ w, Calls Tryz.prog 52 #[.string r, .int .u8 10] w (Back (.tuple #[.string r, .string ⟨#[]⟩, .bool false]) w)) := fun w => cut_no r 10 hrs hq w
          have H2 : Hid (∀ w, Calls Tryz.prog 53 #[.string r] w (StA r w)) := fun w => refLine r hrs w
          have HBAD : Hid (ParC 16 s.data.toList (.bad k)) := HBD.out (.inr fun t r' _ e => hm (by rw [e]; simp))
          clear hq hm
          go_wp2_with (first
            | (go_at_call 52; (with_reducible refine (H1.out _).mono ?_); rintro e w1 ⟨rfl, HBW⟩; have BB := Lib.hid (HB.out.trans (HBW.mono HB.out.size)); clear HBW)
            | (go_at_call 53; (with_reducible refine (H2.out _).mono ?_); rintro e w2 ⟨⟨t, v, rfl, -, -⟩, HBW⟩; replace BB := Lib.hid (BB.out.trans (HBW.mono BB.out.size)); have BZ := BB.out.size; replace BB := Lib.hid (BB.out.alloc BZ (Sto t)); clear HBW))
          all_goals
            exact bodyPost_ret (v := .tuple #[.slice none 0 0, .int .i64 (k : Nat), .int .i64 5]) (by simp [results, Tryz.results16, go_sem]) rfl ⟨.inr ⟨by omega, .inl ⟨_, HBAD.out, rfl⟩⟩, BB.out⟩
        · have H1 : Hid (∀ w, Calls Tryz.prog 52 #[.string r, .int .u8 10] w (Back (.tuple #[.string (r.extract 0 j), .string (r.extract (j + 1) r.size), .bool true]) w)) := fun w => cut_yes r 10 hrs j hq w
          obtain ⟨own, hown⟩ : ∃ own, r.extract 0 j = own := ⟨_, rfl⟩
          obtain ⟨r2, hr2⟩ : ∃ r2, r.extract (j + 1) r.size = r2 := ⟨_, rfl⟩
          rw [hown] at H1 hrl ha
          rw [hr2] at H1 hrl
          have hzs := congrArg List.length hrl
          simp only [List.length_append, List.length_cons, ← Lib.size_eq] at hzs
          have hoz : own.size + 1 ≤ s.size - k := by have := HRS.out; omega
          have H2 : Hid (∀ w, Calls Tryz.prog 53 #[.string own] w (StA own w)) := fun w => refLine own (by omega) w
          have HRR := Lib.hid hrl
          have HA := Lib.hid ha
          clear hq hown hr2 hj hrl ha hzs
          have hn16 := HI.out.2.2.2.2
          go_upto_region 8 with (first
            | (go_at_call 52; (with_reducible refine (H1.out _).mono ?_); rintro e w1 ⟨rfl, HBW⟩; have BB := Lib.hid (HB.out.trans (HBW.mono HB.out.size)); have OO := Lib.hid (row_up HK.out HBW); clear HBW)
            | (go_at_call 53; (with_reducible refine (H2.out _).mono ?_); rintro e w2 ⟨⟨t, v, rfl, hv1, hv0⟩, HBW⟩; replace BB := Lib.hid (BB.out.trans (HBW.mono BB.out.size)); replace OO := Lib.hid (row_up OO.out HBW); have V1 := Lib.hid hv1; have V0 := Lib.hid hv0; clear HBW hv1 hv0))
          have BZ := BB.out.size
          cases v
          · have HBAD : Hid (ParC 16 s.data.toList (.bad k)) := HBD.out (.inr fun t' r' ht e => by
              rw [HRR.out] at e
              obtain ⟨e1, -⟩ := cut_uniq e HA.out (lineB_no t')
              exact V0.out rfl t' ⟨ht, e1⟩)
            replace BB := Lib.hid (BB.out.alloc BZ (Sto t))
            clear V0 V1 HRR HSP
            go_wp2_with fail
            exact bodyPost_ret (v := .tuple #[.slice none 0 0, .int .i64 (k : Nat), .int .i64 5]) (by simp [results, Tryz.results16, go_sem]) rfl ⟨.inr ⟨by omega, .inl ⟨_, HBAD.out, rfl⟩⟩, BB.out⟩
          · by_cases h16 : n = 16
            · have HBAD : Hid (ParC 16 s.data.toList (.bad k)) := HBD.out (.inl (by have := HI.out.1; omega))
              replace BB := Lib.hid (BB.out.alloc BZ (Sto t))
              subst h16
              clear V0 V1 HRR HSP
              go_wp2_with fail
              exact bodyPost_ret (v := .tuple #[.slice none 0 0, .int .i64 (k : Nat), .int .i64 5]) (by simp [results, Tryz.results16, go_sem]) rfl ⟨.inr ⟨by omega, .inl ⟨_, HBAD.out, rfl⟩⟩, BB.out⟩
            · have h16' : ((n : Int) == 16) = false := by rw [beq_eq_false_iff_ne]; omega
              have LO := Lib.hid (V1.out rfl)
              have HST : Hid (PrI s (k + own.size + 1) (n + 1) (L ++ [t])) := by
                show PrI _ _ _ _
                rw [Lib.size_eq]
                exact HI.out.step (by rw [HSP.out, HRR.out]) LO.out h16
              obtain ⟨s1, s2, s3, s4⟩ := t
              clear V0 V1 HRR HSP HBD HNE HRL HRS h16
              have K2 : Hid (((w2.alloc (.cells #[.int .i64 s1, .int .i64 s2, .int .i64 s3, .int .i64 s4] 53)).alloc (.cells #[.int .i64 s1, .int .i64 s2, .int .i64 s3, .int .i64 s4] 53)).ownsRow w.heap.size 53 4 (.slice A n c) n (L.flatMap stC)) := (OO.out.alloc _).alloc _
              have NW := Lib.hid (news_lit (w2.alloc (.cells #[.int .i64 s1, .int .i64 s2, .int .i64 s3, .int .i64 s4] 53)) ⟨s1, s2, s3, s4⟩)
              have hzz : (w2.alloc (.cells #[.int .i64 s1, .int .i64 s2, .int .i64 s3, .int .i64 s4] 53)).heap.size = w2.heap.size + 1 := by simp
              rw [hzz] at NW
              have B2 : Hid (Below w.heap.size w ((w2.alloc (.cells #[.int .i64 s1, .int .i64 s2, .int .i64 s3, .int .i64 s4] 53)).alloc (.cells #[.int .i64 s1, .int .i64 s2, .int .i64 s3, .int .i64 s4] 53))) := (BB.out.alloc BZ _).alloc (by simp; omega) _
              clear hzz
              go_wp2_with (at_builtin; refine wpList_append_own _ rfl _ _ 30 rfl w.heap.size 53 i0 _ 4 32 Tryz.underlying30 hi hz0 hz1 hz2 rfl (by decide) _ _ _ rfl K2.out ⟨w2.heap.size + 1, 0, none⟩ 1 1 (stC ⟨s1, s2, s3, s4⟩) rfl rfl NW.out (fun u h => stC_one1 h) (by unfold maxLen; omega) (by omega) (by simp; omega) ?_; intro v' w5 hown hgrow hnn; have B5 := Lib.hid (B2.out.grown hgrow (by simp; omega) (fun j hj => (ownBlock_ge K2.out hj).1)); have HO5 := Lib.hid hown; clear hown hgrow hnn)
              go_roundw
              case rel =>
                refine ⟨k + own.size + 1, n + 1, _, by omega, by go_num, HST.out, ?_, B5.out⟩
                have h5 := HO5.out
                show World.ownsRow _ _ _ _ _ _ _
                rw [List.flatMap_append]
                have e1 : ([⟨s1, s2, s3, s4⟩] : List St).flatMap stC = stC ⟨s1, s2, s3, s4⟩ := by simp
                rw [e1]; exact h5
              case measure => simp [intOf]; omega
      · obtain rfl : k = s.size := by omega
        obtain ⟨e1, e2, e3, e4, e5⟩ := HI.out
        subst e1
        have e6 : s.data.toList = printL L := by
          rw [List.drop_of_length_le (by rw [← Lib.size_eq]; omega), List.append_nil] at e3; exact e3
        have HP : Hid (ParC 16 s.data.toList (.ok L)) := ⟨e6, e4, e5⟩
        obtain ⟨A, c, rfl⟩ := row_shape HK.out
        have H29 : Hid (∀ W, Below wr.heap.size wr W → Calls Tryz.prog 29 #[.slice A L.length c] W (Back (.bool (chkB L)) W)) := fun W hW => refCheck L _ W ((RowS.of_own HK.out (by omega)).up hW)
        clear e2 e3 e4 e5 e6 HI
        cases hc : chkB L
        · rw [hc] at H29
          have HC := Lib.hid hc
          clear hc
          go_wp2_with (go_at_call 29; (with_reducible refine (H29.out _ (Below.refl _ _)).mono ?_); rintro e w1 ⟨rfl, HBW⟩; have BB := Lib.hid (HB.out.trans (HBW.mono HB.out.size)); clear HBW)
          exact bodyPost_ret (v := .tuple #[.slice none 0 0, .int .i64 (s.size : Nat), .int .i64 2]) (by simp [results, Tryz.results16, go_sem]) rfl ⟨.inr ⟨by omega, .inr ⟨L, HP.out, .inl ⟨HC.out, rfl⟩⟩⟩, BB.out⟩
        · rw [hc] at H29
          have HC := Lib.hid hc
          clear hc
          go_wp2_with (go_at_call 29; (with_reducible refine (H29.out _ (Below.refl _ _)).mono ?_); rintro e w1 ⟨rfl, HBW⟩; have BB := Lib.hid (HB.out.trans (HBW.mono HB.out.size)); have OO := Lib.hid (row_up HK.out HBW); clear HBW)
          exact bodyPost_ret (v := .tuple #[.slice A L.length c, .int .i64 0, .int .i64 0]) (by simp [results, Tryz.results16, go_sem]) rfl ⟨.inr ⟨by omega, .inr ⟨L, HP.out, .inr ⟨HC.out, _, rfl, OO.out⟩⟩⟩, BB.out⟩
end Go.Proofs.YtmhlialdbggmdaaGreatDoor
