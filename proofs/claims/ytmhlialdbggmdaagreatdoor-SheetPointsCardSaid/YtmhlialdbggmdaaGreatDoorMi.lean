/- Contracts: slices.Clone over stones, Mirror, the document's Mirror. -/
import Derived.Test.YtmhlialdbggmdaaGreatDoorIs
import Derived.WalkSpells
namespace Go.Proofs.YtmhlialdbggmdaaGreatDoor
open Go.RowKit Go.Proofs Go.Shelf

theorem stC_len (l : List St) : (l.flatMap stC).length = l.length * 4 := by
  induction l with
  | nil => rfl
  | cons a l ih => rw [List.flatMap_cons, List.length_append, ih]; simp [stC]; omega
theorem RowS.news {W : World} {b o cap : Nat} {l : List St} (h : RowS W (.slice (some ⟨b, o, none⟩) l.length cap) l) : ∀ j u, (l.flatMap stC)[j]? = some u → W.cell? ((⟨b, o, none⟩ : Addr).add j) = some u := by
  intro j u hu
  have hlen := stC_len l
  have hj := (List.getElem?_eq_some_iff.1 hu).1
  obtain ⟨A, cap', he, h1, h2, h3⟩ := h
  injection he with e1 _ e2
  subst e1
  obtain ⟨b', o', hA, hc⟩ := h3 (by intro e; subst e; simp at hj)
  injection hA with hA
  injection hA with hb ho _
  subst hb ho
  have hq : j / 4 < l.length := by omega
  have hm : j % 4 < 4 := Nat.mod_lt _ (by omega)
  have hjj : j / 4 * 4 + j % 4 = j := by omega
  have hg := stC_get hq (j % 4) hm
  rw [hjj, hu] at hg
  obtain ⟨c0, c1, c2, c3⟩ := hc (j / 4) hq
  rw [Addr.add_mid]
  have e : o + j = o + j / 4 * 4 + j % 4 := by omega
  rw [e]
  obtain ⟨r, hr⟩ : ∃ r, j % 4 = r := ⟨_, rfl⟩
  rw [hr] at hg hm ⊢
  rcases r with _ | _ | _ | _ | r
  · rw [Nat.add_zero, c0, hg]; rfl
  · rw [Nat.zero_add, c1, hg]; rfl
  · rw [show (0 + 1 + 1) = 2 from rfl, c2, hg]; rfl
  · rw [show (0 + 1 + 1 + 1) = 3 from rfl, c3, hg]; rfl
  · omega
theorem stC_one {l : List St} {u : Value} (h : u ∈ l.flatMap stC) : u.oneCell' = true := by
  obtain ⟨s, -, hs⟩ := List.mem_flatMap.1 h
  simp [stC] at hs
  rcases hs with rfl | rfl | rfl | rfl <;> rfl

set_option maxRecDepth 100000 in
set_option maxHeartbeats 1000000 in
theorem Clone_any (l : List St) (v : Value) (w : World) (hrow : RowS w v l) (hl : l.length ≤ 1000) :
    Calls Tryz.prog 69 #[v] w fun e w' => ∃ u, e = .returned u ∧ OwnS w.heap.size w' u l ∧ Below w.heap.size w w' := by
  obtain ⟨i0, hi, hz0, hz1, hz2⟩ := info_parts Tryz.info53
  have HR := Lib.hid hrow
  obtain ⟨A, cap, rfl⟩ := hrow.form
  clear hrow
  cases A with
  | none =>
    have hl0 : l = [] := by
      obtain ⟨A, cap', he, h1, h2, h3⟩ := HR.out
      injection he with e1 _ _
      subst e1
      cases l with
      | nil => rfl
      | cons a l => obtain ⟨b, o, h, -⟩ := h3 (by simp); cases h
    subst hl0
    have hnil := fun w => Lib.run_eql_slice_nil (P := Tryz.prog) w 30 53 none 0 cap 0 0 Tryz.underlying30
    go_enter Tryz.func69, Tryz.ntmps69
    go_wp2_with fail
    go_ret
    exact ⟨_, rfl, World.ownsRow_nil _ _ _ _, Below.refl _ _⟩
  | some a =>
    have hnil := fun w => Lib.run_eql_slice_nil (P := Tryz.prog) w 30 53 (some a) l.length cap 0 0 Tryz.underlying30
    go_enter Tryz.func69, Tryz.ntmps69
    go_upto_region 3 with fail
    clear hnil
    have hOw : (w.alloc (.cells #[] 53)).ownsRow w.heap.size 53 4 (.slice (some ⟨w.heap.size, 0, none⟩) 0 0) 0 [] := World.ownsRow_lit w #[] 0 (Nat.le_refl _) (Nat.zero_le _) rfl
    have hnews : ∀ j u, (l.flatMap stC)[j]? = some u → (w.alloc (.cells #[] 53)).cell? (a.add j) = some u := by
      intro j u hu
      have hR := HR.out.up ((Below.refl w.heap.size w).alloc (Nat.le_refl _) (.cells #[] 53))
      have hne : l ≠ [] := by intro e; subst e; simp at hu
      obtain ⟨A, cap', he, h1, h2, h3⟩ := HR.out
      injection he with e1 _ e3
      obtain ⟨b, o, hA, -⟩ := h3 hne
      rw [← e1] at hA
      injection hA with hA
      subst hA
      exact hR.news j u hu
    have hnl : (l.flatMap stC).length = l.length * 4 := stC_len l
    have hone : ∀ u ∈ l.flatMap stC, u.oneCell' = true := fun u h => stC_one h
    have HOw := Lib.hid hOw
    have HNW := Lib.hid hnews
    have HNL := Lib.hid hnl
    have HON := Lib.hid hone
    clear hOw hnews hnl hone
    go_wp2_with (at_builtin; refine wpList_append_own _ rfl _ _ 30 rfl w.heap.size 53 i0 _ 4 32 Tryz.underlying30 hi hz0 hz1 hz2 rfl (by decide) _ _ _ rfl HOw.out a l.length cap (l.flatMap stC) rfl HNL.out HNW.out HON.out (by unfold maxLen; omega) (by omega) (by simp) ?_; intro v' w1 hown hgrow hnn)
    refine bodyPost_ret (results_tmp rfl _ _ _) rfl ⟨v', rfl, ?_, ?_⟩
    · have h2 := hown
      rw [Nat.zero_add, List.nil_append] at h2
      exact h2
    · refine ((Below.refl w.heap.size w).alloc (Nat.le_refl _) _).grown hgrow (by simp) (fun k e => ?_)
      have e' : some w.heap.size = some k := e
      injection e' with e'
      omega

/-- A stone with left and right exchanged. -/
def mirS (s : St) : St := ⟨s.t, s.n, -s.x, s.y⟩
def mirK (l : List St) (k : Nat) : List St := (l.take k).map mirS ++ l.drop k
theorem mirK_len (l : List St) (k : Nat) : (mirK l k).length = l.length := by unfold mirK; simp; omega
theorem mirK_at {l : List St} {k : Nat} (h : k < l.length) : (mirK l k)[k]? = some (l[k]'h) := by
  unfold mirK
  rw [List.getElem?_append_right (by simp; omega)]
  simp only [List.length_map, List.length_take, Nat.min_eq_left (Nat.le_of_lt h), Nat.sub_self]
  rw [List.getElem?_drop, Nat.add_zero, List.getElem?_eq_getElem h]
theorem mirK_succ {l : List St} {k : Nat} (h : k < l.length) : mirK l (k + 1) = (mirK l k).set k (mirS (l[k]'h)) := by
  unfold mirK
  rw [List.take_succ_eq_append_getElem h, List.map_append, List.set_append_right _ _ (by simp; omega)]
  simp only [List.length_map, List.length_take, Nat.min_eq_left (Nat.le_of_lt h), Nat.sub_self]
  rw [List.drop_eq_getElem_cons h, List.set_cons_zero]
  simp
theorem stC_set : ∀ (L : List St) (k : Nat) (h : k < L.length) (y : Int), (L.flatMap stC).set (k * 4 + 2) (.int .i64 y) = (L.set k ⟨(L[k]'h).t, (L[k]'h).n, y, (L[k]'h).y⟩).flatMap stC
  | [], _, h, _ => by simp at h
  | a :: L, 0, _, y => by simp [stC]
  | a :: L, k + 1, h, y => by
    have ih := stC_set L k (by simpa using h) y
    rw [List.flatMap_cons, List.set_append_right _ _ (by simp [stC]; omega), List.set_cons_succ, List.flatMap_cons]
    have e : (k + 1) * 4 + 2 - (stC a).length = k * 4 + 2 := by simp [stC]; omega
    rw [e, ih]; rfl

set_option maxRecDepth 100000 in
set_option maxHeartbeats 4000000 in
theorem Mirror_any (l : List St) (v : Value) (w : World) (hrow : RowS w v l) :
    Calls Tryz.prog 31 #[v] w fun e w' => ((chkB l = false ∧ e = .returned (.tuple #[.slice none 0 0, .int .i64 2])) ∨ (chkB l = true ∧ ∃ u, e = .returned (.tuple #[u, .int .i64 0]) ∧ OwnS w.heap.size w' u (l.map mirS))) ∧ Below w.heap.size w w' := by
  have H1 := Lib.hid (fun w h => Check_any l v w h)
  have HR := Lib.hid hrow
  obtain ⟨A, cap, rfl⟩ := hrow.form
  clear hrow
  cases hc : chkB l
  · rw [hc] at H1
    go_enter Tryz.func31, Tryz.ntmps31
    go_wp2_with (go_at_call 28; refine (H1.out _ HR.out).mono ?_; rintro e w1 ⟨rfl, hb1⟩)
    go_ret2
    exact ⟨.inl ⟨by first | rfl | trivial, rfl⟩, hb1⟩
  · rw [hc] at H1
    have HF := Lib.hid (chk_facts hc)
    have H2 := Lib.hid (fun w h => Clone_any l (.slice A l.length cap) w h (by have := (chk_facts hc).1; omega))
    have h16 := HF.out.1
    clear hc
    go_enter Tryz.func31, Tryz.ntmps31
    go_wp2_with (first
      | (go_at_call 28; refine (H1.out _ HR.out).mono ?_; rintro e w1 ⟨rfl, hb1⟩; have B := Lib.hid hb1; replace HR := Lib.hid (HR.out.up hb1); clear hb1)
      | (go_at_call 69; refine (H2.out _ HR.out).mono ?_; rintro e w2 ⟨u, rfl, ho, hb2⟩; have HO := Lib.hid ho; clear ho; have hbz := B.out.size; replace B := Lib.hid (B.out.trans (hb2.mono B.out.size)); clear hb2; obtain ⟨A2, cap2, hu⟩ : ∃ A cap, u = .slice A l.length cap := (RowS.of_own HO.out (by omega)).form; subst hu))
    have hw2 : w.heap.size ≤ w2.heap.size := B.out.size
    have HO' : Hid (w2.ownsRow w.heap.size 53 4 (.slice A2 l.length cap2) l.length ((mirK l 0).flatMap stC)) := by
      have e : mirK l 0 = l := by unfold mirK; simp
      show World.ownsRow _ _ _ _ _ _ _
      rw [e]
      obtain ⟨q1, q2⟩ := HO.out
      refine ⟨q1, q2.imp_right ?_⟩
      rintro ⟨g, cap, cur, q3, q4, q5, q6⟩
      exact ⟨g, cap, cur, q3, by omega, q5, q6⟩
    clear HO H1 H2
    go_loopw [5, 13] (fun _ iv wr => ∃ k : Nat, k ≤ l.length ∧ iv = .int .i64 k ∧ Hid (wr.ownsRow w.heap.size 53 4 (.slice A2 l.length cap2) l.length ((mirK l k).flatMap stC)) ∧ Hid (Below w.heap.size w wr)) (fun _ iv _ => l.length - (intOf iv).toNat)
    case atStart => exact ⟨0, by omega, rfl, HO', B⟩
    case round =>
      obtain ⟨k, hk, rfl, ho, hb⟩ := hrel
      have HK := Lib.hid ho.out
      have HB := Lib.hid hb.out
      clear ho hb
      by_cases hlt : k < l.length
      · have hlt' : (k : Int) < (l.length : Int) := by omega
        obtain ⟨g, cg, cur, hv, hgb, hgc, -⟩ : ∃ g cap cur, Value.slice A2 l.length cap2 = .slice (some ⟨g, 0, none⟩) l.length cap ∧ w.heap.size ≤ g ∧ wr.heap[g]? = some (.cells cur 53 (0, 0)) ∧ True := by
          rcases HK.out.2 with ⟨-, h0⟩ | ⟨g, cap, cur, q3, q4, q5, -⟩
          · omega
          · exact ⟨g, cap, cur, q3, q4, q5, trivial⟩
        injection hv with hv1 _ hv2
        subst hv1 hv2
        have hst : l[k]? = some (l[k]'hlt) := List.getElem?_eq_getElem hlt
        obtain ⟨s, hs⟩ : ∃ s, l[k]'hlt = s := ⟨_, rfl⟩
        have hok := HF.out.2 k hlt
        have hsu := mirK_succ hlt
        have hat := mirK_at hlt
        rw [hs] at hok hsu hat
        have hkl : k < (mirK l k).length := by rw [mirK_len]; exact hlt
        have hme : (mirK l k)[k]'hkl = s := by
          rw [List.getElem?_eq_getElem hkl] at hat; exact Option.some.inj hat
        have c2 : wr.cell? ⟨g, k * 4 + 2, none⟩ = some (.int .i64 s.x) := by
          rw [HK.out.cellAt _ (by omega), stC_get hkl 2 (by omega), hme]; rfl
        have f2 : wr.frozen? ⟨g, k * 4 + 2, none⟩ = false := HK.out.frozenAt _
        have hx : -6553600000 ≤ s.x ∧ s.x ≤ 6553600000 := hok.2.1.1
        obtain ⟨hx1, hx2⟩ := hx
        have hneg : IntKind.i64.wrap (-s.x) = -s.x := IntWalk.i64_in _ (by omega)
        have hset := stC_set (mirK l k) k hkl (-s.x)
        rw [hme] at hset
        have hms : (⟨s.t, s.n, -s.x, s.y⟩ : St) = mirS s := rfl
        rw [hms, ← hsu] at hset
        have HST := Lib.hid hset
        obtain ⟨x, hxx⟩ : ∃ x, s.x = x := ⟨_, rfl⟩
        rw [hxx] at c2 hneg hx1 hx2 HST
        clear hst hs hok hsu hat hme hms hset hxx
        go_wp2_with fail
        go_roundw
        case rel =>
          refine ⟨k + 1, by omega, by go_num, ?_, HB.out.setCell (p := ⟨g, k * 4 + 2, none⟩) hgb _⟩
          have := (HK.out.stored (k * 4 + 2) (.int .i64 (-x))).1
          rw [HST.out] at this
          exact this
        case measure => simp [intOf]; omega
      · obtain rfl : k = l.length := by omega
        go_wp2_with fail
        go_ret2
        refine ⟨.inr ⟨by first | rfl | trivial, _, rfl, ?_⟩, HB.out⟩
        have e : mirK l l.length = l.map mirS := by unfold mirK; simp
        have h1 := HK.out
        rw [e] at h1
        have e2 : (l.map mirS).length = l.length := by simp
        show World.ownsRow _ _ _ _ _ _ _
        rw [e2]; exact h1
end Go.Proofs.YtmhlialdbggmdaaGreatDoor
