/- Contract: nearest. -/
import Derived.Test.YtmhlialdbggmdaaGreatDoorS
import Derived.Lib.VarintMem
namespace Go.Proofs.YtmhlialdbggmdaaGreatDoor
open Go.RowKit Go.Proofs Go.Shelf
attribute [local go_sem] Oper.semAt_some

theorem RowS.form {w : World} {v : Value} {l : List St} (h : RowS w v l) : ∃ A cap, v = .slice A l.length cap := by
  obtain ⟨A, cap, h, -⟩ := h; exact ⟨A, cap, h⟩
theorem housed_any (A : Option Addr) (n cap : Nat) (w : World) :
    Calls Tryz.prog 82 #[.slice A n cap] w fun e w' => e = .returned (.func (.func 98) #[] #[.pointer (some ⟨w.heap.size, 0, none⟩)]) ∧ w' = w.alloc (.cells #[.slice A n cap] 30) := by
  have hmf : ∀ (fn : Fn) (first cap : Array Value) (w : World), (Instr.makeFunc fn first cap).run Tryz.prog w = .ok (.func fn first cap) w := fun _ _ _ _ => rfl
  go_enter Tryz.func82, Tryz.ntmps82
  go_wp2_with fail
  go_ret
  exact ⟨rfl, rfl⟩
theorem Tryz.info3 : (Tryz.prog.info? 3).map (fun i => (i.zero, i.size, i.bytes)) = some (some (.int .i64 0), 1, 8) := by kernel_rfl

/-- The places of the stones in the house. -/
def hIdx (l : List St) : List Nat := (hsK l l.length).map (·.1)
def IsNear (l : List St) (d : List Nat) : Prop := d.Perm (hIdx l) ∧ d.Pairwise (lx (sqAt l))
/-- A slice of numbers of the call's own. -/
def OwnN (base : Nat) (w : World) (v : Value) (d : List Nat) : Prop :=
  ∃ A cap, v = .slice A d.length cap ∧ d.length ≤ cap ∧ cap ≤ maxLen ∧ (A = none → cap = 0) ∧ (d ≠ [] → ∃ g, A = some ⟨g, 0, none⟩ ∧ base ≤ g ∧ RowI w g d)
theorem ownsRow_kc {n0 base : Nat} {e : TypeId} {size n : Nat} {v : Value} {xs : List Value} {W W' : World} (h : W.ownsRow base e size v n xs) (hk : Kc n0 W W') : W'.ownsRow base e size v n xs := by
  obtain ⟨h1, h2⟩ := h
  refine ⟨h1, h2.imp_right ?_⟩
  rintro ⟨g, cap, cur, h3, h4, h5, h6⟩
  exact ⟨g, cap, cur, h3, h4, hk.2 _ _ _ _ h5, h6⟩
theorem hsK_lt {l : List St} {k : Nat} {x : Nat × St} (h : x ∈ hsK l k) : x.1 < l.length ∧ x.1 < k := by
  unfold hsK at h
  rw [List.mem_filterMap] at h
  obtain ⟨j, hj, he⟩ := h
  rw [List.mem_range] at hj
  by_cases hl : j < l.length
  · rw [List.getElem?_eq_getElem hl] at he
    simp only at he
    split at he
    · injection he with he; subst he; exact ⟨hl, hj⟩
    · cases he
  · rw [List.getElem?_eq_none (by omega)] at he; cases he
theorem hIdx_inc (l : List St) : (hIdx l).Pairwise (· < ·) := by
  unfold hIdx
  have : ∀ k, k ≤ l.length → ((hsK l k).map (·.1)).Pairwise (· < ·) := by
    intro k
    induction k with
    | zero => intro _; simp [hsK]
    | succ k ih =>
      intro hk
      rw [hsK_succ (by omega), List.map_append, List.pairwise_append]
      refine ⟨ih (by omega), by split <;> simp, ?_⟩
      intro a ha b hb
      rw [List.mem_map] at ha
      obtain ⟨x, hx, rfl⟩ := ha
      have := (hsK_lt hx).2
      split at hb
      · simp at hb; omega
      · simp at hb
  exact this _ (Nat.le_refl _)

theorem cell_heap {w w' : World} {b o : Nat} (h : w'.heap[b]? = w.heap[b]?) : w'.cell? ⟨b, o, none⟩ = w.cell? ⟨b, o, none⟩ := by simp [World.cell?, h]
theorem frozen_heap {w w' : World} {b o : Nat} (h : w'.heap[b]? = w.heap[b]?) : w'.frozen? ⟨b, o, none⟩ = w.frozen? ⟨b, o, none⟩ := by simp [World.frozen?, h]
theorem RowI.heap {w w' : World} {g : Nat} {d : List Nat} (hI : RowI w g d) (h : w'.heap[g]? = w.heap[g]?) : RowI w' g d := fun j hj =>
  ⟨(cell_heap h).trans (hI j hj).1, (frozen_heap h).trans (hI j hj).2⟩
theorem RowI.of_own {W : World} {base g cap : Nat} {d : List Nat} (h : W.ownsRow base 3 1 (.slice (some ⟨g, 0, none⟩) d.length cap) d.length (d.map pv)) : RowI W g d ∧ base ≤ g ∧ d.length ≤ cap ∧ cap ≤ maxLen ∧ ∃ cur, W.heap[g]? = some (.cells cur 3 (0, 0)) := by
  have hc := h
  rcases h.2 with ⟨h1, -⟩ | ⟨g', cap', cur, h1, h2, h3, h4, h5, -⟩
  · cases h1
  · injection h1 with e1 _ e3
    injection e1 with e1
    injection e1 with e1
    subst e1 e3
    refine ⟨fun j hj => ⟨?_, by simp [World.frozen?, h3]⟩, h2, h4, h5, cur, h3⟩
    have hcell := hc.cellAt j (by omega)
    rw [hcell, List.getElem?_map, List.getElem?_eq_getElem hj]
    rfl

set_option maxRecDepth 100000 in
set_option maxHeartbeats 4000000 in
theorem nearest_any (l : List St) (v : Value) (w : World) (hrow : RowS w v l) (hp : ∀ j (h : j < l.length), Play (l[j]'h).x (l[j]'h).y) (hok : ∀ j (h : j < l.length), OkS (l[j]'h).x (l[j]'h).y) (hl : l.length ≤ 16) :
    Calls Tryz.prog 65 #[v] w fun e w' => ∃ u d, e = .returned u ∧ IsNear l d ∧ OwnN w.heap.size w' u d ∧ Below w.heap.size w w' := by
  obtain ⟨i0, hi, hz0, hz1, hz2⟩ := info_parts Tryz.info3
  have hmf : ∀ (fn : Fn) (first cap : Array Value) (w : World), (Instr.makeFunc fn first cap).run Tryz.prog w = .ok (.func fn first cap) w := fun _ _ _ _ => rfl
  refine (callsIn_wide (n := 8)).1 ?_
  refine callsIn_of_wp_marks Tryz.func65 rfl trivial ?_ rfl
  simp only [Tryz.ntmps65, List.size_toArray, List.length_cons, List.length_nil, Nat.reduceAdd, Nat.reduceSub, Array.replicate_succ, Array.replicate_zero, List.push_toArray, List.append_toArray, List.nil_append, List.cons_append]
  obtain ⟨A, cap, rfl⟩ := hrow.form
  obtain ⟨w0, hw0⟩ : ∃ w0, w.alloc (.cells #[.slice A l.length cap] 30) = w0 := ⟨_, rfl⟩
  have h0z : w0.heap.size = w.heap.size + 1 := by rw [← hw0]; simp
  have bV : w0.cell? ⟨w.heap.size, 0, none⟩ = some (.slice A l.length cap) := by rw [← hw0]; simp [go_sem]
  have B0 : Below w.heap.size w w0 := by rw [← hw0]; exact (Below.refl _ _).alloc (Nat.le_refl _) _
  have hrow0 : RowS w0 (.slice A l.length cap) l := hrow.up B0
  gi_wp2_with (refine ⟨trivial, ?_⟩; gi_at_call 82; refine (callsIn_wide.2 (housed_any _ _ _ _)).mono ?_; rintro e w' ⟨rfl, rfl⟩)
  have bO := (Boxed.new w0 57 (.slice none 0 0)).alloc (.cells #[.slice A l.length cap] 30)
  have bX : ((w0.alloc (.cells #[.slice none 0 0] 57)).alloc (.cells #[.slice A l.length cap] 30)).cell? ⟨w0.heap.size + 1, 0, none⟩ = some (.slice A l.length cap) := by simp [go_sem]
  have B1 : Below w0.heap.size w0 ((w0.alloc (.cells #[.slice none 0 0] 57)).alloc (.cells #[.slice A l.length cap] 30)) := ((Below.refl _ _).alloc (Nat.le_refl _) _).alloc (by simp) _
  rw [h0z] at bX
  refine range_hs (n := 8) (Bs := w.heap.size + 1 + 1) (l := l) (v := .slice A l.length cap) (w0 := w0) (by decide) rfl rfl bX hrow0 hok B1
    (fun pre W => (∃ u, Boxed W w0.heap.size 57 u ∧ W.ownsRow w0.heap.size 3 1 u (pre.map (·.1)).length ((pre.map (·.1)).map pv) ∧ (u = .slice none 0 0 ↔ pre = [])) ∧ Below w0.heap.size w0 W)
    (fun s W W' hz h hk => by
      obtain ⟨⟨u, h1, h2, h3⟩, h4⟩ := h
      exact ⟨⟨u, hk.2 _ _ _ _ h1, ownsRow_kc h2 hk, h3⟩, h4.trans hk.1⟩)
    ⟨⟨_, bO, World.ownsRow_nil _ _ _ _, by simp⟩, B1⟩ ?_ ?_
  · apply Exists.intro
    refine ⟨?_, ?_⟩
    · intro l' x W K hK
      gi_wp2
      exact hK
    · rintro l' pre x W ⟨⟨u, hu, hrw, hnil⟩, hB⟩ hlt hB2
      have hc := hu.cell
      have hpl : (pre.map (·.1)).length ≤ 16 := by rw [List.length_map]; omega
      rw [h0z] at hc
      have hz := hB.size
      gi_wp2_with (gi_at_builtin; refine wpListIn_append_own _ rfl _ _ 57 rfl w0.heap.size 3 i0 (.int .i64 0) 1 8 Tryz.underlying57 hi hz0 hz1 hz2 rfl (by decide) _ _ _ rfl (hrw.alloc _) ⟨W.heap.size, 0, none⟩ 1 1 [pv x.1] rfl rfl (cell_one_new _ _ _) (by simp [Value.oneCell']) (by unfold maxLen; omega) (by omega) (by simp; omega) ?_; intro v' w1 hown' hgrow _; obtain ⟨g', cap', rfl⟩ := ownsRow_succ hown'; obtain ⟨hv1, hv2, hr2, hk2, hb2⟩ := hu.appended (by decide) hrw hz (Nat.le_refl _) hown' hgrow; have hc1 := hv1.cell; have hf1 := hv1.frozen; rw [h0z] at hc1 hf1)
      rw [h0z] at hv2 hr2 hk2 hb2 hB
      refine ⟨by simpa using hk2, by simpa using hb2, ⟨_, by simpa using hv2, by simpa using hr2, by simp⟩, ?_⟩
      exact hB.trans (by simpa using hb2)
  · rintro D W ⟨⟨u, hu, hrw, hnil⟩, hB⟩ hB2 hK hD
    have hc := hu.cell
    rw [h0z] at hc
    have hnear : (hsK l l.length).map (·.1) = hIdx l := rfl
    rw [hnear] at hrw
    have hlen : (hIdx l).length ≤ 16 := by unfold hIdx; rw [List.length_map]; have := hsK_len l l.length; omega
    have hzD : w0.heap.size ≤ D := by have := B1.size; omega
    have hdl : ∀ x ∈ hIdx l, x < l.length := by
      intro x hx
      unfold hIdx at hx
      rw [List.mem_map] at hx
      obtain ⟨y, hy, rfl⟩ := hx
      exact (hsK_lt hy).1
    have bV2 := upc bV hB
    clear hnil
    rcases hrw.2 with ⟨rfl, h0⟩ | ⟨g, cap2, cur, rfl, -⟩
    · have hd0 : hIdx l = [] := List.length_eq_zero_iff.1 h0
      gi_wp2_with (refine ⟨trivial, ?_⟩; gi_at_call 83; refine (callsIn_wide.2 (sortStable_nil _ _)).mono ?_; rintro e w5 ⟨⟨r, rfl⟩, rfl⟩)
      refine ⟨by simp, .inl ⟨_, _, rfl, run_takeDeferred hK, ?_⟩⟩
      refine ⟨_, results_tmp rfl _ _ _, _, [], rfl, ⟨by rw [hd0], by simp⟩, ⟨none, 0, rfl, Nat.le_refl _, Nat.zero_le _, fun _ => rfl, fun h => absurd rfl h⟩, ?_⟩
      exact (B0.trans (hB.mono B0.size)).trans ((Below.refl w.heap.size W).grown (grownBy_putObj' W D _) (Nat.le_trans B0.size hB.size) (fun k e => by cases e; have := B0.size; omega))
    · obtain ⟨hI, hg, hcl, hcm, cur2, hgc⟩ := RowI.of_own hrw
      have hne : g ≠ w0.heap.size := by
        intro e; subst e
        have := hu
        unfold Boxed at this
        rw [hgc] at this
        cases this
      have hneD : D ≠ g := by intro e; subst e; rw [hgc] at hK; cases hK
      have hH := Lib.hid (fun W' hI' => sortStable_any w.heap.size l (.slice A l.length cap) (hIdx l) g cap2 w0 W' bV hrow0 hp hdl (hIdx_inc l) hg hI')
      gi_wp2_with (refine ⟨trivial, ?_⟩; gi_at_call 83; refine (callsIn_wide.2 (hH.out _ hB hI (by omega) hcl)).mono ?_; rintro e w5 ⟨⟨r, rfl⟩, hk5, d', hp5, hs5, hI5⟩; have hc5 : w5.cell? ⟨w.heap.size + 1, 0, none⟩ = some (.slice (some ⟨g, 0, none⟩) (hIdx l).length cap2) := (cell_heap (hk5.2.2 _ (lt_cell hc) (by omega))).trans hc; have hK5 : w5.heap[D]? = some (.deferred (some [])) := (hk5.2.2 D (Array.getElem?_eq_some_iff.1 hK).1 hneD).trans hK)
      refine ⟨by simp, .inl ⟨_, _, rfl, run_takeDeferred hK5, ?_⟩⟩
      have hl5 : d'.length = (hIdx l).length := hp5.length_eq
      refine ⟨_, results_tmp rfl _ _ _, _, d', rfl, ⟨hp5, hs5⟩, ⟨some ⟨g, 0, none⟩, cap2, by rw [hl5]; rfl, by omega, hcm, (fun h => by cases h), fun _ => ⟨g, rfl, by omega, hI5.heap (World.putObj_heap_other (fun h => hneD h.symm))⟩⟩, ?_⟩
      exact (B0.trans (hk5.1.mono B0.size)).trans ((Below.refl w.heap.size w5).grown (grownBy_putObj' w5 D _) (Nat.le_trans B0.size hk5.1.size) (fun k e => by cases e; have := B0.size; omega))
end Go.Proofs.YtmhlialdbggmdaaGreatDoor
