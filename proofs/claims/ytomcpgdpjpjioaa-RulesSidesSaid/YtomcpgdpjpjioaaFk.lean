/- Contract of the document's Sorted; plain: it is the sorted list of stones with distinct names. -/
import Derived.Test.YtomcpgdpjpjioaaFj
import Derived.Test.YtomcpgdpjpjioaaSu
namespace Go.Proofs.Ytomcpgdpjpjioaa
open Go.RowKit Go.Proofs Go.Shelf
attribute [local go_sem] Oper.semAt_some

theorem own_up2 {base e sz n : Nat} {v : Value} {xs : List Value} {W w2 : World} (h : W.ownsRow base e sz v n xs) (hb : Below W.heap.size W w2) : w2.ownsRow base e sz v n xs := by
  obtain ⟨q1, q2⟩ := h
  refine ⟨q1, q2.imp_right ?_⟩
  rintro ⟨g, cap, cur, q3, q4, q5, q6⟩
  exact ⟨g, cap, cur, q3, q4, boxed_cells_up q5 hb, q6⟩
/-- The stones with the first q names, in order. -/
def srtQ (l : List St) (q : Nat) : List St := (List.range q).filterMap (fun i => l.find? (isB ((i / 8 : Nat) : Int) ((i % 8 : Nat) : Int)))
theorem srtQ_step (l : List St) (q : Nat) : srtQ l (q + 1) = srtQ l q ++ (l.find? (isB ((q / 8 : Nat) : Int) ((q % 8 : Nat) : Int))).toList := by
  unfold srtQ
  rw [List.range_succ, List.filterMap_append]
  simp only [List.filterMap_cons, List.filterMap_nil]
  cases h : l.find? (isB ((q / 8 : Nat) : Int) ((q % 8 : Nat) : Int)) <;> rfl
theorem srtQ_len (l : List St) (q : Nat) : (srtQ l q).length ≤ q := by
  unfold srtQ; exact Nat.le_trans (List.length_filterMap_le _ _) (by simp)
theorem find_yes {p : St → Bool} {l : List St} {i : Nat} (h : i < l.length) (hp : p (l[i]'h) = true) (hb : ∀ j (hj : j < i), p (l[j]'(by omega)) = false) : l.find? p = some (l[i]'h) := by
  rw [List.find?_eq_some_iff_getElem]
  exact ⟨hp, i, h, rfl, fun j hj => by rw [hb j hj]; rfl⟩
theorem find_no {p : St → Bool} {l : List St} (h : ∀ s ∈ l, p s = false) : l.find? p = none := by
  rw [List.find?_eq_none]; intro s hs; rw [h s hs]; simp
theorem isB_iff (t n : Int) (s : St) : isB t n s = true ↔ s.t = t ∧ s.n = n := by unfold isB; simp
theorem srtQ_mem {l : List St} (hb : ∀ s ∈ l, bnd s) (hd : dis l) (s : St) : s ∈ srtQ l 16 ↔ s ∈ l := by
  unfold srtQ
  rw [List.mem_filterMap]
  constructor
  · rintro ⟨i, -, h⟩
    exact List.mem_of_find?_eq_some h
  · intro hs
    have h1 := hb s hs
    unfold bnd at h1
    refine ⟨(s.t * 8 + s.n).toNat, List.mem_range.2 (by omega), ?_⟩
    have e1 : (((s.t * 8 + s.n).toNat / 8 : Nat) : Int) = s.t := by omega
    have e2 : (((s.t * 8 + s.n).toNat % 8 : Nat) : Int) = s.n := by omega
    rw [e1, e2]
    cases h : l.find? (isB s.t s.n) with
    | none =>
      rw [List.find?_eq_none] at h
      exact absurd ((isB_iff _ _ _).2 ⟨rfl, rfl⟩) (h s hs)
    | some s' =>
      have h2 := List.mem_of_find?_eq_some h
      have h3 := (isB_iff _ _ _).1 (List.find?_some h)
      rw [hd s' h2 s hs h3.1 h3.2]
theorem srtQ_pw (l : List St) : ∀ q, (srtQ l q).Pairwise (fun a b => kyS a < kyS b) ∧ ∀ s ∈ srtQ l q, kyS s < q := by
  intro q
  induction q with
  | zero => simp [srtQ]
  | succ q ih =>
    rw [srtQ_step]
    cases h : l.find? (isB ((q / 8 : Nat) : Int) ((q % 8 : Nat) : Int)) with
    | none => simp only [Option.toList_none, List.append_nil]; exact ⟨ih.1, fun s hs => by have := ih.2 s hs; omega⟩
    | some s' =>
      have h3 := (isB_iff _ _ _).1 (List.find?_some h)
      have hk : kyS s' = q := by unfold kyS; omega
      simp only [Option.toList_some]
      refine ⟨?_, ?_⟩
      · rw [List.pairwise_append]
        exact ⟨ih.1, List.pairwise_singleton _ _, fun a ha b hb => by rw [List.mem_singleton.1 hb, hk]; exact ih.2 a ha⟩
      · intro s hs
        rcases List.mem_append.1 hs with h | h
        · have := ih.2 s h; omega
        · rw [List.mem_singleton.1 h, hk]; omega
theorem strict_ext : ∀ (l m : List St), l.Pairwise (fun a b => kyS a < kyS b) → m.Pairwise (fun a b => kyS a < kyS b) → (∀ x, x ∈ l ↔ x ∈ m) → l = m
  | [], [], _, _, _ => rfl
  | [], b :: m, _, _, h => absurd ((h b).2 (List.mem_cons_self ..)) (List.not_mem_nil)
  | a :: l, [], _, _, h => absurd ((h a).1 (List.mem_cons_self ..)) (List.not_mem_nil)
  | a :: l, b :: m, hl, hm, h => by
    rw [List.pairwise_cons] at hl hm
    have e : a = b := by
      rcases List.mem_cons.1 ((h a).1 (List.mem_cons_self ..)) with h1 | h1
      · exact h1
      · rcases List.mem_cons.1 ((h b).2 (List.mem_cons_self ..)) with h2 | h2
        · exact h2.symm
        · have := hl.1 b h2; have := hm.1 a h1; omega
    subst e
    rw [strict_ext l m hl.2 hm.2 (fun x => ?_)]
    constructor
    · intro hx
      rcases List.mem_cons.1 ((h x).1 (List.mem_cons_of_mem _ hx)) with h1 | h1
      · have := hl.1 x hx; rw [h1] at this; omega
      · exact h1
    · intro hx
      rcases List.mem_cons.1 ((h x).2 (List.mem_cons_of_mem _ hx)) with h1 | h1
      · have := hm.1 x hx; rw [h1] at this; omega
      · exact h1
theorem srt_strict {l : List St} (hb : ∀ s ∈ l, bnd s) (hn : l.Pairwise (fun a b => ¬ (a.t = b.t ∧ a.n = b.n))) : (srt l).Pairwise (fun a b => kyS a < kyS b) := by
  have hn' : (srt l).Pairwise (fun a b => ¬ (a.t = b.t ∧ a.n = b.n)) := (srt_perm l).symm.pairwise hn (fun {a b} h h' => h ⟨h'.1.symm, h'.2.symm⟩)
  refine ((srt_pw l).and hn').imp_of_mem ?_
  intro a b ha hb' h
  have k1 := hb a ((srt_perm l).mem_iff.1 ha)
  have k2 := hb b ((srt_perm l).mem_iff.1 hb')
  unfold bnd at k1 k2
  have h1 := h.1
  have h2 := h.2
  unfold kyS at h1 ⊢
  by_cases e : a.t * 8 + a.n = b.t * 8 + b.n
  · exact absurd ⟨by omega, by omega⟩ h2
  · omega
theorem srtQ_srt {l : List St} (hb : ∀ s ∈ l, bnd s) (hd : dis l) (hn : l.Pairwise (fun a b => ¬ (a.t = b.t ∧ a.n = b.n))) : srtQ l 16 = srt l :=
  strict_ext _ _ (srtQ_pw l 16).1 (srt_strict hb hn) (fun x => (srtQ_mem hb hd x).trans (srt_perm l).mem_iff.symm)
theorem chk_pw {l : List St} (h : chkB l = true) : l.Pairwise (fun a b => ¬ (a.t = b.t ∧ a.n = b.n)) := by
  unfold chkB at h
  rw [Bool.and_eq_true, Bool.and_eq_true] at h
  have hn := good_names (l := l) (k := 0) (by omega) h.1.2
  rw [List.pairwise_iff_getElem]
  rintro i j hi hj hij ⟨e1, e2⟩
  have := hn j hj (by omega) i hij
  simp [nameB, e1, e2] at this

set_option maxRecDepth 100000 in
set_option maxHeartbeats 4000000 in
theorem Sorted41 (l : List St) (v : Value) (w : World) (hrow : RowS w v l) (hl : l.length ≤ 900) :
    Calls Try.prog 41 #[v] w fun e w' => (∃ u, e = .returned u ∧ OwnS w.heap.size w' u (srtQ l 16)) ∧ Below w.heap.size w w' := by
  obtain ⟨i0, hi, hz0, hz1, hz2⟩ := info_parts Try.info53
  have H49 : Hid (∀ W t n, Below w.heap.size w W → Calls Try.prog 49 #[v, .int .i64 t, .int .i64 n] W (Back (.int .i64 (fidx (isB t n) l)) W)) := fun W t n h => find49 t n l v W (hrow.up h)
  obtain ⟨A, cap, rfl, hlc, ⟨hcap, hcmx⟩, hcells⟩ := hrow
  have HR := Lib.hid hcells
  clear hcells hcmx
  go_enter Try.func41, Try.ntmps41
  go_wp2_with fail
  have O0 : Hid (w.ownsRow w.heap.size 53 4 (.slice none 0 0) 0 ((srtQ l (8 * 0)).flatMap stC)) := World.ownsRow_nil _ _ _ _
  have B0 : Hid (Below w.heap.size w w) := Below.refl _ _
  go_loopw [3, 4] (fun u iv wr => ∃ (t m : Nat), t ≤ 2 ∧ m = (srtQ l (8 * t)).length ∧ iv = .int .i64 t ∧ Hid (wr.ownsRow w.heap.size 53 4 u m ((srtQ l (8 * t)).flatMap stC)) ∧ Hid (Below w.heap.size w wr)) (fun _ iv _ => 2 - (intOf iv).toNat)
  case atStart => exact ⟨0, 0, by omega, rfl, rfl, O0, B0⟩
  case round =>
    obtain ⟨t, m, hk, hm, rfl, ho, hb⟩ := hrel
    have HB := Lib.hid hb.out
    have HO := Lib.hid ho.out
    have HN := Lib.hid hm
    clear ho hb O0 B0 hm
    rename World => w1
    by_cases hlt : t < 2
    · have hlt' : (t : Int) < 2 := by omega
      have O1 : Hid (w1.ownsRow w.heap.size 53 4 u3 m ((srtQ l (8 * t + 0)).flatMap stC)) := HO.out
      have N1 : Hid (m = (srtQ l (8 * t + 0)).length) := HN.out
      go_wp2_with fail
      go_loopw [3, 5] (fun u jv wr => ∃ (j m : Nat), j ≤ 8 ∧ Hid (m = (srtQ l (8 * t + j)).length) ∧ jv = .int .i64 j ∧ Hid (wr.ownsRow w.heap.size 53 4 u m ((srtQ l (8 * t + j)).flatMap stC)) ∧ Hid (Below w.heap.size w wr)) (fun _ jv _ => 8 - (intOf jv).toNat)
      case atStart => exact ⟨0, m, by omega, N1, rfl, O1, HB⟩
      case round =>
        obtain ⟨j, m, hj, hm, rfl, ho, hb⟩ := hrel
        have HB2 := Lib.hid hb.out
        have HO2 := Lib.hid ho.out
        have HN2 := Lib.hid hm.out
        clear ho hb O1 N1 hm HO HN HB
        by_cases hjl : j < 8
        · have hjl' : (j : Int) < 8 := by omega
          have hst := srtQ_step l (8 * t + j)
          have e1 : (8 * t + j) / 8 = t := by omega
          have e2 : (8 * t + j) % 8 = j := by omega
          rw [e1, e2] at hst
          have hlen := srtQ_len l (8 * t + j)
          rw [← HN2.out] at hlen
          have hm32 : m ≤ 16 := by omega
          have H49j := Lib.hid (fun W h => H49.out W t j h)
          clear e1 e2 hlen
          rcases fidx_cases (isB (t : Int) (j : Int)) l with ⟨ef, hno⟩ | ⟨k, hk, ef, hp, hbef⟩
          · rw [find_no hno, Option.toList_none, List.append_nil] at hst
            rw [ef] at H49j
            have HST := Lib.hid hst
            clear ef hno hst
            go_wp2_with (go_at_call 49; (with_reducible refine (H49j.out _ HB2.out).mono ?_); rintro e w2 ⟨rfl, hb1⟩; have HB3 := Lib.hid (HB2.out.trans (hb1.mono HB2.out.size)); have HO3 := Lib.hid (own_up2 HO2.out hb1); clear hb1)
            go_roundw
            case rel => exact ⟨j + 1, m, by omega, by show m = (srtQ l (8 * t + j + 1)).length; rw [HST.out]; exact HN2.out, by go_num, by show World.ownsRow _ _ _ _ _ _ ((srtQ l (8 * t + j + 1)).flatMap stC); rw [HST.out]; exact HO3.out, HB3⟩
            case measure => simp [intOf]; omega
          · rw [find_yes hk hp hbef, Option.toList_some] at hst
            rw [ef] at H49j
            obtain ⟨b, o, rfl, hc⟩ := HR.out (by intro h; subst h; simp at hk)
            have HC := Lib.hid (hc k hk)
            have hk' : (k : Int) < (l.length : Int) := by omega
            have hk0 : ¬ (k : Int) < 0 := by omega
            obtain ⟨s, hs⟩ : ∃ s, l[k]'hk = s := ⟨_, rfl⟩
            rw [hs] at HC hst
            have HST := Lib.hid hst
            clear ef hp hbef hs hst hc
            obtain ⟨s1, s2, s3, s4⟩ := s
            go_upto_region 10 with (go_at_call 49; (with_reducible refine (H49j.out _ HB2.out).mono ?_); rintro e w2 ⟨rfl, hb1⟩; have HB3 := Lib.hid (HB2.out.trans (hb1.mono HB2.out.size)); have HO3 := Lib.hid (own_up2 HO2.out hb1); clear hb1)
            obtain ⟨a0, a1, a2, a3⟩ := HC.out.up HB3.out
            simp only at a0 a1 a2 a3
            have hz := HB3.out.size
            have K2 : Hid ((w2.alloc (.cells #[.int .i64 s1, .int .i64 s2, .int .i64 s3, .int .i64 s4] 53)).ownsRow w.heap.size 53 4 u3 m ((srtQ l (8 * t + j)).flatMap stC)) := HO3.out.alloc _
            have B2 : Hid (Below w.heap.size w (w2.alloc (.cells #[.int .i64 s1, .int .i64 s2, .int .i64 s3, .int .i64 s4] 53))) := HB3.out.alloc hz _
            have NW := Lib.hid (news_lit w2 ⟨s1, s2, s3, s4⟩)
            go_wp2_with (at_builtin; refine wpList_append_own _ rfl _ _ 24 rfl w.heap.size 53 i0 _ 4 32 Try.underlying24 hi hz0 hz1 hz2 rfl (by decide) _ _ _ rfl K2.out ⟨w2.heap.size, 0, none⟩ 1 1 (stC ⟨s1, s2, s3, s4⟩) rfl rfl NW.out (fun u h => stC_one1 h) (by unfold maxLen; omega) (by omega) (by simp; omega) ?_; intro v' w5 hown hgrow hnn; have B5 := Lib.hid (B2.out.grown hgrow (by simp; omega) (fun j hj => (ownBlock_ge K2.out hj).1)); have HO5 := Lib.hid hown; clear hown hgrow hnn)
            go_roundw
            case rel => exact ⟨j + 1, m + 1, by omega, by show m + 1 = (srtQ l (8 * t + j + 1)).length; rw [HST.out, HN2.out]; simp, by go_num, by show World.ownsRow _ _ _ _ _ _ ((srtQ l (8 * t + j + 1)).flatMap stC); rw [HST.out]; simpa using HO5.out, B5⟩
            case measure => simp [intOf]; omega
        · obtain rfl : j = 8 := by omega
          go_wp2_with fail
          go_roundw
          case rel => exact ⟨t + 1, m, by omega, HN2.out, by go_num, HO2, HB2⟩
          case measure => simp [intOf]; omega
    · obtain rfl : t = 2 := by omega
      have HFIN : Hid (OwnS w.heap.size w1 u3 (srtQ l 16)) := by show World.ownsRow _ _ _ _ _ _ _; have := HO.out; rw [HN.out] at this; exact this
      go_wp2_with fail
      exact bodyPost_ret (v := u3) (by kernel_rfl) rfl ⟨⟨u3, rfl, HFIN.out⟩, HB.out⟩
end Go.Proofs.Ytomcpgdpjpjioaa
