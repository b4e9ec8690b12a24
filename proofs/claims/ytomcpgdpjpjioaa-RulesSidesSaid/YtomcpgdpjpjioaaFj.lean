/- Contracts of the document's small functions: find, Same, Alike. Contracts of the document's lists of stones: without, Sorted. -/
import Derived.Test.YtomcpgdpjpjioaaOc
import Derived.Test.YtomcpgdpjpjioaaE
import Derived.Test.YtomcpgdpjpjioaaDl
namespace Go.Proofs.Ytomcpgdpjpjioaa
open Go.RowKit Go.Proofs Go.Shelf
attribute [local go_sem] Oper.semAt_some

set_option maxHeartbeats 1000000 in
theorem Same_any (l m : List St) (v u : Value) (w : World) (h1 : RowS w v l) (h2 : RowS w u m) :
    Calls Try.prog 31 #[v, u] w fun e w' => e = .returned (.bool (eqL l m)) ∧ Below w.heap.size w w' := by
  obtain ⟨A1, c1, rfl, k1, ⟨m1, -⟩, g1⟩ := h1
  obtain ⟨A2, c2, rfl, k2, ⟨m2, -⟩, g2⟩ := h2
  have HG1 := Lib.hid g1
  have HG2 := Lib.hid g2
  clear g1 g2
  by_cases hlen : l.length = m.length
  · obtain ⟨n, hn⟩ : ∃ n, m.length = n := ⟨_, rfl⟩
    rw [hlen]
    rw [hn]
    rw [hlen, hn] at k1 m1
    go_enter Try.func31, Try.ntmps31
    go_wp2_with fail
    go_loopw [5] (fun iv wr => ∃ k : Nat, k ≤ n ∧ iv = .int .i64 k ∧ (∀ j (h : j < l.length) (h' : j < m.length), j < k → l[j]'h = m[j]'h') ∧ Below w.heap.size w wr) (fun iv _ => n - (intOf iv).toNat)
    case atStart => exact ⟨0, by omega, rfl, fun _ _ _ h => by omega, Below.refl _ _⟩
    case round =>
      obtain ⟨k, hk, rfl, he, hb⟩ := hrel
      have HB := Lib.hid hb
      have HE := Lib.hid he
      clear hb he
      by_cases hltn : k < n
      · have hlt' : (k : Int) < (n : Int) := by omega
        have hlt : k < l.length := by omega
        have hltm : k < m.length := by omega
        obtain ⟨b, o, rfl, hc⟩ := HG1.out (by intro h; subst h; simp at hlt)
        obtain ⟨b', o', rfl, hc'⟩ := HG2.out (by intro h; subst h; simp at hltm)
        have hA := (hc k hlt).up HB.out
        have hA' := (hc' k hltm).up HB.out
        obtain ⟨s, hs⟩ : ∃ s, l[k]'hlt = s := ⟨_, rfl⟩
        obtain ⟨s', hs'⟩ : ∃ s', m[k]'hltm = s' := ⟨_, rfl⟩
        rw [hs] at hA
        rw [hs'] at hA'
        have HS := Lib.hid hs
        have HS' := Lib.hid hs'
        obtain ⟨a0, a1, a2, a3⟩ := hA
        obtain ⟨e0, e1, e2, e3⟩ := hA'
        obtain ⟨q, hq⟩ : ∃ q, eqS s s' = q := ⟨_, rfl⟩
        have HQ := Lib.hid hq
        obtain ⟨s1, s2, s3, s4⟩ := s
        obtain ⟨t1, t2, t3, t4⟩ := s'
        have hne : ∀ w, (binOp .neq 53 (.agg #[.int .i64 s1, .int .i64 s2, .int .i64 s3, .int .i64 s4]) (.agg #[.int .i64 t1, .int .i64 t2, .int .i64 t3, .int .i64 t4])).run Try.prog w = .ok (.bool (!q)) w := fun w => by rw [← hq]; exact neq53 ⟨s1, s2, s3, s4⟩ ⟨t1, t2, t3, t4⟩ w
        clear hs hs' hc hc' hq
        go_wp2_with fail
        go_quiet (fail)
        clear hne
        cases q
        · go_wp2_with fail
          go_ret
          refine ⟨?_, below_drewN HB.out _⟩
          rw [eqL_no (fun e => ?_)]; · rfl
          subst e
          have h1 := HS.out.symm.trans HS'.out
          have h2 := HQ.out
          rw [← h1, (eqS_iff _ _).2 rfl] at h2
          cases h2
        · go_wp2_with fail
          go_roundw
          case rel =>
            refine ⟨k + 1, by omega, by go_num, fun j h h' hj => ?_, below_drewN HB.out _⟩
            by_cases e : j = k
            · subst e; rw [HS.out, HS'.out]; exact (eqS_iff _ _).1 HQ.out
            · exact HE.out j h h' (by omega)
          case measure => simp [intOf]; omega
      · obtain rfl : k = n := by omega
        go_wp2_with fail
        go_ret
        refine ⟨?_, HB.out⟩
        rw [(eqL_iff l m).2 (List.ext_getElem hlen (fun j h h' => HE.out j h h' (by omega)))]
        rfl
  · have hlen' : ¬ (l.length : Int) = (m.length : Int) := by omega
    go_enter Try.func31, Try.ntmps31
    go_wp2_with fail
    go_ret
    refine ⟨?_, Below.refl _ _⟩
    rw [eqL_no (fun e => hlen (by rw [e]))]
    rfl

theorem find49 (t n : Int) (l : List St) (v : Value) (w : World) (hrow : RowS w v l) : Calls Try.prog 49 #[v, .int .i64 t, .int .i64 n] w (Back (.int .i64 (fidx (isB t n) l)) w) := by
  have H := Lib.hid (refFind t n l v w hrow)
  obtain ⟨A, cap, rfl⟩ := hrow.form
  unfold findR at H
  have hge : -1 ≤ fidx (isB t n) l := by unfold fidx; split <;> omega
  obtain ⟨r, hr⟩ : ∃ r, fidx (isB t n) l = r := ⟨_, rfl⟩
  rw [hr] at H hge
  rw [hr]
  clear hrow hr
  by_cases h : r < 0
  · obtain rfl : r = -1 := by omega
    rw [if_pos h] at H
    clear h hge
    go_enter Try.func49, Try.ntmps49
    go_wp2_with (go_at_call 24; (with_reducible refine H.out.mono ?_); rintro e w1 ⟨rfl, hb1⟩; have HB := Lib.hid hb1; clear hb1)
    go_ret
    exact ⟨rfl, HB.out⟩
  · rw [if_neg h] at H
    clear h hge
    go_enter Try.func49, Try.ntmps49
    go_wp2_with (go_at_call 24; (with_reducible refine H.out.mono ?_); rintro e w1 ⟨rfl, hb1⟩; have HB := Lib.hid hb1; clear hb1)
    go_ret
    exact ⟨rfl, HB.out⟩
set_option maxHeartbeats 1000000 in
theorem Alike50 (p q : Oc) (w : World) (hp : RowS w p.v p.l) (hq : RowS w q.v q.l) : Calls Try.prog 50 #[Ocv p, Ocv q] w (Back (.bool (samO p q)) w) := by
  have X0 : Hid (Below w.heap.size w ((w.alloc (Oco p)).alloc (Oco q))) := ((Below.refl _ _).alloc (Nat.le_refl _) _).alloc (by simp) _
  have H31 : Hid (∀ W, Below w.heap.size w W → Calls Try.prog 31 #[p.v, q.v] W fun e w' => e = .returned (.bool (eqL p.l q.l)) ∧ Below W.heap.size W w') := fun W hW => Same_any _ _ _ _ W (hp.up hW) (hq.up hW)
  obtain ⟨A, n, c, hv⟩ : ∃ A n c, p.v = .slice A n c := by obtain ⟨A, c, h, -⟩ := hp; exact ⟨A, _, c, h⟩
  obtain ⟨A2, n2, c2, hv2⟩ : ∃ A n c, q.v = .slice A n c := by obtain ⟨A, c, h, -⟩ := hq; exact ⟨A, _, c, h⟩
  obtain ⟨v1, l1, g1⟩ := p
  obtain ⟨v2, l2, g2⟩ := q
  simp only at hv hv2
  subst hv hv2
  obtain ⟨r, hr⟩ : ∃ r, eqL l1 l2 = r := ⟨_, rfl⟩
  have HS : Hid (samO ⟨.slice A n c, l1, g1⟩ ⟨.slice A2 n2 c2, l2, g2⟩ = (g1 == g2 && r)) := by show _ = _; rw [← hr]; rfl
  simp only at H31
  rw [hr] at H31
  clear hp hq hr
  cases g1 <;> cases g2
  all_goals
    go_enter Try.func50, Try.ntmps50
    go_wp2_with (go_at_call 31; (with_reducible refine (H31.out _ X0.out).mono ?_); rintro e w1 ⟨rfl, hb1⟩; replace X0 := Lib.hid (X0.out.trans (hb1.mono X0.out.size)); clear hb1)
    go_ret
    exact ⟨by rw [HS.out]; rfl, X0.out⟩
end Go.Proofs.Ytomcpgdpjpjioaa

namespace Go.Proofs.Ytomcpgdpjpjioaa
open Go.RowKit Go.Proofs Go.Shelf
attribute [local go_sem] Oper.semAt_some

def goneR (t n : Int) (l : List St) : List St := l.filter (fun s => !eqK s.t s.n t n)
theorem goneR_step (t n : Int) {l : List St} {k : Nat} (h : k < l.length) : goneR t n (l.take (k + 1)) = goneR t n (l.take k) ++ if eqK (l[k]'h).t (l[k]'h).n t n = true then [] else [l[k]'h] := by
  unfold goneR
  rw [List.take_succ_eq_append_getElem h, List.filter_append]
  cases e : eqK (l[k]'h).t (l[k]'h).n t n <;> simp [e]
theorem goneR_len (t n : Int) (l : List St) (k : Nat) : (goneR t n (l.take k)).length ≤ k := by
  unfold goneR
  exact Nat.le_trans (List.length_filter_le _ _) (by rw [List.length_take]; omega)

set_option maxRecDepth 100000 in
set_option maxHeartbeats 2000000 in
theorem without42 (t n : Int) (l : List St) (v : Value) (w : World) (hrow : RowS w v l) (hl : l.length ≤ 900) :
    Calls Try.prog 42 #[v, .int .i64 t, .int .i64 n] w fun e w' => (∃ u, e = .returned u ∧ OwnS w.heap.size w' u (goneR t n l)) ∧ Below w.heap.size w w' := by
  obtain ⟨i0, hi, hz0, hz1, hz2⟩ := info_parts Try.info53
  obtain ⟨A, cap, rfl, hlc, ⟨hcap, hcmx⟩, hcells⟩ := hrow
  have HR := Lib.hid hcells
  clear hcells hcmx
  go_enter Try.func42, Try.ntmps42
  go_wp2_with fail
  have O0 : Hid (w.ownsRow w.heap.size 53 4 (.slice none 0 0) 0 ((goneR t n (l.take 0)).flatMap stC)) := World.ownsRow_nil _ _ _ _
  have B0 : Hid (Below w.heap.size w w) := Below.refl _ _
  go_loopw [7, 8] (fun u iv wr => ∃ (k m : Nat), k ≤ l.length ∧ m = (goneR t n (l.take k)).length ∧ iv = .int .i64 k ∧ Hid (wr.ownsRow w.heap.size 53 4 u m ((goneR t n (l.take k)).flatMap stC)) ∧ Hid (Below w.heap.size w wr)) (fun _ iv _ => l.length - (intOf iv).toNat)
  case atStart => exact ⟨0, 0, by omega, rfl, rfl, O0, B0⟩
  case round =>
    obtain ⟨k, m, hk, hm, rfl, ho, hb⟩ := hrel
    have HB := Lib.hid hb.out
    have HO := Lib.hid ho.out
    have HN := Lib.hid hm
    clear ho hb O0 B0
    by_cases hlt : k < l.length
    · have hlt' : (k : Int) < (l.length : Int) := by omega
      obtain ⟨b, o, rfl, hc⟩ := HR.out (by intro h; subst h; simp at hlt)
      obtain ⟨a0, a1, a2, a3⟩ := (hc k hlt).up HB.out
      have hdk := goneR_len t n l k
      rw [← hm] at hdk
      have hst := goneR_step t n hlt
      obtain ⟨s, hs⟩ : ∃ s, l[k]'hlt = s := ⟨_, rfl⟩
      rw [hs] at a0 a1 a2 a3 hst
      have HST := Lib.hid hst
      clear hs hst hc hm
      obtain ⟨s1, s2, s3, s4⟩ := s
      simp only at a0 a1 a2 a3
      have hz := HB.out.size
      have KEEP : Hid (eqK s1 s2 t n = false → goneR t n (l.take (k + 1)) = goneR t n (l.take k) ++ [⟨s1, s2, s3, s4⟩]) := fun h => by rw [HST.out, if_neg (by rw [h]; simp)]
      have DROP : Hid (eqK s1 s2 t n = true → goneR t n (l.take (k + 1)) = goneR t n (l.take k)) := fun h => by rw [HST.out, if_pos h, List.append_nil]
      have K2 : Hid ((wr.alloc (.cells #[.int .i64 s1, .int .i64 s2, .int .i64 s3, .int .i64 s4] 53)).ownsRow w.heap.size 53 4 u7 m ((goneR t n (l.take k)).flatMap stC)) := HO.out.alloc _
      have B2 : Hid (Below w.heap.size w (wr.alloc (.cells #[.int .i64 s1, .int .i64 s2, .int .i64 s3, .int .i64 s4] 53))) := HB.out.alloc hz _
      have NW := Lib.hid (news_lit wr ⟨s1, s2, s3, s4⟩)
      clear HST
      by_cases e1 : s1 = t
      · subst e1
        by_cases e2 : s2 = n
        · subst e2
          go_wp2_with fail
          go_roundw
          case rel => exact ⟨k + 1, m, by omega, by rw [DROP.out (by simp [eqK]), HN.out], by go_num, by show World.ownsRow _ _ _ _ _ _ _; rw [DROP.out (by simp [eqK])]; exact HO.out, HB⟩
          case measure => simp [intOf]; omega
        · have e2' : (s2 != n) = true := by simpa using e2
          go_wp2_with (at_builtin; refine wpList_append_own _ rfl _ _ 24 rfl w.heap.size 53 i0 _ 4 32 Try.underlying24 hi hz0 hz1 hz2 rfl (by decide) _ _ _ rfl K2.out ⟨wr.heap.size, 0, none⟩ 1 1 (stC ⟨s1, s2, s3, s4⟩) rfl rfl NW.out (fun u h => stC_one1 h) (by unfold maxLen; omega) (by omega) (by simp; omega) ?_; intro v' w5 hown hgrow hnn; have B5 := Lib.hid (B2.out.grown hgrow (by simp; omega) (fun j hj => (ownBlock_ge K2.out hj).1)); have HO5 := Lib.hid hown; clear hown hgrow hnn)
          go_roundw
          case rel => exact ⟨k + 1, m + 1, by omega, by rw [KEEP.out (by simp [eqK, e2]), HN.out]; simp, by go_num, by show World.ownsRow _ _ _ _ _ _ _; rw [KEEP.out (by simp [eqK, e2])]; simpa using HO5.out, B5⟩
          case measure => simp [intOf]; omega
      · have e1' : (s1 != t) = true := by simpa using e1
        go_wp2_with (at_builtin; refine wpList_append_own _ rfl _ _ 24 rfl w.heap.size 53 i0 _ 4 32 Try.underlying24 hi hz0 hz1 hz2 rfl (by decide) _ _ _ rfl K2.out ⟨wr.heap.size, 0, none⟩ 1 1 (stC ⟨s1, s2, s3, s4⟩) rfl rfl NW.out (fun u h => stC_one1 h) (by unfold maxLen; omega) (by omega) (by simp; omega) ?_; intro v' w5 hown hgrow hnn; have B5 := Lib.hid (B2.out.grown hgrow (by simp; omega) (fun j hj => (ownBlock_ge K2.out hj).1)); have HO5 := Lib.hid hown; clear hown hgrow hnn)
        go_roundw
        case rel => exact ⟨k + 1, m + 1, by omega, by rw [KEEP.out (by simp [eqK, e1]), HN.out]; simp, by go_num, by show World.ownsRow _ _ _ _ _ _ _; rw [KEEP.out (by simp [eqK, e1])]; simpa using HO5.out, B5⟩
        case measure => simp [intOf]; omega
    · obtain rfl : k = l.length := by omega
      have hf := HO.out
      have hn2 := HN.out
      rw [List.take_length] at hf hn2
      have HFIN : Hid (OwnS w.heap.size wr u7 (goneR t n l)) := by show World.ownsRow _ _ _ _ _ _ _; rw [hn2] at hf; exact hf
      clear hf hn2
      go_wp2_with fail
      exact bodyPost_ret (v := u7) (by kernel_rfl) rfl ⟨⟨u7, rfl, HFIN.out⟩, HB.out⟩
end Go.Proofs.Ytomcpgdpjpjioaa
