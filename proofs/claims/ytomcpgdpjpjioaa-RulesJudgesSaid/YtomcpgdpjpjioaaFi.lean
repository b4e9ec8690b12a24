/- Contracts of the document's small functions: find, Same, Alike. -/
import Derived.Test.YtomcpgdpjpjioaaOc
import Derived.Test.YtomcpgdpjpjioaaE
namespace Go.Proofs.Ytomcpgdpjpjioaa
open Go.RowKit Go.Proofs Go.Shelf
attribute [local go_sem] Oper.semAt_some

set_option maxHeartbeats 1000000 in
theorem Same_any (l m : List St) (v u : Value) (w : World) (h1 : RowS w v l) (h2 : RowS w u m) :
    Calls Try.prog 31 #[v, u] w fun e w' => e = .returned (.bool (eqL l m)) ∧ Below w.heap.size w w' := by
  obtain ⟨A1, c1, rfl, k1, ⟨m1, -⟩, g1⟩ := h1
  obtain ⟨A2, c2, rfl, k2, ⟨m2, -⟩, g2⟩ := h2
  have HG1 := Lib.hid g1
  have HG2 := Lib.hid g2
  clear g1 g2
  by_cases hlen : l.length = m.length
  · obtain ⟨n, hn⟩ : ∃ n, m.length = n := ⟨_, rfl⟩
    rw [hlen]
    rw [hn]
    rw [hlen, hn] at k1 m1
    go_enter Try.func31, Try.ntmps31
    go_wp2_with fail
    go_loopw [5] (fun iv wr => ∃ k : Nat, k ≤ n ∧ iv = .int .i64 k ∧ (∀ j (h : j < l.length) (h' : j < m.length), j < k → l[j]'h = m[j]'h') ∧ Below w.heap.size w wr) (fun iv _ => n - (intOf iv).toNat)
    case atStart => exact ⟨0, by omega, rfl, fun _ _ _ h => by omega, Below.refl _ _⟩
    case round =>
      obtain ⟨k, hk, rfl, he, hb⟩ := hrel
      have HB := Lib.hid hb
      have HE := Lib.hid he
      clear hb he
      by_cases hltn : k < n
      · have hlt' : (k : Int) < (n : Int) := by omega
        have hlt : k < l.length := by omega
        have hltm : k < m.length := by omega
        obtain ⟨b, o, rfl, hc⟩ := HG1.out (by intro h; subst h; simp at hlt)
        obtain ⟨b', o', rfl, hc'⟩ := HG2.out (by intro h; subst h; simp at hltm)
        have hA := (hc k hlt).up HB.out
        have hA' := (hc' k hltm).up HB.out
        obtain ⟨s, hs⟩ : ∃ s, l[k]'hlt = s := ⟨_, rfl⟩
        obtain ⟨s', hs'⟩ : ∃ s', m[k]'hltm = s' := ⟨_, rfl⟩
        rw [hs] at hA
        rw [hs'] at hA'
        have HS := Lib.hid hs
        have HS' := Lib.hid hs'
        obtain ⟨a0, a1, a2, a3⟩ := hA
        obtain ⟨e0, e1, e2, e3⟩ := hA'
        obtain ⟨q, hq⟩ : ∃ q, eqS s s' = q := ⟨_, rfl⟩
        have HQ := Lib.hid hq
        obtain ⟨s1, s2, s3, s4⟩ := s
        obtain ⟨t1, t2, t3, t4⟩ := s'
        have hne : ∀ w, (binOp .neq 53 (.agg #[.int .i64 s1, .int .i64 s2, .int .i64 s3, .int .i64 s4]) (.agg #[.int .i64 t1, .int .i64 t2, .int .i64 t3, .int .i64 t4])).run Try.prog w = .ok (.bool (!q)) w := fun w => by rw [← hq]; exact neq53 ⟨s1, s2, s3, s4⟩ ⟨t1, t2, t3, t4⟩ w
        clear hs hs' hc hc' hq
        go_wp2_with fail
        go_quiet (fail)
        clear hne
        cases q
        · go_wp2_with fail
          go_ret
          refine ⟨?_, below_drewN HB.out _⟩
          rw [eqL_no (fun e => ?_)]; · rfl
          subst e
          have h1 := HS.out.symm.trans HS'.out
          have h2 := HQ.out
          rw [← h1, (eqS_iff _ _).2 rfl] at h2
          cases h2
        · go_wp2_with fail
          go_roundw
          case rel =>
            refine ⟨k + 1, by omega, by go_num, fun j h h' hj => ?_, below_drewN HB.out _⟩
            by_cases e : j = k
            · subst e; rw [HS.out, HS'.out]; exact (eqS_iff _ _).1 HQ.out
            · exact HE.out j h h' (by omega)
          case measure => simp [intOf]; omega
      · obtain rfl : k = n := by omega
        go_wp2_with fail
        go_ret
        refine ⟨?_, HB.out⟩
        rw [(eqL_iff l m).2 (List.ext_getElem hlen (fun j h h' => HE.out j h h' (by omega)))]
        rfl
  · have hlen' : ¬ (l.length : Int) = (m.length : Int) := by omega
    go_enter Try.func31, Try.ntmps31
    go_wp2_with fail
    go_ret
    refine ⟨?_, Below.refl _ _⟩
    rw [eqL_no (fun e => hlen (by rw [e]))]
    rfl

theorem find49 (t n : Int) (l : List St) (v : Value) (w : World) (hrow : RowS w v l) : Calls Try.prog 49 #[v, .int .i64 t, .int .i64 n] w (Back (.int .i64 (fidx (isB t n) l)) w) := by
  have H := Lib.hid (refFind t n l v w hrow)
  obtain ⟨A, cap, rfl⟩ := hrow.form
  unfold findR at H
  have hge : -1 ≤ fidx (isB t n) l := by unfold fidx; split <;> omega
  obtain ⟨r, hr⟩ : ∃ r, fidx (isB t n) l = r := ⟨_, rfl⟩
  rw [hr] at H hge
  rw [hr]
  clear hrow hr
  by_cases h : r < 0
  · obtain rfl : r = -1 := by omega
    rw [if_pos h] at H
    clear h hge
    go_enter Try.func49, Try.ntmps49
    go_wp2_with (go_at_call 24; (with_reducible refine H.out.mono ?_); rintro e w1 ⟨rfl, hb1⟩; have HB := Lib.hid hb1; clear hb1)
    go_ret
    exact ⟨rfl, HB.out⟩
  · rw [if_neg h] at H
    clear h hge
    go_enter Try.func49, Try.ntmps49
    go_wp2_with (go_at_call 24; (with_reducible refine H.out.mono ?_); rintro e w1 ⟨rfl, hb1⟩; have HB := Lib.hid hb1; clear hb1)
    go_ret
    exact ⟨rfl, HB.out⟩
set_option maxHeartbeats 1000000 in
theorem Alike50 (p q : Oc) (w : World) (hp : RowS w p.v p.l) (hq : RowS w q.v q.l) : Calls Try.prog 50 #[Ocv p, Ocv q] w (Back (.bool (samO p q)) w) := by
  have X0 : Hid (Below w.heap.size w ((w.alloc (Oco p)).alloc (Oco q))) := ((Below.refl _ _).alloc (Nat.le_refl _) _).alloc (by simp) _
  have H31 : Hid (∀ W, Below w.heap.size w W → Calls Try.prog 31 #[p.v, q.v] W fun e w' => e = .returned (.bool (eqL p.l q.l)) ∧ Below W.heap.size W w') := fun W hW => Same_any _ _ _ _ W (hp.up hW) (hq.up hW)
  obtain ⟨A, n, c, hv⟩ : ∃ A n c, p.v = .slice A n c := by obtain ⟨A, c, h, -⟩ := hp; exact ⟨A, _, c, h⟩
  obtain ⟨A2, n2, c2, hv2⟩ : ∃ A n c, q.v = .slice A n c := by obtain ⟨A, c, h, -⟩ := hq; exact ⟨A, _, c, h⟩
  obtain ⟨v1, l1, g1⟩ := p
  obtain ⟨v2, l2, g2⟩ := q
  simp only at hv hv2
  subst hv hv2
  obtain ⟨r, hr⟩ : ∃ r, eqL l1 l2 = r := ⟨_, rfl⟩
  have HS : Hid (samO ⟨.slice A n c, l1, g1⟩ ⟨.slice A2 n2 c2, l2, g2⟩ = (g1 == g2 && r)) := by show _ = _; rw [← hr]; rfl
  simp only at H31
  rw [hr] at H31
  clear hp hq hr
  cases g1 <;> cases g2
  all_goals
    go_enter Try.func50, Try.ntmps50
    go_wp2_with (go_at_call 31; (with_reducible refine (H31.out _ X0.out).mono ?_); rintro e w1 ⟨rfl, hb1⟩; replace X0 := Lib.hid (X0.out.trans (hb1.mono X0.out.size)); clear hb1)
    go_ret
    exact ⟨by rw [HS.out]; rfl, X0.out⟩
end Go.Proofs.Ytomcpgdpjpjioaa
