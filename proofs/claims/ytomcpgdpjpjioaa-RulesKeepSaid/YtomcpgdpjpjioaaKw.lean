/- Contract: the law's has. Walk: RulesKeep. -/
import Derived.Test.YtomcpgdpjpjioaaPa
import Derived.Test.YtomcpgdpjpjioaaFo
import Derived.Test.YtomcpgdpjpjioaaJw
import Derived.Test.YtomcpgdpjpjioaaPy
import Derived.Deep.Cut
import Derived.Deep.CutRange
namespace Go.Proofs.Ytomcpgdpjpjioaa
open Go.RowKit Go.Proofs Go.Shelf
attribute [local go_sem] Oper.semAt_some

set_option maxHeartbeats 2000000 in
theorem has23 (l : List St) (s : St) (v : Value) (w : World) (hrow : RowS w v l) : Calls Try.prog 23 #[v, Stv s] w (Back (.bool (l.any (fun s' => eqS s' s))) w) := by
  obtain ⟨A, cap, rfl, hlc, ⟨hcap, hcmx⟩, hcells⟩ := hrow
  have HR := Lib.hid hcells
  have X0 : Hid (Below w.heap.size w (w.alloc (Sto s))) := (Below.refl _ _).alloc (Nat.le_refl _) _
  have N4 := Lib.hid (At4.new w s)
  have EL := Lib.hid (fun a W => eql53 a s W)
  clear hcells hcmx
  obtain ⟨s1, s2, s3, s4⟩ := s
  go_enter Try.func23, Try.ntmps23
  go_upto_region 1 with fail
  generalize hwx : World.alloc w _ = wx
  have B : Hid (Below w.heap.size w wx) := by rw [← hwx]; exact X0.out
  have NX : Hid (At4 wx w.heap.size 0 ⟨s1, s2, s3, s4⟩) := by show At4 _ _ _ _; rw [← hwx]; exact N4.out
  clear hwx X0 N4
  go_wp2_with fail
  go_loopw [5] (fun iv wr => ∃ k : Nat, k ≤ l.length ∧ iv = .int .i64 k ∧ Hid ((l.take k).any (fun s' => eqS s' ⟨s1, s2, s3, s4⟩) = false) ∧ Hid (Below wx.heap.size wx wr)) (fun iv _ => l.length - (intOf iv).toNat)
  case atStart => exact ⟨0, by omega, rfl, by show _ = _; simp, Below.refl _ _⟩
  case round =>
    obtain ⟨k, hk, rfl, hno, hb⟩ := hrel
    have HN := Lib.hid hno.out
    have HB := Lib.hid hb.out
    have WB := Lib.hid (B.out.trans (HB.out.mono B.out.size))
    clear hno hb
    by_cases hlt : k < l.length
    · have hlt' : (k : Int) < (l.length : Int) := by omega
      obtain ⟨b, o, rfl, hc⟩ := HR.out (by intro h; subst h; simp at hlt)
      obtain ⟨a0, a1, a2, a3⟩ := (hc k hlt).up WB.out
      obtain ⟨e0, e1, e2, e3⟩ := NX.out.up HB.out
      have hst : (l.take (k + 1)).any (fun s' => eqS s' ⟨s1, s2, s3, s4⟩) = eqS (l[k]'hlt) ⟨s1, s2, s3, s4⟩ := by rw [List.take_succ_eq_append_getElem hlt, List.any_append, HN.out]; simp
      have hmem := List.getElem_mem hlt
      obtain ⟨y, hy⟩ : ∃ y, l[k]'hlt = y := ⟨_, rfl⟩
      rw [hy] at a0 a1 a2 a3 hst hmem
      obtain ⟨q, hq⟩ : ∃ q, eqS y ⟨s1, s2, s3, s4⟩ = q := ⟨_, rfl⟩
      have YES : Hid (q = true → l.any (fun s' => eqS s' ⟨s1, s2, s3, s4⟩) = true) := fun h => by rw [List.any_eq_true]; exact ⟨y, hmem, hq.trans h⟩
      rw [hq] at hst
      have HST := Lib.hid hst
      have hel := fun W => EL.out y W
      rw [hq] at hel
      obtain ⟨y1, y2, y3, y4⟩ := y
      have hel : ∀ W, (binOp .eql 53 (.agg #[.int .i64 y1, .int .i64 y2, .int .i64 y3, .int .i64 y4]) (.agg #[.int .i64 s1, .int .i64 s2, .int .i64 s3, .int .i64 s4])).run Try.prog W = .ok (.bool q) W := hel
      simp only [Nat.zero_add] at a0 a1 a2 a3 e0 e1 e2 e3
      clear hy hq hc hst hmem
      go_wp2_with fail
      go_quiet (fail)
      clear hel
      cases q
      · go_wp2_with fail
        go_roundw
        case rel => exact ⟨k + 1, by omega, by go_num, HST.out, below_drewN HB.out _⟩
        case measure => simp [intOf]; omega
      · go_wp2_with fail
        go_ret
        exact ⟨by rw [YES.out (by trivial)]; rfl, below_drewN WB.out _⟩
    · obtain rfl : k = l.length := by omega
      rw [List.take_length] at HN
      go_wp2_with fail
      go_ret
      exact ⟨by rw [HN.out]; rfl, WB.out⟩
/-- What RulesKeep has: its parameters, the ruling, its outcomes, the stones that are kept. -/
def KeS (w W : World) (c : Cd) (x : Th) (u : Value) (pJ : Nat) (r ch : Int) (v : Value) (D : List Oc) (kv : Value) (kl : List Nat) : Prop :=
  PaS w W c x u ∧ R3 W pJ r ch v ∧ RowO W v D ∧ OcR W D ∧ ∃ b, OwnN b W kv kl
theorem KeS.up {w W W' : World} {c : Cd} {x : Th} {u : Value} {pJ : Nat} {r ch : Int} {v : Value} {D : List Oc} {kv : Value} {kl : List Nat} (h : KeS w W c x u pJ r ch v D kv kl) (hb : Below W.heap.size W W') : KeS w W' c x u pJ r ch v D kv kl := by
  obtain ⟨h1, h2, h3, h4, b, h5⟩ := h
  exact ⟨h1.up hb, h2.up hb, h3.up hb, h4.up hb, b, h5.up hb⟩
theorem KeS.below {w W : World} {c : Cd} {x : Th} {u : Value} {pJ : Nat} {r ch : Int} {v : Value} {D : List Oc} {kv : Value} {kl : List Nat} (h : KeS w W c x u pJ r ch v D kv kl) : Below w.heap.size w W := h.1.1
end Go.Proofs.Ytomcpgdpjpjioaa

namespace Go.Proofs.Ytomcpgdpjpjioaa
open Go.RowKit Go.Proofs Go.Shelf
attribute [local go_sem] Oper.semAt_some

theorem findR_pos {t n : Int} {l : List St} (h : 0 ≤ fidx (isB t n) l) : findR t n l = .tuple #[.int .i64 (fidx (isB t n) l), .int .i64 0] := by unfold findR; rw [if_neg (by omega)]
theorem fidx_lt {α : Type} (p : α → Bool) (l : List α) : fidx p l < (l.length : Int) ∨ l = [] := by
  unfold fidx
  split
  · left; omega
  · cases l with
    | nil => right; rfl
    | cons a l => left; simp; omega
set_option maxRecDepth 100000 in
set_option maxHeartbeats 16000000 in
theorem Keep_any (c : Cd) (n : Int) (x : Th) (l m : List St) (v u : Value) (w : World) (hv : RowS w v l) (hu : RowS w u m) (hl : l.length ≤ 20) (hm : m.length ≤ 20) : Calls Try.prog 5 #[Cdv c, .int .i64 n, v, Thv x u] w (Back (.bool true) w) := by
  have HV := Lib.hid hv
  have HU := Lib.hid hu
  obtain ⟨A, cap, rfl⟩ := hv.form
  obtain ⟨A2, cap2, rfl⟩ := hu.form
  have H16 : Hid (∀ W, Calls Try.prog 16 #[.slice A l.length cap, Thv x (.slice A2 m.length cap2)] W (Back (.bool false) W)) := fun W => by
    have := great16 A l.length cap x A2 m.length cap2 W
    rwa [decide_eq_false (by omega)] at this
  have KP : Hid (juE c n x l m = 0 → Keep c n x l m) := fun h => keep_plain h
  obtain ⟨r, hr⟩ : ∃ r, juR c n x l m = r := ⟨_, rfl⟩
  obtain ⟨ch, hch⟩ : ∃ r, juCh c n x l m = r := ⟨_, rfl⟩
  obtain ⟨E, hE⟩ : ∃ r, juE c n x l m = r := ⟨_, rfl⟩
  obtain ⟨P, hP⟩ : ∃ r, juP c n x l m = r := ⟨_, rfl⟩
  have H17 : Hid (∀ W, Below w.heap.size w W → Calls Try.prog 17 #[Cdv c, .int .i64 n, .slice A l.length cap, Thv x (.slice A2 m.length cap2)] W fun e w' => (∃ A n c D, e = .returned (.tuple #[.agg #[.int .i64 r, .int .i64 ch, .slice A n c], .int .i64 E]) ∧ n = P.length ∧ RowO w' (.slice A n c) D ∧ OcR w' D ∧ D.map oP = P) ∧ Below W.heap.size W w') := fun W h => by
    refine (Judge_any c n x l m _ _ W (HV.out.up h) (HU.out.up h)).mono ?_
    rintro e w' ⟨⟨v', rfl, hv'⟩, hb⟩
    rw [hP] at hv'
    obtain ⟨A', c', D, rfl, h2, h3, h4, -⟩ := hv'
    exact ⟨⟨A', _, c', D, by rw [hr, hch, hE], by rw [← h4, List.length_map], h2, h3.ocR, h4⟩, hb⟩
  have H11 : Hid (∀ W, Below w.heap.size w W → Calls Try.prog 11 #[Cdv c, .int .i64 n, .int .i64 x.team, .slice A l.length cap] W (PrC c n x.team l W)) := fun W h => Protected_any c n x.team l _ W (HV.out.up h)
  have HEH := Lib.hid hE
  have ZP : Hid (E ≠ 0 → P = []) := fun h => by rw [← hP]; unfold juP; rw [hE, if_neg h]
  have K0 := Lib.hid (PaS.new w c x (.slice A2 m.length cap2))
  have HPP := Lib.hid hP
  have HRR := Lib.hid hr
  have HCC := Lib.hid hch
  have HVL := Lib.hid hv
  have hl20 := hl
  obtain ⟨Av, capv, hev, -, -, hcell⟩ := hv
  injection hev with ev1 _ ev3
  subst ev1 ev3
  have HR := Lib.hid hcell
  clear hu hr hch hE hP hcell
  obtain ⟨x1, x2, x3, x4, x5⟩ := x
  obtain ⟨f, t, s, e, p⟩ := c
  have H11 : Hid (∀ W, Below w.heap.size w W → Calls Try.prog 11 #[Cdv ⟨f, t, s, e, p⟩, .int .i64 n, .int .i64 x1, .slice A l.length cap] W (PrC ⟨f, t, s, e, p⟩ n x1 l W)) := H11.out
  go_enter Try.func5, Try.ntmps5
  go_upto_region 1 with fail
  generalize hwx : World.alloc (World.alloc w _) _ = wx
  have S : Hid (PaS w wx ⟨f, t, s, e, p⟩ ⟨x1, x2, x3, x4, x5⟩ (.slice A2 m.length cap2)) := by show PaS _ _ _ _ _; rw [← hwx]; exact K0.out
  clear hwx K0
  obtain ⟨-, ⟨a0, a1, a2, a3, a4⟩, c0, c1, c2, c3, c4, c5⟩ := S.out
  simp only at a0 a1 a2 a3 a4 c0 c1 c2 c3 c4
  go_upto_region 4 with (first
    | (go_at_call 16; (with_reducible refine (H16.out _).mono ?_); rintro e1 w1 ⟨rfl, hb1⟩; replace S := Lib.hid (S.out.up hb1); clear hb1 a0 a1 a2 a3 a4 c0 c1 c2 c3 c4 c5; obtain ⟨-, ⟨a0, a1, a2, a3, a4⟩, c0, c1, c2, c3, c4, c5⟩ := S.out; simp only at a0 a1 a2 a3 a4 c0 c1 c2 c3 c4)
    | (go_at_call 17; (with_reducible refine (H17.out _ (PaS.below S.out)).mono ?_); rintro e1 w2 ⟨⟨A5, n5, c5', D, rfl, hn5, hr5, ho5, hm5⟩, hb1⟩; have HN5 := Lib.hid hn5; have R5 := Lib.hid hr5; have O5 := Lib.hid ho5; have M5 := Lib.hid hm5; replace S := Lib.hid (S.out.up hb1); clear hn5 hr5 ho5 hm5 hb1 a0 a1 a2 a3 a4 c0 c1 c2 c3 c4 c5))
  generalize hwy : World.alloc w2 _ = wy
  have J3 : Hid (R3 wy w2.heap.size r ch (.slice A5 n5 c5')) := by show R3 _ _ _ _ _; rw [← hwy]; exact R3.new w2 r ch _
  have hby : Below w2.heap.size w2 wy := by rw [← hwy]; exact (Below.refl _ _).alloc (Nat.le_refl _) _
  replace S := Lib.hid (S.out.up hby)
  replace R5 := Lib.hid (R5.out.up hby)
  replace O5 := Lib.hid (O5.out.up hby)
  obtain ⟨pJ, hpJ⟩ : ∃ p, w2.heap.size = p := ⟨_, rfl⟩
  rw [hpJ] at J3
  rw [hpJ]
  clear hwy hby hpJ H16 H17
  obtain ⟨⟨j0, j1, j2⟩, -⟩ := J3.out.cells
  by_cases hE0 : E = 0
  · subst hE0
    have HK := Lib.hid (KP.out HEH.out)
    have hn0 : 0 < n5 := by have := HK.out.ne; rw [HPP.out] at this; rw [HN5.out]; exact this
    have hch1 : -1 ≤ ch ∧ ch ≤ 1 := by have := HK.out.ch; rw [HCC.out] at this; exact this
    have hone : ch < 0 → n5 = 1 := fun h => by have := HK.out.one (by rw [HCC.out]; exact h); rw [HPP.out] at this; rw [HN5.out]; exact this
    have HPE := Lib.hid HK.out.e
    have H11z : Hid (∀ W, Below w.heap.size w W → Calls Try.prog 11 #[Cdv ⟨f, t, s, e, p⟩, .int .i64 n, .int .i64 x1, .slice A l.length cap] W fun e' w' => (∃ A1 n1 c1 A2 n2 c2, e' = .returned (.tuple #[.slice A1 n1 c1, .slice A2 n2 c2, .int .i64 0]) ∧ OwnN W.heap.size w' (.slice A1 n1 c1) (wK (kpB ⟨f, t, s, e, p⟩ n x1) l l.length)) ∧ Below W.heap.size W w') := fun W h => by
      refine (H11.out W h).mono ?_
      rintro e' w' ⟨⟨A1, n1, c1, A2, n2, c2, rfl, h1, -⟩, hb⟩
      rw [HPE.out]
      unfold prK at h1
      rw [if_pos HPE.out] at h1
      exact ⟨⟨_, _, _, _, _, _, rfl, h1⟩, hb⟩
    clear H11 KP HPE ZP
    obtain ⟨-, ⟨a0, a1, a2, a3, a4⟩, t0, t1, t2, t3, t4, t5⟩ := S.out
    simp only at a0 a1 a2 a3 a4 t0 t1 t2 t3 t4
    go_upto_region 7 with (go_at_call 11; (with_reducible refine (H11z.out _ (PaS.below S.out)).mono ?_); rintro e1 w3 ⟨⟨A6, n6, c6', A7, n7, c7', rfl, hk6⟩, hb1⟩; have K6 := Lib.hid hk6; replace S := Lib.hid (S.out.up hb1); replace J3 := Lib.hid (J3.out.up hb1); replace R5 := Lib.hid (R5.out.up hb1); replace O5 := Lib.hid (O5.out.up hb1); clear hk6 hb1 a0 a1 a2 a3 a4 t0 t1 t2 t3 t4 t5 j0 j1 j2 H11z)
    obtain ⟨kl, hkl⟩ : ∃ k, wK (kpB ⟨f, t, s, e, p⟩ n x1) l l.length = k := ⟨_, rfl⟩
    rw [hkl] at K6
    have HKL : Hid (∀ j ∈ kl, ∃ h : j < l.length, kpB ⟨f, t, s, e, p⟩ n x1 (l[j]'h) = true) := fun j hj => by
      rw [← hkl, wK_mem (Nat.le_refl _)] at hj
      exact hj.2
    have HKN : Hid (kl.length ≤ 20) := by show _ ≤ _; rw [← hkl]; have := wK_len (kpB ⟨f, t, s, e, p⟩ n x1) l l.length; omega
    have HN6 : Hid (n6 = kl.length) := by
      obtain ⟨Ak, ck, hek, -⟩ := K6.out
      injection hek
    have KE : Hid (KeS w w3 ⟨f, t, s, e, p⟩ ⟨x1, x2, x3, x4, x5⟩ (.slice A2 m.length cap2) pJ r ch (.slice A5 n5 c5') D (.slice A6 n6 c6') kl) := ⟨S.out, J3.out, R5.out, O5.out, _, K6.out⟩
    clear hkl S J3 R5 O5 K6
    obtain ⟨⟨j0, j1, j2⟩, -⟩ := KE.out.2.1.cells
    obtain ⟨hc1, hc2⟩ := hch1
    have hn0' : ((n5 : Int) == 0) = false := by rw [beq_eq_false_iff_ne]; omega
    have hc1' : decide (ch < -1) = false := decide_eq_false (by omega)
    have hc2' : decide (1 < ch) = false := decide_eq_false (by omega)
    have HDN : Hid (D.length = n5) := by
      show _ = _
      have := congrArg List.length M5.out
      rw [List.length_map] at this
      rw [HN5.out]; exact this
    have QALL : Hid (∀ i (h : i < D.length), chkB (D[i]'h).l = true ∧ (D[i]'h).l.length ≤ l.length + 1 ∧ ∀ s ∈ (D[i]'h).l, eqK s.t s.n x1 x2 = true ∨ 0 ≤ fidx (isB s.t s.n) l) := fun i h => by
      have hq : oP (D[i]'h) ∈ juP ⟨f, t, s, e, p⟩ n ⟨x1, x2, x3, x4, x5⟩ l m := by rw [HPP.out, ← M5.out]; exact List.mem_map_of_mem (List.getElem_mem h)
      exact HK.out.all _ hq
    have QKEP : Hid (ch < 0 → ∀ i (h : i < D.length), (D[i]'h).g = false → ∀ s' ∈ l, kpB ⟨f, t, s, e, p⟩ n x1 s' = true → 0 ≤ fidx (isB s'.t s'.n) (D[i]'h).l) := fun hc i h hg s' hs' hkp => by
      have hq : oP (D[i]'h) ∈ juP ⟨f, t, s, e, p⟩ n ⟨x1, x2, x3, x4, x5⟩ l m := by rw [HPP.out, ← M5.out]; exact List.mem_map_of_mem (List.getElem_mem h)
      exact HK.out.kept (by rw [HCC.out]; exact hc) _ hq hg s' hs' hkp
    have QST : Hid (r ≠ 0 → D.any (fun q => smB q.l l) = true) := fun h => by
      obtain ⟨q, hq, hs⟩ := HK.out.still (by rw [HRR.out]; exact h)
      rw [HPP.out, ← M5.out] at hq
      obtain ⟨q', hq', rfl⟩ := List.mem_map.1 hq
      rw [List.any_eq_true]
      exact ⟨q', hq', hs⟩
    obtain ⟨cn, hcn'⟩ : ∃ q, decide (ch < 0) = q := ⟨_, rfl⟩
    have HON : Hid (cn = true → ((n5 : Int) != 1) = false) := fun h => by rw [hone (of_decide_eq_true (hcn'.trans h))]; rfl
    have HCN : Hid (cn = true → ch < 0) := fun h => of_decide_eq_true (hcn'.trans h)
    clear hone HK HPP HRR HCC M5 HN5 HEH
    go_cut [86] from 58 (fun bv wx => Hid (bv = .bool false) ∧ Hid (KeS w wx ⟨f, t, s, e, p⟩ ⟨x1, x2, x3, x4, x5⟩ (.slice A2 m.length cap2) pJ r ch (.slice A5 n5 c5') D (.slice A6 n6 c6') kl))
    case first =>
      cases cn
      · go_wp2_with fail
        go_meet
        exact ⟨rfl, KE⟩
      · have hn1 := HON.out (by trivial)
        go_wp2_with fail
        go_meet
        exact ⟨rfl, KE⟩
    case rest =>
      obtain ⟨hbv, hke⟩ := hcut
      have hbv := hbv.out
      subst hbv
      have KE : Hid (KeS w wc ⟨f, t, s, e, p⟩ ⟨x1, x2, x3, x4, x5⟩ (.slice A2 m.length cap2) pJ r ch (.slice A5 n5 c5') D (.slice A6 n6 c6') kl) := hke
      clear hke j0 j1 j2 hn0' hc1' hc2' HON
      obtain ⟨⟨j0, j1, j2⟩, -⟩ := KE.out.2.1.cells
      as_aux_lemma =>
        have ENDS : Hid (r = 0 ∨ D.any (fun q => smB q.l l) = true) := by
          by_cases h : r = 0
          · exact .inl h
          · exact .inr (QST.out h)
        go_upto_region 9 with fail
        clear j0 j1 j2
        go_wp2_with fail
        go_loopw [14, 15] (fun sv iv wr => ∃ i : Nat, i ≤ n5 ∧ Hid (sv = .bool ((D.take i).any (fun q => smB q.l l))) ∧ iv = .int .i64 i ∧ Hid (KeS w wr ⟨f, t, s, e, p⟩ ⟨x1, x2, x3, x4, x5⟩ (.slice A2 m.length cap2) pJ r ch (.slice A5 n5 c5') D (.slice A6 n6 c6') kl)) (fun _ iv _ => n5 - (intOf iv).toNat)
        case atStart => exact ⟨0, by omega, by show _ = _; simp, rfl, KE⟩
        case round => as_aux_lemma =>
          obtain ⟨i, hi, hsv, rfl, hke⟩ := hrel
          have hsv := hsv.out
          have KE : Hid (KeS w wr ⟨f, t, s, e, p⟩ ⟨x1, x2, x3, x4, x5⟩ (.slice A2 m.length cap2) pJ r ch (.slice A5 n5 c5') D (.slice A6 n6 c6') kl) := hke
          obtain ⟨sl, hsl⟩ : ∃ q, (D.take i).any (fun q => smB q.l l) = q := ⟨_, rfl⟩
          rw [hsl] at hsv
          subst hsv
          have HSL := Lib.hid hsl
          clear hke hsl
          obtain ⟨⟨j0, j1, j2⟩, -⟩ := KE.out.2.1.cells
          rename World => w4
          by_cases hlt : i < n5
          · have hlt' : (i : Int) < (n5 : Int) := by omega
            have hiD : i < D.length := by have := HDN.out; omega
            obtain ⟨Ad, capd, hed, -, ⟨hd48, -⟩, hcd⟩ := KE.out.2.2.1
            have hn48 : n5 ≤ 281474976710656 := by have := HDN.out; omega
            clear hd48
            injection hed with ed1 ed2 ed3
            obtain ⟨bd, od, hAd, hcd⟩ := hcd (by intro h; subst h; simp at hiD)
            obtain ⟨q0, q1⟩ := hcd i hiD
            have hA5 : A5 = some ⟨bd, od, none⟩ := by rw [ed1, hAd]
            have hqa := QALL.out i hiD
            have hqk := fun h => QKEP.out h i hiD
            have hor := KE.out.2.2.2.1 _ (List.getElem_mem hiD)
            have hstep : (D.take (i + 1)).any (fun q => smB q.l l) = (sl || smB (D[i]'hiD).l l) := by rw [List.take_succ_eq_append_getElem hiD, List.any_append, HSL.out]; simp
            obtain ⟨o, ho⟩ : ∃ o, D[i]'hiD = o := ⟨_, rfl⟩
            rw [ho] at q0 q1 hqa hqk hor hstep
            obtain ⟨Ao, co, hvo⟩ := hor.form
            obtain ⟨ov, ol, og⟩ := o
            simp only at hvo q0 q1 hqa hqk hor hstep
            subst hvo
            have HQA := Lib.hid hqa
            have HQK := Lib.hid hqk
            have HOR := Lib.hid hor
            have HSTEP := Lib.hid hstep
            clear ed1 ed2 ed3 hAd hcd hqa hqk hor hstep ho
            subst hA5
            go_upto_region 14 with fail
            generalize hw5 : World.alloc w4 _ = w5
            have hb5 : Below w4.heap.size w4 w5 := by rw [← hw5]; exact (Below.refl _ _).alloc (Nat.le_refl _) _
            have OA : Hid (OcAt w5 w4.heap.size 0 ⟨.slice Ao ol.length co, ol, og⟩) := by show OcAt _ _ _ _; rw [← hw5]; exact OcAt.new w4 ⟨.slice Ao ol.length co, ol, og⟩
            replace KE := Lib.hid (KE.out.up hb5)
            replace HOR := Lib.hid (HOR.out.up hb5)
            obtain ⟨po, hpo⟩ : ∃ p, w4.heap.size = p := ⟨_, rfl⟩
            rw [hpo] at OA
            rw [hpo]
            clear hw5 hb5 hpo q0 q1 j0 j1 j2
            obtain ⟨o0, o1⟩ := OA.out
            simp only [Nat.zero_add] at o0 o1
            have hle : (ol.length : Int) ≤ (l.length : Int) + 1 := by have := HQA.out.2.1; omega
            have hol21 : ol.length ≤ 21 := by have := HQA.out.2.1; omega
            obtain ⟨sq, hsq⟩ : ∃ q, ((ol.length : Int) == (l.length : Int)) = q := ⟨_, rfl⟩
            have HSQ : Hid ((ol.length == l.length) = sq) := by
              show _ = _
              rw [← hsq, Bool.eq_iff_iff]; simp; omega
            go_upto_region 16 with (go_at_call 22; (with_reducible refine (refCheck ol _ _ HOR.out).mono ?_); rintro e1 w6 ⟨rfl, hb1⟩; rw [HQA.out.1]; replace KE := Lib.hid (KE.out.up hb1); replace HOR := Lib.hid (HOR.out.up hb1); replace OA := Lib.hid (OA.out.up hb1); clear hb1 o0 o1; obtain ⟨o0, o1⟩ := OA.out; simp only [Nat.zero_add] at o0 o1)
            clear hsq o0 o1
            go_wp2_with fail
            have SA0 : Hid (sq = (sq && (l.take 0).all (fun s' => ol.any (fun s'' => eqS s'' s')))) := by show _ = _; simp
            go_loopw [18, 19] (fun mv kv wr => ∃ k : Nat, k ≤ l.length ∧ Hid (mv = .bool (sq && (l.take k).all (fun s' => ol.any (fun s'' => eqS s'' s')))) ∧ kv = .int .i64 k ∧ Hid (KeS w wr ⟨f, t, s, e, p⟩ ⟨x1, x2, x3, x4, x5⟩ (.slice A2 m.length cap2) pJ r ch (.slice (some ⟨bd, od, none⟩) n5 c5') D (.slice A6 n6 c6') kl) ∧ Hid (RowS wr (.slice Ao ol.length co) ol) ∧ Hid (OcAt wr po 0 ⟨.slice Ao ol.length co, ol, og⟩)) (fun _ kv _ => l.length - (intOf kv).toNat)
            case atStart => exact ⟨0, by omega, by show _ = _; rw [← SA0.out], rfl, KE, HOR, OA⟩
            case round => as_aux_lemma =>
              obtain ⟨k, hk, hmv, rfl, hke, hhor, hoa⟩ := hrel
              have hmv := hmv.out
              have KE : Hid (KeS w wr ⟨f, t, s, e, p⟩ ⟨x1, x2, x3, x4, x5⟩ (.slice A2 m.length cap2) pJ r ch (.slice (some ⟨bd, od, none⟩) n5 c5') D (.slice A6 n6 c6') kl) := hke
              have HOR : Hid (RowS wr (.slice Ao ol.length co) ol) := hhor
              have OA : Hid (OcAt wr po 0 ⟨.slice Ao ol.length co, ol, og⟩) := hoa
              obtain ⟨sm, hsm⟩ : ∃ q, (sq && (l.take k).all (fun s' => ol.any (fun s'' => eqS s'' s'))) = q := ⟨_, rfl⟩
              rw [hsm] at hmv
              subst hmv
              have HSM := Lib.hid hsm
              clear hke hhor hoa hsm
              by_cases hkl : k < l.length
              · have hkl' : (k : Int) < (l.length : Int) := by omega
                obtain ⟨b, o, rfl, hc⟩ := HR.out (by intro h; subst h; simp at hkl)
                have S4 := Lib.hid ((hc k hkl).up KE.out.1.1)
                have hst : (sq && (l.take (k + 1)).all (fun s' => ol.any (fun s'' => eqS s'' s'))) = (sm && ol.any (fun s'' => eqS s'' (l[k]'hkl))) := by
                  rw [List.take_succ_eq_append_getElem hkl, List.all_append, ← Bool.and_assoc, HSM.out]; simp
                obtain ⟨y, hy⟩ : ∃ y, l[k]'hkl = y := ⟨_, rfl⟩
                rw [hy] at S4 hst
                obtain ⟨hq, hhq⟩ : ∃ q, ol.any (fun s'' => eqS s'' y) = q := ⟨_, rfl⟩
                rw [hhq] at hst
                have HST := Lib.hid hst
                have G23 : Hid (∀ X : BW wr, Calls Try.prog 23 #[.slice Ao ol.length co, Stv y] X.to (Back (.bool hq) X.to)) := fun X => by rw [← hhq]; exact has23 ol y _ X.to (HOR.out.up X.same)
                obtain ⟨y1, y2, y3, y4⟩ := y
                clear hy hst hhq hc
                obtain ⟨o0, o1⟩ := OA.out
                obtain ⟨a0, a1, a2, a3⟩ := S4.out
                simp only [Nat.zero_add] at o0 o1 a0 a1 a2 a3
                cases sm
                all_goals
                  go_upto_region 19 with fail
                  have Eo0 := fun X : BW _ => upc o0 X.same
                  have Eo1 := fun X : BW _ => upc o1 X.same
                  have Ea0 := fun X : BW _ => upc a0 X.same
                  have Ea1 := fun X : BW _ => upc a1 X.same
                  have Ea2 := fun X : BW _ => upc a2 X.same
                  have Ea3 := fun X : BW _ => upc a3 X.same
                  clear o0 o1 a0 a1 a2 a3
                  refine wp_region_quietB (by kernel_rfl) (by kernel_rfl) ?_
                  repeat (go_big_quiet_step ((go_at_call 23; exact quietB (G23.out _))))
                  refine wpQuiet_nil ?_
                  rintro wz ⟨⟨wu, hbu⟩, rfl⟩
                  replace KE := Lib.hid (KE.out.up hbu)
                  replace HOR := Lib.hid (HOR.out.up hbu)
                  replace OA := Lib.hid (OA.out.up hbu)
                  clear hbu Eo0 Eo1 Ea0 Ea1 Ea2 Ea3
                  go_wp2_with fail
                  go_roundw
                  case rel => exact ⟨k + 1, by omega, by show _ = _; rw [HST.out]; simp, by go_num, KE, HOR, OA⟩
                  case measure => simp [intOf]; omega
              · obtain rfl : k = l.length := by omega
                rw [List.take_length] at HSM
                have HSTEP2 : Hid ((D.take (i + 1)).any (fun q => smB q.l l) = (sl || sm)) := by
                  show _ = _
                  rw [HSTEP.out, ← HSM.out]
                  unfold smB
                  rw [HSQ.out]
                clear HSM HSTEP
                obtain ⟨st, hst⟩ : ∃ q, (sl || sm) = q := ⟨_, rfl⟩
                rw [hst] at HSTEP2
                have HST := Lib.hid hst
                clear hst
                go_upto_region 20 with fail
                go_cut [14] from 133 to 250 (fun sv wx => Hid (sv = .bool st) ∧ Hid (KeS w wx ⟨f, t, s, e, p⟩ ⟨x1, x2, x3, x4, x5⟩ (.slice A2 m.length cap2) pJ r ch (.slice (some ⟨bd, od, none⟩) n5 c5') D (.slice A6 n6 c6') kl) ∧ Hid (RowS wx (.slice Ao ol.length co) ol) ∧ Hid (OcAt wx po 0 ⟨.slice Ao ol.length co, ol, og⟩))
                case first =>
                  cases sl
                  all_goals
                    go_wp2_with fail
                    go_meet
                    exact ⟨by show _ = _; rw [← HST.out]; rfl, KE, HOR, OA⟩
                case rest =>
                  obtain ⟨hsv, hke, hhor, hoa⟩ := hcut
                  have hsv := hsv.out
                  subst hsv
                  have KE : Hid (KeS w wc ⟨f, t, s, e, p⟩ ⟨x1, x2, x3, x4, x5⟩ (.slice A2 m.length cap2) pJ r ch (.slice (some ⟨bd, od, none⟩) n5 c5') D (.slice A6 n6 c6') kl) := hke
                  have HOR : Hid (RowS wc (.slice Ao ol.length co) ol) := hhor
                  have OA : Hid (OcAt wc po 0 ⟨.slice Ao ol.length co, ol, og⟩) := hoa
                  clear hke hhor hoa HST
                  go_wp2_with fail
                  go_loopw [17, 20] (fun av kv wr => ∃ k : Nat, k ≤ ol.length ∧ av = .bool true ∧ kv = .int .i64 k ∧ Hid (KeS w wr ⟨f, t, s, e, p⟩ ⟨x1, x2, x3, x4, x5⟩ (.slice A2 m.length cap2) pJ r ch (.slice (some ⟨bd, od, none⟩) n5 c5') D (.slice A6 n6 c6') kl) ∧ Hid (RowS wr (.slice Ao ol.length co) ol) ∧ Hid (OcAt wr po 0 ⟨.slice Ao ol.length co, ol, og⟩)) (fun _ kv _ => ol.length - (intOf kv).toNat)
                  case atStart => exact ⟨0, by omega, rfl, rfl, KE, HOR, OA⟩
                  case round => as_aux_lemma =>
                    obtain ⟨k, hk, rfl, rfl, hke, hhor, hoa⟩ := hrel
                    have KE : Hid (KeS w wr ⟨f, t, s, e, p⟩ ⟨x1, x2, x3, x4, x5⟩ (.slice A2 m.length cap2) pJ r ch (.slice (some ⟨bd, od, none⟩) n5 c5') D (.slice A6 n6 c6') kl) := hke
                    have HOR : Hid (RowS wr (.slice Ao ol.length co) ol) := hhor
                    have OA : Hid (OcAt wr po 0 ⟨.slice Ao ol.length co, ol, og⟩) := hoa
                    clear hke hhor hoa
                    obtain ⟨o0, o1⟩ := OA.out
                    simp only [Nat.zero_add] at o0 o1
                    by_cases hkl : k < ol.length
                    · have hkl' : (k : Int) < (ol.length : Int) := by omega
                      obtain ⟨Ao', co', heo, -, -, hco⟩ := HOR.out
                      injection heo with eo1 eo2 eo3
                      obtain ⟨b, o, hAo, hco⟩ := hco (by intro h; subst h; simp at hkl)
                      have hAoo : Ao = some ⟨b, o, none⟩ := by rw [eo1, hAo]
                      have S4 := Lib.hid (hco k hkl)
                      have hin := HQA.out.2.2 _ (List.getElem_mem hkl)
                      obtain ⟨y, hy⟩ : ∃ y, ol[k]'hkl = y := ⟨_, rfl⟩
                      rw [hy] at S4 hin
                      obtain ⟨F, hF⟩ : ∃ F, fidx (isB y.t y.n) l = F := ⟨_, rfl⟩
                      have G24 : Hid (∀ X : BW wr, Calls Try.prog 24 #[.slice A l.length cap, .int .i64 y.t, .int .i64 y.n] X.to (Back (findR y.t y.n l) X.to)) := fun X => refFind y.t y.n l _ X.to (HVL.out.up (KE.out.1.1.trans (X.same.mono KE.out.1.1.size)))
                      have hlt2 := fidx_lt (isB y.t y.n) l
                      rw [hF] at hin hlt2
                      obtain ⟨q1, hq1⟩ : ∃ q, (y.t == x1) = q := ⟨_, rfl⟩
                      obtain ⟨q2, hq2⟩ : ∃ q, (y.n == x2) = q := ⟨_, rfl⟩
                      have hown : eqK y.t y.n x1 x2 = (q1 && q2) := by unfold eqK; rw [hq1, hq2]
                      rw [hown] at hin
                      have HIN := Lib.hid hin
                      have HLT2 := Lib.hid hlt2
                      clear eo1 eo2 eo3 hAo hco hy hown hin hlt2
                      subst hAoo
                      by_cases hF0 : F < 0
                      · have hfr : findR y.t y.n l = .tuple #[.int .i64 0, .int .i64 7] := by unfold findR; rw [hF, if_pos hF0]
                        rw [hfr] at G24
                        obtain rfl : q1 = true := by
                          rcases HIN.out with h | h
                          · cases q1
                            · cases h
                            · rfl
                          · omega
                        obtain rfl : q2 = true := by
                          rcases HIN.out with h | h
                          · cases q2
                            · cases h
                            · rfl
                          · omega
                        clear hF hfr hF0
                        obtain ⟨y1, y2, y3, y4⟩ := y
                        simp only at G24 hq1 hq2
                        obtain ⟨a0, a1, a2, a3⟩ := S4.out
                        obtain ⟨-, -, t0, t1, t2, t3, t4, t5⟩ := KE.out.1
                        simp only at a0 a1 a2 a3 t0 t1 t2 t3 t4
                        go_upto_region 24 with fail
                        clear t0 t1 t2 t3 t4 t5
                        have Eo0 := fun X : BW _ => upc o0 X.same
                        have Eo1 := fun X : BW _ => upc o1 X.same
                        have Ea0 := fun X : BW _ => upc a0 X.same
                        have Ea1 := fun X : BW _ => upc a1 X.same
                        have Ea2 := fun X : BW _ => upc a2 X.same
                        have Ea3 := fun X : BW _ => upc a3 X.same
                        clear o0 o1 a0 a1 a2 a3
                        refine wp_region_quietB (by kernel_rfl) (by kernel_rfl) ?_
                        repeat (go_big_quiet_step ((go_at_call 24; exact quietB (G24.out _))))
                        refine wpQuiet_nil ?_
                        rintro wz ⟨⟨wu, hbu⟩, rfl⟩
                        replace KE := Lib.hid (KE.out.up hbu)
                        replace HOR := Lib.hid (HOR.out.up hbu)
                        replace OA := Lib.hid (OA.out.up hbu)
                        replace S4 := Lib.hid (S4.out.up hbu)
                        clear hbu Eo0 Eo1 Ea0 Ea1 Ea2 Ea3
                        obtain ⟨a0, a1, a2, a3⟩ := S4.out
                        obtain ⟨-, -, t0, t1, t2, t3, t4, t5⟩ := KE.out.1
                        obtain ⟨o0, o1⟩ := OA.out
                        simp only [Nat.zero_add] at a0 a1 a2 a3 t0 t1 t2 t3 t4 o0 o1
                        go_upto_region 25 with fail
                        have Eo0 := fun X : BW _ => upc o0 X.same
                        have Eo1 := fun X : BW _ => upc o1 X.same
                        have Ea0 := fun X : BW _ => upc a0 X.same
                        have Ea1 := fun X : BW _ => upc a1 X.same
                        have Ea2 := fun X : BW _ => upc a2 X.same
                        have Ea3 := fun X : BW _ => upc a3 X.same
                        have Et0 := fun X : BW _ => upc t0 X.same
                        have Et1 := fun X : BW _ => upc t1 X.same
                        have Et2 := fun X : BW _ => upc t2 X.same
                        have Et3 := fun X : BW _ => upc t3 X.same
                        have Et4 := fun X : BW _ => upc t4 X.same
                        have Et5 := fun X : BW _ => upc t5 X.same
                        clear o0 o1 a0 a1 a2 a3 t0 t1 t2 t3 t4 t5
                        refine wp_region_quietB (by kernel_rfl) (by kernel_rfl) ?_
                        repeat (go_big_quiet_step (fail))
                        refine wpQuiet_nil ?_
                        rintro wz ⟨⟨wu, hbu⟩, rfl⟩
                        replace KE := Lib.hid (KE.out.up hbu)
                        replace HOR := Lib.hid (HOR.out.up hbu)
                        replace OA := Lib.hid (OA.out.up hbu)
                        clear hbu Eo0 Eo1 Ea0 Ea1 Ea2 Ea3 Et0 Et1 Et2 Et3 Et4 Et5
                        clear S4
                        go_wp2_with fail
                        go_roundw
                        case rel => exact ⟨k + 1, by omega, rfl, by go_num, KE, HOR, OA⟩
                        case measure => simp [intOf]; omega
                      · have hfr : findR y.t y.n l = .tuple #[.int .i64 F, .int .i64 0] := by unfold findR; rw [hF, if_neg hF0]
                        rw [hfr] at G24
                        have hFl : F < (l.length : Int) := by
                          rcases HLT2.out with h | h
                          · exact h
                          · exfalso
                            rw [h] at hF
                            have : F = -1 := by rw [← hF]; rfl
                            omega
                        have hFl' : decide (F < (l.length : Int)) = true := decide_eq_true hFl
                        clear hF hfr hF0
                        obtain ⟨y1, y2, y3, y4⟩ := y
                        simp only at G24 hq1 hq2
                        cases q1
                        · have qq : Hid True := trivial
                          obtain ⟨a0, a1, a2, a3⟩ := S4.out
                          obtain ⟨-, -, t0, t1, t2, t3, t4, t5⟩ := KE.out.1
                          simp only at a0 a1 a2 a3 t0 t1 t2 t3 t4
                          go_upto_region 24 with fail
                          clear t0 t1 t2 t3 t4 t5
                          have Eo0 := fun X : BW _ => upc o0 X.same
                          have Eo1 := fun X : BW _ => upc o1 X.same
                          have Ea0 := fun X : BW _ => upc a0 X.same
                          have Ea1 := fun X : BW _ => upc a1 X.same
                          have Ea2 := fun X : BW _ => upc a2 X.same
                          have Ea3 := fun X : BW _ => upc a3 X.same
                          clear o0 o1 a0 a1 a2 a3
                          refine wp_region_quietB (by kernel_rfl) (by kernel_rfl) ?_
                          repeat (go_big_quiet_step ((go_at_call 24; exact quietB (G24.out _))))
                          refine wpQuiet_nil ?_
                          rintro wz ⟨⟨wu, hbu⟩, rfl⟩
                          replace KE := Lib.hid (KE.out.up hbu)
                          replace HOR := Lib.hid (HOR.out.up hbu)
                          replace OA := Lib.hid (OA.out.up hbu)
                          replace S4 := Lib.hid (S4.out.up hbu)
                          clear hbu Eo0 Eo1 Ea0 Ea1 Ea2 Ea3
                          obtain ⟨a0, a1, a2, a3⟩ := S4.out
                          obtain ⟨-, -, t0, t1, t2, t3, t4, t5⟩ := KE.out.1
                          obtain ⟨o0, o1⟩ := OA.out
                          simp only [Nat.zero_add] at a0 a1 a2 a3 t0 t1 t2 t3 t4 o0 o1
                          go_upto_region 25 with fail
                          have Eo0 := fun X : BW _ => upc o0 X.same
                          have Eo1 := fun X : BW _ => upc o1 X.same
                          have Ea0 := fun X : BW _ => upc a0 X.same
                          have Ea1 := fun X : BW _ => upc a1 X.same
                          have Ea2 := fun X : BW _ => upc a2 X.same
                          have Ea3 := fun X : BW _ => upc a3 X.same
                          have Et0 := fun X : BW _ => upc t0 X.same
                          have Et1 := fun X : BW _ => upc t1 X.same
                          have Et2 := fun X : BW _ => upc t2 X.same
                          have Et3 := fun X : BW _ => upc t3 X.same
                          have Et4 := fun X : BW _ => upc t4 X.same
                          have Et5 := fun X : BW _ => upc t5 X.same
                          clear o0 o1 a0 a1 a2 a3 t0 t1 t2 t3 t4 t5
                          refine wp_region_quietB (by kernel_rfl) (by kernel_rfl) ?_
                          repeat (go_big_quiet_step (fail))
                          refine wpQuiet_nil ?_
                          rintro wz ⟨⟨wu, hbu⟩, rfl⟩
                          replace KE := Lib.hid (KE.out.up hbu)
                          replace HOR := Lib.hid (HOR.out.up hbu)
                          replace OA := Lib.hid (OA.out.up hbu)
                          clear hbu Eo0 Eo1 Ea0 Ea1 Ea2 Ea3 Et0 Et1 Et2 Et3 Et4 Et5
                          clear S4
                          go_wp2_with fail
                          go_roundw
                          case rel => exact ⟨k + 1, by omega, rfl, by go_num, KE, HOR, OA⟩
                          case measure => simp [intOf]; omega
                        · cases q2
                          all_goals
                            obtain ⟨a0, a1, a2, a3⟩ := S4.out
                            obtain ⟨-, -, t0, t1, t2, t3, t4, t5⟩ := KE.out.1
                            simp only at a0 a1 a2 a3 t0 t1 t2 t3 t4
                            go_upto_region 24 with fail
                            clear t0 t1 t2 t3 t4 t5
                            have Eo0 := fun X : BW _ => upc o0 X.same
                            have Eo1 := fun X : BW _ => upc o1 X.same
                            have Ea0 := fun X : BW _ => upc a0 X.same
                            have Ea1 := fun X : BW _ => upc a1 X.same
                            have Ea2 := fun X : BW _ => upc a2 X.same
                            have Ea3 := fun X : BW _ => upc a3 X.same
                            clear o0 o1 a0 a1 a2 a3
                            refine wp_region_quietB (by kernel_rfl) (by kernel_rfl) ?_
                            repeat (go_big_quiet_step ((go_at_call 24; exact quietB (G24.out _))))
                            refine wpQuiet_nil ?_
                            rintro wz ⟨⟨wu, hbu⟩, rfl⟩
                            replace KE := Lib.hid (KE.out.up hbu)
                            replace HOR := Lib.hid (HOR.out.up hbu)
                            replace OA := Lib.hid (OA.out.up hbu)
                            replace S4 := Lib.hid (S4.out.up hbu)
                            clear hbu Eo0 Eo1 Ea0 Ea1 Ea2 Ea3
                            obtain ⟨a0, a1, a2, a3⟩ := S4.out
                            obtain ⟨-, -, t0, t1, t2, t3, t4, t5⟩ := KE.out.1
                            obtain ⟨o0, o1⟩ := OA.out
                            simp only [Nat.zero_add] at a0 a1 a2 a3 t0 t1 t2 t3 t4 o0 o1
                            go_upto_region 25 with fail
                            have Eo0 := fun X : BW _ => upc o0 X.same
                            have Eo1 := fun X : BW _ => upc o1 X.same
                            have Ea0 := fun X : BW _ => upc a0 X.same
                            have Ea1 := fun X : BW _ => upc a1 X.same
                            have Ea2 := fun X : BW _ => upc a2 X.same
                            have Ea3 := fun X : BW _ => upc a3 X.same
                            have Et0 := fun X : BW _ => upc t0 X.same
                            have Et1 := fun X : BW _ => upc t1 X.same
                            have Et2 := fun X : BW _ => upc t2 X.same
                            have Et3 := fun X : BW _ => upc t3 X.same
                            have Et4 := fun X : BW _ => upc t4 X.same
                            have Et5 := fun X : BW _ => upc t5 X.same
                            clear o0 o1 a0 a1 a2 a3 t0 t1 t2 t3 t4 t5
                            refine wp_region_quietB (by kernel_rfl) (by kernel_rfl) ?_
                            repeat (go_big_quiet_step (fail))
                            refine wpQuiet_nil ?_
                            rintro wz ⟨⟨wu, hbu⟩, rfl⟩
                            replace KE := Lib.hid (KE.out.up hbu)
                            replace HOR := Lib.hid (HOR.out.up hbu)
                            replace OA := Lib.hid (OA.out.up hbu)
                            clear hbu Eo0 Eo1 Ea0 Ea1 Ea2 Ea3 Et0 Et1 Et2 Et3 Et4 Et5
                            clear S4
                            go_wp2_with fail
                            go_roundw
                            case rel => exact ⟨k + 1, by omega, rfl, by go_num, KE, HOR, OA⟩
                            case measure => simp [intOf]; omega
                    · obtain rfl : k = ol.length := by omega
                      obtain ⟨⟨j0, j1, j2⟩, -⟩ := KE.out.2.1.cells
                      go_wp2_with fail
                      clear o0 o1 j0 j1 j2
                      go_loopw [24] (fun kv wr => ∃ k : Nat, k ≤ kl.length ∧ kv = .int .i64 k ∧ Hid (KeS w wr ⟨f, t, s, e, p⟩ ⟨x1, x2, x3, x4, x5⟩ (.slice A2 m.length cap2) pJ r ch (.slice (some ⟨bd, od, none⟩) n5 c5') D (.slice A6 n6 c6') kl) ∧ Hid (RowS wr (.slice Ao ol.length co) ol) ∧ Hid (OcAt wr po 0 ⟨.slice Ao ol.length co, ol, og⟩)) (fun kv _ => kl.length - (intOf kv).toNat)
                      case atStart => exact ⟨0, by omega, rfl, KE, HOR, OA⟩
                      case round => as_aux_lemma =>
                        obtain ⟨k, hk, rfl, hke, hhor, hoa⟩ := hrel
                        have KE : Hid (KeS w wr ⟨f, t, s, e, p⟩ ⟨x1, x2, x3, x4, x5⟩ (.slice A2 m.length cap2) pJ r ch (.slice (some ⟨bd, od, none⟩) n5 c5') D (.slice A6 n6 c6') kl) := hke
                        have HOR : Hid (RowS wr (.slice Ao ol.length co) ol) := hhor
                        have OA : Hid (OcAt wr po 0 ⟨.slice Ao ol.length co, ol, og⟩) := hoa
                        clear hke hhor hoa
                        obtain ⟨o0, o1⟩ := OA.out
                        simp only [Nat.zero_add] at o0 o1
                        obtain ⟨⟨j0, j1, j2⟩, -⟩ := KE.out.2.1.cells
                        by_cases hkl : k < kl.length
                        · have hkl' : (k : Int) < (n6 : Int) := by have := HN6.out; omega
                          have hk20 : kl.length ≤ 20 := HKN.out
                          have hk1 : decide ((k : Int) < (n6 : Int)) = true := decide_eq_true hkl'
                          cases cn
                          · go_wp2_with fail
                            go_roundw
                            case rel => exact ⟨i + 1, by omega, by show _ = _; rw [HSTEP2.out], by go_num, KE⟩
                            case measure => simp [intOf]; omega
                          · cases og
                            · obtain ⟨bN, Ak, ck, hek, hkc, hkm, -, hkr⟩ := KE.out.2.2.2.2
                              injection hek with ek1 ek2 ek3
                              obtain ⟨g6, hg6, -, hri⟩ := hkr (by intro h; subst h; simp at hkl)
                              have hA6 : A6 = some ⟨g6, 0, none⟩ := by rw [ek1, hg6]
                              have n0 := (hri k hkl).1
                              obtain ⟨hjl, hkp⟩ := HKL.out _ (List.getElem_mem hkl)
                              obtain ⟨j, hj⟩ : ∃ j, kl[k]'hkl = j := ⟨_, rfl⟩
                              have hfd := HQK.out (HCN.out (by trivial)) rfl _ (List.getElem_mem hjl) hkp
                              clear hkp ek1 ek2 ek3 hg6 hkr hri hkc hkm
                              obtain ⟨b, o, hAl, hc⟩ := HR.out (by intro h; subst h; simp at hjl)
                              have S4 := Lib.hid ((hc _ hjl).up KE.out.1.1)
                              obtain ⟨y, hy⟩ : ∃ y, l[kl[k]'hkl]'hjl = y := ⟨_, rfl⟩
                              rw [hy] at S4 hfd
                              rw [hj] at n0 S4 hjl
                              obtain ⟨a0, a1, a2, a3⟩ := S4.out
                              obtain ⟨F, hF⟩ : ∃ F, fidx (isB y.t y.n) ol = F := ⟨_, rfl⟩
                              have hfr : findR y.t y.n ol = .tuple #[.int .i64 F, .int .i64 0] := by rw [findR_pos hfd, hF]
                              have G24 : Hid (∀ X : BW wr, Calls Try.prog 24 #[.slice Ao ol.length co, .int .i64 y.t, .int .i64 y.n] X.to (Back (.tuple #[.int .i64 F, .int .i64 0]) X.to)) := fun X => by rw [← hfr]; exact refFind y.t y.n ol _ X.to (HOR.out.up X.same)
                              obtain ⟨y1, y2, y3, y4⟩ := y
                              have hj1 : (j : Int) < (l.length : Int) := by omega
                              have hj0 : ¬ (j : Int) < 0 := by omega
                              have hj0' : decide ((j : Int) < 0) = false := decide_eq_false hj0
                              have hj1' : decide ((l.length : Int) ≤ (j : Int)) = false := decide_eq_false (by omega)
                              simp only at a0 a1 a2 a3 n0 G24
                              clear hy hj hfd hF hfr hc
                              subst hA6 hAl
                              go_upto_region 34 with fail
                              clear j0 j1 j2 o1
                              have Eo0 := fun X : BW _ => upc o0 X.same
                              have Ea0 := fun X : BW _ => upc a0 X.same
                              have Ea1 := fun X : BW _ => upc a1 X.same
                              have Ea2 := fun X : BW _ => upc a2 X.same
                              have Ea3 := fun X : BW _ => upc a3 X.same
                              have En0 := fun X : BW _ => upc n0 X.same
                              clear o0 a0 a1 a2 a3 n0
                              refine wp_region_quietB (by kernel_rfl) (by kernel_rfl) ?_
                              repeat (go_big_quiet_step ((go_at_call 24; exact quietB (G24.out _))))
                              refine wpQuiet_nil ?_
                              rintro wz ⟨⟨wu, hbu⟩, rfl⟩
                              replace KE := Lib.hid (KE.out.up hbu)
                              replace HOR := Lib.hid (HOR.out.up hbu)
                              replace OA := Lib.hid (OA.out.up hbu)
                              clear hbu Eo0 Ea0 Ea1 Ea2 Ea3 En0
                              go_wp2_with fail
                              go_roundw
                              case rel => exact ⟨k + 1, by omega, by go_num, KE, HOR, OA⟩
                              case measure => simp [intOf]; omega
                            · go_wp2_with fail
                              go_roundw
                              case rel => exact ⟨i + 1, by omega, by show _ = _; rw [HSTEP2.out], by go_num, KE⟩
                              case measure => simp [intOf]; omega
                        · obtain rfl : k = kl.length := by omega
                          have hkn : ¬ (kl.length : Int) < (n6 : Int) := by have := HN6.out; omega
                          have hkn' : decide ((kl.length : Int) < (n6 : Int)) = false := decide_eq_false hkn
                          go_wp2_with fail
                          go_roundw
                          case rel => exact ⟨i + 1, by omega, by show _ = _; rw [HSTEP2.out], by go_num, KE⟩
                          case measure => simp [intOf]; omega
          · obtain rfl : n5 = i := by omega
            have hD2 : D.take n5 = D := by rw [← HDN.out]; exact List.take_length
            rw [hD2] at HSL
            have hr0 : (r == 0) = true ∨ sl = true := by
              rcases ENDS.out with h | h
              · exact .inl (by simpa using h)
              · exact .inr (by rw [← HSL.out]; exact h)
            clear hD2
            rcases hr0 with hr0 | rfl
            · cases sl
              all_goals
                go_wp2_with (go_at_call 8; refine (awake_any _).mono ?_; rintro e1 w1 ⟨rfl, hb1⟩; replace KE := Lib.hid (KE.out.up hb1); clear hb1)
                go_ret
                exact ⟨rfl, KE.out.1.1⟩
            · go_wp2_with (go_at_call 8; refine (awake_any _).mono ?_; rintro e1 w1 ⟨rfl, hb1⟩; replace KE := Lib.hid (KE.out.up hb1); clear hb1)
              go_ret
              exact ⟨rfl, KE.out.1.1⟩
  · have hE1 : (E != 0) = true := by simpa using hE0
    obtain rfl : n5 = 0 := by rw [HN5.out, ZP.out hE0]; rfl
    go_wp2_with (go_at_call 8; refine (awake_any _).mono ?_; rintro e1 w1 ⟨rfl, hb1⟩; replace S := Lib.hid (S.out.up hb1); clear hb1)
    go_ret
    exact ⟨rfl, S.out.1⟩
set_option maxRecDepth 100000 in
set_option maxHeartbeats 4000000 in
theorem Keep_big (c : Cd) (n : Int) (x : Th) (A : Option Addr) (n1 cap : Nat) (A2 : Option Addr) (n2 cap2 : Nat) (w : World) (h : 20 < n1 ∨ 20 < n2) : Calls Try.prog 5 #[Cdv c, .int .i64 n, .slice A n1 cap, Thv x (.slice A2 n2 cap2)] w (Back (.bool true) w) := by
  have H16 : Hid (∀ W, Calls Try.prog 16 #[.slice A n1 cap, Thv x (.slice A2 n2 cap2)] W (Back (.bool true) W)) := fun W => by
    have := great16 A n1 cap x A2 n2 cap2 W
    rwa [decide_eq_true h] at this
  have K0 := Lib.hid (PaS.new w c x (.slice A2 n2 cap2))
  obtain ⟨x1, x2, x3, x4, x5⟩ := x
  obtain ⟨f, t, s, e, p⟩ := c
  clear h
  go_enter Try.func5, Try.ntmps5
  go_upto_region 1 with fail
  generalize hwx : World.alloc (World.alloc w _) _ = wx
  have S : Hid (PaS w wx ⟨f, t, s, e, p⟩ ⟨x1, x2, x3, x4, x5⟩ (.slice A2 n2 cap2)) := by show PaS _ _ _ _ _; rw [← hwx]; exact K0.out
  clear hwx K0
  obtain ⟨-, -, c0, c1, c2, c3, c4, c5⟩ := S.out
  simp only at c0 c1 c2 c3 c4
  go_wp2_with (first
    | (go_at_call 16; (with_reducible refine (H16.out _).mono ?_); rintro e1 w1 ⟨rfl, hb1⟩; replace S := Lib.hid (S.out.up hb1); clear hb1 c0 c1 c2 c3 c4 c5)
    | (go_at_call 8; refine (awake_any _).mono ?_; rintro e1 w1 ⟨rfl, hb1⟩; replace S := Lib.hid (S.out.up hb1); clear hb1))
  go_ret
  exact ⟨rfl, S.out.1⟩
theorem Keep_law (c : Cd) (n : Int) (A : Option Addr) (n1 cap : Nat) (x : Th) (A2 : Option Addr) (n2 cap2 : Nat) (w : World) (h1 : n1 ≤ 281474976710656 → ∃ l : List St, l.length = n1 ∧ RowS w (.slice A n1 cap) l) (_ : thWf x) (h2 : n2 ≤ 281474976710656 → ∃ l : List St, l.length = n2 ∧ RowS w (.slice A2 n2 cap2) l) :
    Calls Try.prog 5 #[Cdv c, .int .i64 n, .slice A n1 cap, Thv x (.slice A2 n2 cap2)] w (Back (.bool true) w) := by
  by_cases h : 20 < n1 ∨ 20 < n2
  · exact Keep_big c n x A n1 cap A2 n2 cap2 w h
  · obtain ⟨l, hl, hr⟩ := h1 (by omega)
    obtain ⟨m, hm, hr2⟩ := h2 (by omega)
    exact Keep_any c n x l m _ _ w hr hr2 (by omega) (by omega)
end Go.Proofs.Ytomcpgdpjpjioaa
