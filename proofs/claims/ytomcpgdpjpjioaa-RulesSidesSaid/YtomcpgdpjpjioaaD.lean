/- Lists of stones in memory; contracts: IndexFunc over stones, pair, Overlap, Find. -/
import Derived.Test.YtomcpgdpjpjioaaC
import Derived.Shelf.Abstract
namespace Go.Proofs.Ytomcpgdpjpjioaa
open Go.RowKit Go.Proofs Go.Shelf

/-- A stone. -/
structure St where
  t : Int
  n : Int
  x : Int
  y : Int
abbrev Stv (s : St) : Value := .agg #[.int .i64 s.t, .int .i64 s.n, .int .i64 s.x, .int .i64 s.y]
abbrev Sto (s : St) : Obj := .cells #[.int .i64 s.t, .int .i64 s.n, .int .i64 s.x, .int .i64 s.y] 53
/-- Four cells hold a stone. -/
def At4 (w : World) (b o : Nat) (s : St) : Prop :=
  w.cell? ⟨b, o, none⟩ = some (.int .i64 s.t) ∧ w.cell? ⟨b, o + 1, none⟩ = some (.int .i64 s.n) ∧ w.cell? ⟨b, o + 2, none⟩ = some (.int .i64 s.x) ∧ w.cell? ⟨b, o + 3, none⟩ = some (.int .i64 s.y)
theorem At4.up {w w' : World} {b o : Nat} {s : St} (h : At4 w b o s) (hb : Below w.heap.size w w') : At4 w' b o s :=
  ⟨upc h.1 hb, upc h.2.1 hb, upc h.2.2.1 hb, upc h.2.2.2 hb⟩
theorem At4.alloc {w : World} {b o : Nat} {s : St} (h : At4 w b o s) (ob : Obj) : At4 (w.alloc ob) b o s := h.up ((Below.refl _ _).alloc (Nat.le_refl _) _)
theorem At4.new (w : World) (s : St) : At4 (w.alloc (Sto s)) w.heap.size 0 s := ⟨by simp [go_sem], by simp [go_sem], by simp [go_sem], by simp [go_sem]⟩
theorem At4.drew {w : World} {b o n : Nat} {s : St} (h : At4 w b o s) : At4 (w.drewN n) b o s := h

def ovB (a b : St) : Bool := decide (OkS a.x a.y ∧ OkS b.x b.y ∧ touZ (a.x - b.x) (a.y - b.y) = -1)
set_option maxHeartbeats 1000000 in
theorem ov_any (a b : St) (w : World) : Calls Try.prog 78 #[Stv a, Stv b] w (Back (.bool (ovB a b)) w) := by
  have A0 := Lib.hid ((At4.new w a).alloc (Sto b))
  have B0 := Lib.hid (At4.new (w.alloc (Sto a)) b)
  have X0 : Hid (Below w.heap.size w ((w.alloc (Sto a)).alloc (Sto b))) := ((Below.refl _ _).alloc (Nat.le_refl _) _).alloc (by simp) _
  rw [World.size_alloc] at B0
  obtain ⟨t1, n1, x1, y1⟩ := a
  obtain ⟨t2, n2, x2, y2⟩ := b
  have H1 := Lib.hid (fun w => CheckSpot_any x1 y1 w)
  have H2 := Lib.hid (fun w => CheckSpot_any x2 y2 w)
  obtain ⟨r, hr⟩ : ∃ r, ovB ⟨t1, n1, x1, y1⟩ ⟨t2, n2, x2, y2⟩ = r := ⟨_, rfl⟩
  rw [hr]
  unfold ovB at hr
  by_cases h1 : OkS x1 y1
  · rw [decide_eq_true h1] at H1
    by_cases h2 : OkS x2 y2
    · rw [decide_eq_true h2] at H2
      have H3 := Lib.hid (fun w => contact_any x1 y1 x2 y2 w h1 h2)
      obtain ⟨z, hz⟩ : ∃ z, touZ (x1 - x2) (y1 - y2) = z := ⟨_, rfl⟩
      have hr' : (z == -1) = r := by rw [← hr, ← hz, Bool.eq_iff_iff]; simp [h1, h2]
      rw [hz] at H3
      clear h1 h2 hz hr
      go_enter Try.func78, Try.ntmps78
      go_wp2_with (first
        | (go_at_call 56; ((with_reducible refine (H1.out _).mono ?_); rintro e w1 ⟨rfl, hb1⟩; replace A0 := Lib.hid (A0.out.up hb1); replace B0 := Lib.hid (B0.out.up hb1); replace X0 := Lib.hid (X0.out.trans (hb1.mono X0.out.size)); clear hb1; obtain ⟨a0, a1, a2, a3⟩ := A0.out; obtain ⟨b0, b1, b2, b3⟩ := B0.out))
        | (go_at_call 56; ((with_reducible refine (H2.out _).mono ?_); rintro e w2 ⟨rfl, hb2⟩; replace A0 := Lib.hid (A0.out.up hb2); replace B0 := Lib.hid (B0.out.up hb2); replace X0 := Lib.hid (X0.out.trans (hb2.mono X0.out.size)); clear hb2; obtain ⟨a0, a1, a2, a3⟩ := A0.out; obtain ⟨b0, b1, b2, b3⟩ := B0.out))
        | (go_at_call 79; refine (H3.out _).mono ?_; rintro e w3 ⟨rfl, hb3⟩; replace X0 := Lib.hid (X0.out.trans (hb3.mono X0.out.size))))
      go_ret
      exact ⟨rfl, X0.out⟩
    · rw [decide_eq_false h2] at H2
      obtain rfl : r = false := by rw [← hr]; exact decide_eq_false (fun h => h2 h.2.1)
      clear h1 h2 hr
      go_enter Try.func78, Try.ntmps78
      go_wp2_with (first
        | (go_at_call 56; ((with_reducible refine (H1.out _).mono ?_); rintro e w1 ⟨rfl, hb1⟩; replace A0 := Lib.hid (A0.out.up hb1); replace B0 := Lib.hid (B0.out.up hb1); replace X0 := Lib.hid (X0.out.trans (hb1.mono X0.out.size)); clear hb1; obtain ⟨a0, a1, a2, a3⟩ := A0.out; obtain ⟨b0, b1, b2, b3⟩ := B0.out))
        | (go_at_call 56; ((with_reducible refine (H2.out _).mono ?_); rintro e w2 ⟨rfl, hb2⟩; replace X0 := Lib.hid (X0.out.trans (hb2.mono X0.out.size)); clear hb2)))
      go_ret
      exact ⟨rfl, X0.out⟩
  · rw [decide_eq_false h1] at H1
    obtain rfl : r = false := by rw [← hr]; exact decide_eq_false (fun h => h1 h.1)
    clear h1 hr
    go_enter Try.func78, Try.ntmps78
    go_wp2_with (go_at_call 56; ((with_reducible refine (H1.out _).mono ?_); rintro e w1 ⟨rfl, hb1⟩; replace X0 := Lib.hid (X0.out.trans (hb1.mono X0.out.size)); clear hb1))
    go_ret
    exact ⟨rfl, X0.out⟩

/-- The slice value v holds the stones l. -/
def RowS (w : World) (v : Value) (l : List St) : Prop :=
  ∃ A cap, v = .slice A l.length cap ∧ l.length ≤ cap ∧ (l.length ≤ 281474976710656 ∧ cap ≤ maxLen) ∧ (l ≠ [] → ∃ b o, A = some ⟨b, o, none⟩ ∧ ∀ j (h : j < l.length), At4 w b (o + j * 4) (l[j]'h))
theorem RowS.up {w w' : World} {v : Value} {l : List St} (h : RowS w v l) (hb : Below w.heap.size w w') : RowS w' v l := by
  obtain ⟨A, cap, rfl, h1, h2, h3⟩ := h
  refine ⟨A, cap, rfl, h1, h2, fun hl => ?_⟩
  obtain ⟨b, o, hA, hc⟩ := h3 hl
  exact ⟨b, o, hA, fun j hj => (hc j hj).up hb⟩

theorem RowS.drop {w : World} {b o cap k : Nat} {l : List St} (h : RowS w (.slice (some ⟨b, o, none⟩) l.length cap) l) (hk : k < l.length) :
    RowS w (.slice (if cap = k + 1 then some ⟨b, o, none⟩ else some ⟨b, o + (k + 1) * 4, none⟩) (l.length - (k + 1)) (cap - (k + 1))) (l.drop (k + 1)) := by
  obtain ⟨A, cap', he, h1, h2, h3⟩ := h
  injection he with e1 _ e2
  subst e1 e2
  have hlen : (l.drop (k + 1)).length = l.length - (k + 1) := List.length_drop
  refine ⟨_, _, by rw [hlen], by rw [hlen]; omega, ⟨by rw [hlen]; omega, by have := h2.2; omega⟩, fun hl => ?_⟩
  have hl2 : k + 1 < l.length := by
    have : 0 < (l.drop (k + 1)).length := List.length_pos_iff.2 hl
    omega
  obtain ⟨b', o', hA, hc⟩ := h3 (by intro e; subst e; simp at hk)
  injection hA with hA
  injection hA with hb ho' _
  subst hb ho'
  rw [if_neg (by omega)]
  refine ⟨b, o + (k + 1) * 4, rfl, fun j hj => ?_⟩
  have := hc (k + 1 + j) (by omega)
  rw [List.getElem_drop]
  have e : o + (k + 1) * 4 + j * 4 = o + (k + 1 + j) * 4 := by omega
  rw [e]; exact this

/-- The first place at which p holds, or -1. -/
def fidx {α : Type} (p : α → Bool) (l : List α) : Int := if l.findIdx p < l.length then (l.findIdx p : Int) else -1
theorem fidx_at {α : Type} {p : α → Bool} {l : List α} {k : Nat} (h : k < l.length) (h1 : p (l[k]'h) = true) (h2 : ∀ j (hj : j < k), p (l[j]'(by omega)) = false) : fidx p l = k := by
  have e : l.findIdx p = k := (List.findIdx_eq h).2 ⟨h1, h2⟩
  unfold fidx; rw [e, if_pos h]
theorem fidx_none {α : Type} {p : α → Bool} {l : List α} (h : ∀ j (hj : j < l.length), p (l[j]'hj) = false) : fidx p l = -1 := by
  have : l.findIdx p = l.length := by
    rw [List.findIdx_eq_length]
    intro x hx
    obtain ⟨j, hj, rfl⟩ := List.getElem_of_mem hx
    exact h j hj
  unfold fidx; rw [this, if_neg (by omega)]

set_option maxHeartbeats 1000000 in
theorem idxS (f : FuncId) (caps : Array Value) (p : St → Bool) (l : List St) (v : Value) (w : World) (hf : ∀ args w, (callFunc f args).run Try.prog w = .ok (.enter f args) w) (hrow : RowS w v l)
    (hcl : ∀ s W, Below w.heap.size w W → Calls Try.prog f (#[Stv s] ++ caps) W (Back (.bool (p s)) W)) :
    Calls Try.prog 93 #[v, .func (.func f) #[] caps] w (Back (.int .i64 (fidx p l)) w) := by
  have HC := Lib.hid hcl
  obtain ⟨A, cap, rfl, hlc, ⟨hcap, hcmx⟩, hcells⟩ := hrow
  have HCM := Lib.hid hcmx
  clear hcmx
  have HR := Lib.hid hcells
  clear hcl hcells
  go_enter Try.func93, Try.ntmps93
  go_wp2_with fail
  go_loopw [8] (fun iv wr => ∃ k : Nat, k ≤ l.length ∧ iv = .int .i64 k ∧ Hid (∀ j (hj : j < k) (h : j < l.length), p (l[j]'h) = false) ∧ Below w.heap.size w wr) (fun iv _ => l.length - (intOf iv).toNat)
  case atStart => exact ⟨0, by omega, rfl, fun j hj => by omega, Below.refl _ _⟩
  case round =>
    obtain ⟨k, hk, rfl, hno, hb⟩ := hrel
    have HB := Lib.hid hb
    have HN := Lib.hid hno.out
    clear hno hb
    by_cases hlt : k < l.length
    · have hlt' : (k : Int) < (l.length : Int) := by omega
      obtain ⟨b, o, rfl, hc⟩ := HR.out (by intro h; subst h; simp at hlt)
      obtain ⟨a0, a1, a2, a3⟩ := (hc k hlt).up HB.out
      obtain ⟨s, hs⟩ : ∃ s, l[k]'hlt = s := ⟨_, rfl⟩
      rw [hs] at a0 a1 a2 a3
      obtain ⟨q, hq⟩ : ∃ q, p s = q := ⟨_, rfl⟩
      have HQ := Lib.hid hq
      have HS := Lib.hid hs
      have HCk := Lib.hid (HC.out s)
      rw [hq] at HCk
      clear hq hs
      obtain ⟨s1, s2, s3, s4⟩ := s
      go_wp2_with fail
      refine (HCk.out _ HB.out).mono ?_
      rintro e w1 ⟨rfl, hb1⟩
      have HB1 := Lib.hid (HB.out.trans (hb1.mono HB.out.size))
      clear hb1 a0 a1 a2 a3
      cases q
      · go_wp2_with fail
        go_roundw
        case rel =>
          refine ⟨k + 1, by omega, by go_num, fun j hj h => ?_, HB1.out⟩
          by_cases e : j = k
          · subst e; rw [HS.out]; exact HQ.out
          · exact HN.out j (by omega) h
        case measure => simp [intOf]; omega
      · go_wp2_with fail
        go_ret
        exact ⟨ret_i (fidx_at hlt (by rw [HS.out]; exact HQ.out) fun j hj => HN.out j hj (by omega)).symm, HB1.out⟩
    · obtain rfl : k = l.length := by omega
      go_wp2_with fail
      go_ret
      exact ⟨ret_i (fidx_none fun j hj => HN.out j hj hj).symm, HB.out⟩

set_option maxHeartbeats 1000000 in
theorem cl81 (pg pa : Nat) (f : FuncId) (a b : St) (r : Bool) (w : World) (hf : ∀ args w, (callFunc f args).run Try.prog w = .ok (.enter f args) w)
    (hg : w.cell? ⟨pg, 0, none⟩ = some (.func (.func f) #[] #[])) (ha : At4 w pa 0 a) (hcl : ∀ W, Below w.heap.size w W → Calls Try.prog f #[Stv a, Stv b] W (Back (.bool r) W)) :
    Calls Try.prog 96 #[Stv b, .pointer (some ⟨pg, 0, none⟩), .pointer (some ⟨pa, 0, none⟩)] w (Back (.bool r) w) := by
  have HC := Lib.hid hcl
  have HA := Lib.hid (ha.alloc (Sto b))
  have hg' := upa hg (Sto b)
  have X0 : Hid (Below w.heap.size w (w.alloc (Sto b))) := (Below.refl _ _).alloc (Nat.le_refl _) _
  have HB := Lib.hid (At4.new w b)
  obtain ⟨a0, a1, a2, a3⟩ := HA.out
  clear hcl ha hg
  obtain ⟨t1, n1, x1, y1⟩ := a
  obtain ⟨t2, n2, x2, y2⟩ := b
  go_enter Try.func96, Try.ntmps96
  go_wp2_with fail
  refine (HC.out _ X0.out).mono ?_
  rintro e w1 ⟨rfl, hb1⟩
  have X1 := Lib.hid (X0.out.trans (hb1.mono X0.out.size))
  clear hb1 a0 a1 a2 a3 hg'
  go_wp2_with fail
  go_ret
  exact ⟨rfl, X1.out⟩

/-- The first pair, from place i on. -/
def pairF {α : Type} (h : α → α → Bool) : List α → Nat → Int × Int
  | [], _ => (-1, -1)
  | a :: l, i => if 0 ≤ fidx (h a) l then ((i : Int), (i : Int) + 1 + fidx (h a) l) else pairF h l (i + 1)
theorem pairF_step {α : Type} {h : α → α → Bool} {l : List α} {k : Nat} (hk : k < l.length) :
    pairF h (l.drop k) k = if 0 ≤ fidx (h (l[k]'hk)) (l.drop (k + 1)) then ((k : Int), (k : Int) + 1 + fidx (h (l[k]'hk)) (l.drop (k + 1))) else pairF h (l.drop (k + 1)) (k + 1) := by
  rw [List.drop_eq_getElem_cons hk]; rfl

set_option maxHeartbeats 2000000 in
theorem pair_any (f : FuncId) (h : St → St → Bool) (l : List St) (v : Value) (w : World) (hf : ∀ args w, (callFunc f args).run Try.prog w = .ok (.enter f args) w) (hrow : RowS w v l)
    (hcl : ∀ a b W, Below w.heap.size w W → Calls Try.prog f #[Stv a, Stv b] W (Back (.bool (h a b)) W)) :
    Calls Try.prog 77 #[v, .func (.func f) #[] #[]] w (Back (.tuple #[.int .i64 (pairF h l 0).1, .int .i64 (pairF h l 0).2]) w) := by
  have HC := Lib.hid hcl
  have HROW := Lib.hid hrow
  obtain ⟨A, cap, rfl, hlc, ⟨hcap, hcmx⟩, hcells⟩ := hrow
  have HCM := Lib.hid hcmx
  clear hcmx
  have HR := Lib.hid hcells
  obtain ⟨R1, hR1⟩ : ∃ R, (pairF h l 0).1 = R := ⟨_, rfl⟩
  obtain ⟨R2, hR2⟩ : ∃ R, (pairF h l 0).2 = R := ⟨_, rfl⟩
  have HRR : Hid (pairF h l 0 = (R1, R2)) := by show _ = _; rw [← hR1, ← hR2]
  rw [hR1, hR2]
  clear hcl hcells hR1 hR2
  go_enter Try.func77, Try.ntmps77
  go_wp2_with fail
  go_loopw [11] (fun iv wr => ∃ k : Nat, k ≤ l.length ∧ iv = .int .i64 k ∧ Hid (pairF h (l.drop k) k = (R1, R2)) ∧ wr.cell? ⟨w.heap.size, 0, none⟩ = some (.func (.func f) #[] #[]) ∧ Below w.heap.size w wr) (fun iv _ => l.length - (intOf iv).toNat)
  case atStart => exact ⟨0, by omega, rfl, HRR, by simp [go_sem], (Below.refl _ _).alloc (Nat.le_refl _) _⟩
  case round =>
    obtain ⟨k, hk, rfl, hP, hg, hb⟩ := hrel
    have HP := Lib.hid hP.out
    have HB := Lib.hid hb
    clear hP hb
    by_cases hlt : k < l.length
    · have hlt' : (k : Int) < (l.length : Int) := by omega
      obtain ⟨b, o, rfl, hc⟩ := HR.out (by intro h; subst h; simp at hlt)
      have HCC := Lib.hid hc
      obtain ⟨a0, a1, a2, a3⟩ := (hc k hlt).up HB.out
      obtain ⟨s, hs⟩ : ∃ s, l[k]'hlt = s := ⟨_, rfl⟩
      rw [hs] at a0 a1 a2 a3
      have HS := Lib.hid hs
      clear hs hc
      obtain ⟨s1, s2, s3, s4⟩ := s
      have hmf : ∀ (fn : Fn) (first cap : Array Value) (w : World), (Instr.makeFunc fn first cap).run Try.prog w = .ok (.func fn first cap) w := fun _ _ _ _ => rfl
      have hRD : RowS wr (.slice (if cap = k + 1 then some ⟨b, o, none⟩ else some ⟨b, o + (k + 1) * 4, none⟩) (l.length - (k + 1)) (cap - (k + 1))) (l.drop (k + 1)) := (HROW.out.up HB.out).drop hlt
      have B1 : Hid (Below w.heap.size w (wr.alloc (Sto ⟨s1, s2, s3, s4⟩))) := HB.out.alloc HB.out.size _
      have hI : Hid (∀ v, RowS wr v (l.drop (k + 1)) → Calls Try.prog 93 #[v, .func (.func 96) #[] #[.pointer (some ⟨w.heap.size, 0, none⟩), .pointer (some ⟨wr.heap.size, 0, none⟩)]] (wr.alloc (Sto ⟨s1, s2, s3, s4⟩)) (Back (.int .i64 (fidx (h ⟨s1, s2, s3, s4⟩) (l.drop (k + 1)))) (wr.alloc (Sto ⟨s1, s2, s3, s4⟩)))) := by
        intro v hv
        refine idxS 96 _ (h ⟨s1, s2, s3, s4⟩) _ v _ (enters_of Try.func96 (by kernel_rfl) rfl) (hv.up ((Below.refl _ _).alloc (Nat.le_refl _) _)) ?_
        intro s W hW
        exact cl81 w.heap.size wr.heap.size f ⟨s1, s2, s3, s4⟩ s _ W hf (upc (upa hg _) hW) ((At4.new wr ⟨s1, s2, s3, s4⟩).up hW) (fun W' hW' => HC.out _ _ W' ((B1.out.trans (hW.mono B1.out.size)).trans (hW'.mono (Nat.le_trans B1.out.size hW.size))))
      have hst := pairF_step (h := h) hlt
      rw [HS.out] at hst
      obtain ⟨m, hm⟩ : ∃ m, fidx (h ⟨s1, s2, s3, s4⟩) (l.drop (k + 1)) = m := ⟨_, rfl⟩
      have hmb : -1 ≤ m ∧ m < l.length := by
        rw [← hm]; unfold fidx
        have : (l.drop (k + 1)).length = l.length - (k + 1) := List.length_drop
        split <;> omega
      rw [hm] at hI hst
      have HRD := Lib.hid hRD
      have HST := Lib.hid hst
      clear hm hst hRD HROW HR HCC
      obtain ⟨m1, m2⟩ := hmb
      by_cases hm0 : 0 ≤ m
      · obtain ⟨m, rfl⟩ := Int.eq_ofNat_of_zero_le hm0
        have e : R1 = (k : Int) ∧ R2 = (k : Int) + 1 + m := by
          have h1 := HP.out
          rw [HST.out, if_pos (by omega)] at h1
          injection h1 with h1 h2
          exact ⟨h1.symm, h2.symm⟩
        have E := Lib.hid e
        clear e
        go_wp2_with (go_at_call 93; refine (hI.out _ HRD.out).mono ?_; rintro e w1 ⟨rfl, hb1⟩; have HB1 := Lib.hid (B1.out.trans (hb1.mono B1.out.size)); clear hb1)
        all_goals
          go_ret2
          exact ⟨by rw [E.out.1, E.out.2]; rfl, HB1.out⟩
      · have hmn : m < 0 := by omega
        go_wp2_with (go_at_call 93; refine (hI.out _ HRD.out).mono ?_; rintro e w1 ⟨rfl, hb1⟩; have HB1 := Lib.hid (B1.out.trans (hb1.mono B1.out.size)); have hg1 := upc (upa hg (Sto ⟨s1, s2, s3, s4⟩)) hb1; clear hb1)
        have h1 := HP.out
        rw [HST.out, if_neg (by omega)] at h1
        have H1 := Lib.hid h1
        clear h1
        all_goals
          go_roundw
          case rel => exact ⟨k + 1, by omega, by go_num, H1, hg1, HB1.out⟩
          case measure => simp [intOf]; omega
    · obtain rfl : k = l.length := by omega
      have e : R1 = -1 ∧ R2 = -1 := by
        have h1 := HP.out
        rw [List.drop_length] at h1
        injection h1 with h1 h2
        exact ⟨h1.symm, h2.symm⟩
      obtain ⟨rfl, rfl⟩ := e
      go_wp2_with fail
      go_ret2
      exact ⟨rfl, HB.out⟩
theorem Overlap_any (l : List St) (v : Value) (w : World) (hrow : RowS w v l) : Calls Try.prog 58 #[v] w (Back (.tuple #[.int .i64 (pairF ovB l 0).1, .int .i64 (pairF ovB l 0).2]) w) := by
  have H := Lib.hid (pair_any 78 ovB l v w (enters_of Try.func78 (by kernel_rfl) rfl) hrow (fun a b W _ => ov_any a b W))
  obtain ⟨R1, hR1⟩ : ∃ R, (pairF ovB l 0).1 = R := ⟨_, rfl⟩
  obtain ⟨R2, hR2⟩ : ∃ R, (pairF ovB l 0).2 = R := ⟨_, rfl⟩
  rw [hR1, hR2] at H ⊢
  clear hR1 hR2 hrow
  go_enter Try.func58, Try.ntmps58
  go_wp2_with (go_at_call 77; refine H.out.mono ?_; rintro e w1 ⟨rfl, hb1⟩)
  go_ret2
  exact ⟨rfl, hb1⟩
end Go.Proofs.Ytomcpgdpjpjioaa
