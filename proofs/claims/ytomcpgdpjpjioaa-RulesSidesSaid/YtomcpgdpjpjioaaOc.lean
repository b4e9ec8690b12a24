/- Outcomes in memory; contracts: distinct's closure, IndexFunc and ContainsFunc over outcomes. -/
import Derived.Test.YtomcpgdpjpjioaaEq
namespace Go.Proofs.Ytomcpgdpjpjioaa
open Go.RowKit Go.Proofs Go.Shelf
attribute [local go_sem] Oper.semAt_some

/-- An outcome: the slice, the stones in it, and whether it is thrown again. -/
structure Oc where
  v : Value
  l : List St
  g : Bool
abbrev Ocv (p : Oc) : Value := .agg #[p.v, .bool p.g]
abbrev Oco (p : Oc) : Obj := .cells #[p.v, .bool p.g] 46
def oC (p : Oc) : List Value := [p.v, .bool p.g]
def OcAt (W : World) (b o : Nat) (p : Oc) : Prop := W.cell? ⟨b, o, none⟩ = some p.v ∧ W.cell? ⟨b, o + 1, none⟩ = some (.bool p.g)
theorem OcAt.up {W W' : World} {b o : Nat} {p : Oc} (h : OcAt W b o p) (hb : Below W.heap.size W W') : OcAt W' b o p := ⟨upc h.1 hb, upc h.2 hb⟩
theorem OcAt.new (W : World) (p : Oc) : OcAt (W.alloc (Oco p)) W.heap.size 0 p := ⟨by simp [go_sem], by simp [go_sem]⟩
/-- All of them are slices of their stones. -/
def OcR (W : World) (L : List Oc) : Prop := ∀ p ∈ L, RowS W p.v p.l
theorem OcR.up {W W' : World} {L : List Oc} (h : OcR W L) (hb : Below W.heap.size W W') : OcR W' L := fun p hp => (h p hp).up hb
/-- A slice of outcomes. -/
def RowO (W : World) (v : Value) (L : List Oc) : Prop :=
  ∃ A cap, v = .slice A L.length cap ∧ L.length ≤ cap ∧ (L.length ≤ 281474976710656 ∧ cap ≤ maxLen) ∧ (L ≠ [] → ∃ b o, A = some ⟨b, o, none⟩ ∧ ∀ j (h : j < L.length), OcAt W b (o + j * 2) (L[j]'h))
theorem RowO.up {W W' : World} {v : Value} {L : List Oc} (h : RowO W v L) (hb : Below W.heap.size W W') : RowO W' v L := by
  obtain ⟨A, cap, h1, h2, h3, h4⟩ := h
  exact ⟨A, cap, h1, h2, h3, fun hn => by obtain ⟨b, o, h5, h6⟩ := h4 hn; exact ⟨b, o, h5, fun j hj => (h6 j hj).up hb⟩⟩
theorem oC_len (L : List Oc) : (L.flatMap oC).length = L.length * 2 := by
  induction L with
  | nil => rfl
  | cons a L ih => rw [List.flatMap_cons, List.length_append, ih]; simp [oC]; omega
theorem oC_get : ∀ {L : List Oc} {j : Nat} (h : j < L.length) (i : Nat) (_ : i < 2), (L.flatMap oC)[j * 2 + i]? = (oC (L[j]'h))[i]?
  | [], _, h, _, _ => by simp at h
  | a :: L, 0, _, i, hi => by
    rw [List.flatMap_cons, List.getElem?_append_left (by simp [oC]; omega)]; simp
  | a :: L, j + 1, h, i, hi => by
    rw [List.flatMap_cons, List.getElem?_append_right (by simp [oC]; omega)]
    have e : (j + 1) * 2 + i - (oC a).length = j * 2 + i := by simp [oC]; omega
    rw [e, oC_get (by simpa using h) i hi]; rfl
abbrev OwnO (base : Nat) (W : World) (v : Value) (L : List Oc) : Prop := W.ownsRow base 46 2 v L.length (L.flatMap oC)
theorem RowO.of_own {W : World} {base : Nat} {v : Value} {L : List Oc} (h : OwnO base W v L) (hl : L.length ≤ 281474976710656) : RowO W v L := by
  have hc := h
  rcases h.2 with ⟨rfl, h0⟩ | ⟨g, cap, cur, rfl, h2, h3, h4, h5, -⟩
  · exact ⟨none, 0, by rw [h0], by omega, ⟨by omega, by unfold maxLen; omega⟩, fun hl => absurd (List.length_eq_zero_iff.1 h0) hl⟩
  · refine ⟨_, _, rfl, h4, ⟨hl, h5⟩, fun _ => ⟨g, 0, rfl, fun j hj => ?_⟩⟩
    have one : ∀ i, i < 2 → W.cell? ⟨g, j * 2 + i, none⟩ = (oC (L[j]'hj))[i]? := fun i hi => by
      rw [← oC_get hj i hi]; exact hc.cellAt _ (by omega)
    refine ⟨?_, ?_⟩
    · rw [Nat.zero_add]; exact (one 0 (by omega)).trans rfl
    · rw [Nat.zero_add]; exact (one 1 (by omega)).trans rfl
def samO (p o : Oc) : Bool := p.g == o.g && eqL p.l o.l

set_option maxHeartbeats 1000000 in
theorem cl92 (p o : Oc) (po : Nat) (w : World) (ho : OcAt w po 0 o) (hp : RowS w p.v p.l) (hq : RowS w o.v o.l) :
    Calls Try.prog 92 #[Ocv p, .pointer (some ⟨po, 0, none⟩)] w (Back (.bool (samO p o)) w) := by
  have X0 : Hid (Below w.heap.size w (w.alloc (Oco p))) := (Below.refl _ _).alloc (Nat.le_refl _) _
  have HO := Lib.hid (ho.up X0.out)
  have HP := Lib.hid (OcAt.new w p)
  have H47 : Hid (∀ W, Below w.heap.size w W → Calls Try.prog 47 #[p.v, o.v] W fun e w' => e = .returned (.bool (eqL p.l o.l)) ∧ Below W.heap.size W w') := fun W hW => Equal_any _ _ _ _ W (hp.up hW) (hq.up hW)
  obtain ⟨A, n, c, hv⟩ : ∃ A n c, p.v = .slice A n c := by obtain ⟨A, c, h, -⟩ := hp; exact ⟨A, _, c, h⟩
  obtain ⟨A2, n2, c2, hv2⟩ : ∃ A n c, o.v = .slice A n c := by obtain ⟨A, c, h, -⟩ := hq; exact ⟨A, _, c, h⟩
  obtain ⟨v1, l1, g1⟩ := p
  obtain ⟨v2, l2, g2⟩ := o
  simp only at hv hv2
  subst hv hv2
  obtain ⟨q, hq'⟩ : ∃ q, eqL l1 l2 = q := ⟨_, rfl⟩
  have HS : Hid (samO ⟨.slice A n c, l1, g1⟩ ⟨.slice A2 n2 c2, l2, g2⟩ = (g1 == g2 && q)) := by show _ = _; rw [← hq']; rfl
  simp only at H47
  rw [hq'] at H47
  clear hp hq ho hq'
  obtain ⟨a0, a1⟩ := HO.out
  obtain ⟨b0, b1⟩ := HP.out
  simp only at a0 a1 b0 b1
  cases g1 <;> cases g2
  all_goals
    go_enter Try.func92, Try.ntmps92
    go_wp2_with (go_at_call 47; (with_reducible refine (H47.out _ X0.out).mono ?_); rintro e w1 ⟨rfl, hb1⟩; replace X0 := Lib.hid (X0.out.trans (hb1.mono X0.out.size)); clear hb1 a0 a1 b0 b1)
    go_ret
    exact ⟨by rw [HS.out]; rfl, X0.out⟩

set_option maxHeartbeats 1000000 in
theorem idx98 (o : Oc) (po : Nat) (L : List Oc) (v : Value) (w : World) (hrow : RowO w v L) (hL : OcR w L) (ho : OcAt w po 0 o) (hq : RowS w o.v o.l) :
    Calls Try.prog 98 #[v, .func (.func 92) #[] #[.pointer (some ⟨po, 0, none⟩)]] w (Back (.int .i64 (fidx (fun p => samO p o) L)) w) := by
  have HC : Hid (∀ p, p ∈ L → ∀ W, Below w.heap.size w W → Calls Try.prog 92 #[Ocv p, .pointer (some ⟨po, 0, none⟩)] W (Back (.bool (samO p o)) W)) := fun p hp W hW => cl92 p o po W (ho.up hW) ((hL p hp).up hW) (hq.up hW)
  have hf : ∀ args w, (callFunc 92 args).run Try.prog w = .ok (.enter 92 args) w := enters_of Try.func92 (by kernel_rfl) rfl
  obtain ⟨A, cap, rfl, hlc, ⟨hcap, hcmx⟩, hcells⟩ := hrow
  have HR := Lib.hid hcells
  clear hcells hcmx hL ho hq
  go_enter Try.func98, Try.ntmps98
  go_wp2_with fail
  go_loopw [8] (fun iv wr => ∃ k : Nat, k ≤ L.length ∧ iv = .int .i64 k ∧ Hid (∀ j (hj : j < k) (h : j < L.length), samO (L[j]'h) o = false) ∧ Below w.heap.size w wr) (fun iv _ => L.length - (intOf iv).toNat)
  case atStart => exact ⟨0, by omega, rfl, fun j hj => by omega, Below.refl _ _⟩
  case round =>
    obtain ⟨k, hk, rfl, hno, hb⟩ := hrel
    have HB := Lib.hid hb
    have HN := Lib.hid hno.out
    clear hno hb
    by_cases hlt : k < L.length
    · have hlt' : (k : Int) < (L.length : Int) := by omega
      obtain ⟨b, o', rfl, hc⟩ := HR.out (by intro h; subst h; simp at hlt)
      obtain ⟨a0, a1⟩ := (hc k hlt).up HB.out
      have hmem := List.getElem_mem hlt
      obtain ⟨s, hs⟩ : ∃ s, L[k]'hlt = s := ⟨_, rfl⟩
      rw [hs] at a0 a1 hmem
      obtain ⟨q, hq⟩ : ∃ q, samO s o = q := ⟨_, rfl⟩
      have HQ := Lib.hid hq
      have HS := Lib.hid hs
      have HCk := Lib.hid (HC.out s hmem)
      rw [hq] at HCk
      clear hq hs hmem
      obtain ⟨s1, s2, s3⟩ := s
      simp only at a0 a1
      go_wp2_with fail
      refine (HCk.out _ HB.out).mono ?_
      rintro e w1 ⟨rfl, hb1⟩
      have HB1 := Lib.hid (HB.out.trans (hb1.mono HB.out.size))
      clear hb1 a0 a1
      cases q
      · go_wp2_with fail
        go_roundw
        case rel =>
          refine ⟨k + 1, by omega, by go_num, fun j hj h => ?_, HB1.out⟩
          by_cases e : j = k
          · subst e; rw [HS.out]; exact HQ.out
          · exact HN.out j (by omega) h
        case measure => simp [intOf]; omega
      · go_wp2_with fail
        go_ret
        exact ⟨ret_i (fidx_at (p := fun p => samO p o) hlt (by show samO _ o = true; rw [HS.out]; exact HQ.out) fun j hj => HN.out j hj (by omega)).symm, HB1.out⟩
    · obtain rfl : k = L.length := by omega
      go_wp2_with fail
      go_ret
      exact ⟨ret_i (fidx_none (p := fun p => samO p o) fun j hj => HN.out j hj hj).symm, HB.out⟩
theorem fidx_any {α : Type} (p : α → Bool) (l : List α) : decide (0 ≤ fidx p l) = l.any p := by
  unfold fidx
  by_cases h : l.findIdx p < l.length
  · rw [if_pos h]
    have := List.findIdx_getElem (w := h)
    rw [List.any_eq_true.2 ⟨_, List.getElem_mem h, this⟩]
    simp
  · rw [if_neg h]
    have h2 : l.any p = false := by
      rw [List.any_eq_false]
      intro x hx hp
      exact h (List.findIdx_lt_length_of_exists ⟨x, hx, hp⟩)
    rw [h2]; rfl
set_option maxHeartbeats 1000000 in
theorem cont91 (o : Oc) (po : Nat) (L : List Oc) (v : Value) (w : World) (hrow : RowO w v L) (hL : OcR w L) (ho : OcAt w po 0 o) (hq : RowS w o.v o.l) :
    Calls Try.prog 91 #[v, .func (.func 92) #[] #[.pointer (some ⟨po, 0, none⟩)]] w (Back (.bool (L.any fun p => samO p o)) w) := by
  have H := Lib.hid (idx98 o po L v w hrow hL ho hq)
  have HF := Lib.hid (fidx_any (fun p => samO p o) L)
  obtain ⟨r, hr⟩ : ∃ r, fidx (fun p => samO p o) L = r := ⟨_, rfl⟩
  rw [hr] at H HF
  clear hrow hL ho hq hr
  go_enter Try.func91, Try.ntmps91
  go_wp2_with (go_at_call 98; refine H.out.mono ?_; rintro e w1 ⟨rfl, hb1⟩)
  go_ret
  exact ⟨by rw [← HF.out]; rfl, hb1⟩
end Go.Proofs.Ytomcpgdpjpjioaa
