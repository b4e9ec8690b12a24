/- Layers of the proofs, joined: Te Tf Va Vb Vc Vd Ve Vl Vm Vn Tg R3 R5 R4 R6 Sa R7 Sb. -/
import Derived.Test.YtmcpnoailbmkkaaGreatDoorPk4
/- Layer 2, in plain Lean: the count of the program and that of the document are one. (Carried over from wip/sheet's V, Rc, Cn.) -/
namespace Go.Proofs.YtmcpnoailbmkkaaGreatDoor
open Go Go.RowKit Go.Proofs
def teamAt (l : List St) (i : Nat) : Int := (l.getD i ⟨0, 0, 0, 0⟩).t
/-! V -/
/-- How many of the first lim are nearer than far, from the first one on. -/
def ptsN (l : List St) (d : List Nat) (lim : Nat) (far : Int) : Nat := ((d.take lim).takeWhile fun i => decide (sqAt l i < far)).length

/-- Who counts, by the order d. -/
def cntT (l : List St) (d : List Nat) : Int × Int :=
  match d with
  | [] => (-1, 0)
  | a :: _ =>
    if fidx (fun i => teamAt l i != teamAt l a) d < 0 then (teamAt l a, (d.length : Nat)) else
      if ptsN l d (fidx (fun i => teamAt l i != teamAt l a) d).toNat (sqAt l (d.getD (fidx (fun i => teamAt l i != teamAt l a) d).toNat 0)) = 0 then (-1, 0)
      else (teamAt l a, (ptsN l d (fidx (fun i => teamAt l i != teamAt l a) d).toNat (sqAt l (d.getD (fidx (fun i => teamAt l i != teamAt l a) d).toNat 0)) : Nat))

theorem ptsN_at {l : List St} {d : List Nat} {lim k : Nat} {far : Int} (hl : lim ≤ d.length) (hk : k ≤ lim) (h1 : ∀ j (hj : j < d.length), j < k → sqAt l (d[j]'hj) < far)
    (h2 : k = lim ∨ ∃ h : k < d.length, ¬ sqAt l (d[k]'h) < far) : ptsN l d lim far = k := by
  unfold ptsN
  obtain ⟨p, hp⟩ : ∃ p : Nat → Bool, (fun i => decide (sqAt l i < far)) = p := ⟨_, rfl⟩
  have hp1 : ∀ j (hj : j < d.length), j < k → p (d[j]'hj) = true := fun j hj h => by rw [← hp]; exact decide_eq_true (h1 j hj h)
  have hp2 : k = lim ∨ ∃ h : k < d.length, p (d[k]'h) = false := h2.imp_right fun ⟨h, h3⟩ => ⟨h, by rw [← hp]; exact decide_eq_false h3⟩
  rw [hp]
  clear hp h1 h2
  induction d generalizing lim k with
  | nil => simp at hl; subst hl; simp; omega
  | cons a d ih =>
    cases lim with
    | zero => simp; omega
    | succ lim =>
      rw [List.take_succ_cons]
      cases k with
      | zero =>
        rcases hp2 with h | ⟨h, h3⟩
        · omega
        · simp only [List.getElem_cons_zero] at h3
          rw [List.takeWhile_cons_of_neg (by simp [h3])]; rfl
      | succ k =>
        have h0 := hp1 0 (by simp) (by omega)
        simp only [List.getElem_cons_zero] at h0
        rw [List.takeWhile_cons_of_pos h0, List.length_cons]
        congr 1
        refine ih (lim := lim) (k := k) (by simpa using hl) (by omega) (fun j hj h => ?_) ?_
        · have := hp1 (j + 1) (by simp; omega) (by omega)
          simpa using this
        · rcases hp2 with h | ⟨h, h3⟩
          · exact .inl (by omega)
          · exact .inr ⟨by simpa using h, by simpa using h3⟩

/-! Rc -/
/-- The square of the distance of a team's nearest stone in the house, among the first k. -/
def bT (l : List St) (t : Int) : Nat → Option Int
  | 0 => none
  | k + 1 => if (teamAt l k = t ∧ k ∈ hsA l) ∧ (bT l t k = none ∨ sqAt l k < (bT l t k).getD 0) then some (sqAt l k) else bT l t k

/-- How many of the first k stones are a team's, in the house, and nearer than a limit. -/
def cK (l : List St) (t : Int) (lim : Option Int) : Nat → Nat
  | 0 => 0
  | k + 1 => cK l t lim k + if (teamAt l k = t ∧ k ∈ hsA l) ∧ (lim = none ∨ sqAt l k < lim.getD 0) then 1 else 0

theorem cK_le (l : List St) (t : Int) (lim : Option Int) : ∀ k, cK l t lim k ≤ k
  | 0 => Nat.le_refl _
  | k + 1 => by have := cK_le l t lim k; unfold cK; split <;> omega

/-- Who counts, as the document says it. -/
def refP (l : List St) (x0 x1 : Option Int) : Int × Int :=
  match x0, x1 with
  | none, none => (-1, 0)
  | some _, none => (0, (cK l 0 none l.length : Nat))
  | none, some _ => (1, (cK l 1 none l.length : Nat))
  | some a, some b => if a = b then (-1, 0) else if b < a then (1, (cK l 1 (some a) l.length : Nat)) else (0, (cK l 0 (some b) l.length : Nat))

def refT (l : List St) : Int × Int := refP l (bT l 0 l.length) (bT l 1 l.length)

/-! Cn -/
theorem bT_spec (l : List St) (t : Int) : ∀ k, (bT l t k = none ∧ ∀ i, i < k → i ∈ hsA l → teamAt l i ≠ t) ∨
    (∃ m, bT l t k = some m ∧ (∃ i, i < k ∧ i ∈ hsA l ∧ teamAt l i = t ∧ sqAt l i = m) ∧ ∀ i, i < k → i ∈ hsA l → teamAt l i = t → m ≤ sqAt l i)
  | 0 => .inl ⟨rfl, fun _ h => by omega⟩
  | k + 1 => by
    have ih := bT_spec l t k
    unfold bT
    by_cases hc : (teamAt l k = t ∧ k ∈ hsA l) ∧ (bT l t k = none ∨ sqAt l k < (bT l t k).getD 0)
    · rw [if_pos hc]
      refine .inr ⟨_, rfl, ⟨k, by omega, hc.1.2, hc.1.1, rfl⟩, fun i hi h1 h2 => ?_⟩
      by_cases hik : i = k
      · subst hik; exact Int.le_refl _
      · rcases ih with ⟨h3, h4⟩ | ⟨m, h3, -, h4⟩
        · exact absurd h2 (h4 i (by omega) h1)
        · have := h4 i (by omega) h1 h2
          rw [h3] at hc
          rcases hc.2 with h5 | h5
          · cases h5
          · simp at h5; omega
    · rw [if_neg hc]
      rcases ih with ⟨h3, h4⟩ | ⟨m, h3, ⟨i0, h5, h6, h7, h8⟩, h4⟩
      · refine .inl ⟨h3, fun i hi h1 h2 => ?_⟩
        by_cases hik : i = k
        · subst hik; exact hc ⟨⟨h2, h1⟩, .inl h3⟩
        · exact h4 i (by omega) h1 h2
      · refine .inr ⟨m, h3, ⟨i0, by omega, h6, h7, h8⟩, fun i hi h1 h2 => ?_⟩
        by_cases hik : i = k
        · subst hik
          rcases Int.lt_or_le (sqAt l i) m with h | h
          · exact absurd ⟨⟨h2, h1⟩, .inr (by rw [h3]; exact h)⟩ hc
          · exact h
        · exact h4 i (by omega) h1 h2

theorem cK_filter (l : List St) (t : Int) (lim : Option Int) : ∀ k, cK l t lim k = ((List.range k).filter fun i => decide (i ∈ hsA l) && decide (teamAt l i = t ∧ (lim = none ∨ sqAt l i < lim.getD 0))).length
  | 0 => rfl
  | k + 1 => by
    have ih := cK_filter l t lim k
    unfold cK
    rw [ih, List.range_succ, List.filter_append, List.length_append]
    congr 1
    by_cases hc : (teamAt l k = t ∧ k ∈ hsA l) ∧ (lim = none ∨ sqAt l k < lim.getD 0)
    · rw [if_pos hc]
      simp [hc.1.1, hc.1.2, hc.2]
    · rw [if_neg hc]
      symm
      rw [List.length_eq_zero_iff, List.filter_eq_nil_iff]
      intro i hi
      rw [List.mem_singleton] at hi
      subst hi
      simp only [Bool.and_eq_true, decide_eq_true_eq]
      exact fun h => hc ⟨⟨h.2.1, h.1⟩, h.2.2⟩


theorem near_nodup {l : List St} {d : List Nat} (hd : NrP l d) : d.Nodup :=
  hd.2.imp fun {a b} h e => by subst e; unfold lx at h; omega

theorem cK_near {l : List St} {d : List Nat} (hd : NrP l d) (t : Int) (lim : Option Int) : cK l t lim l.length = (d.filter fun i => decide (teamAt l i = t ∧ (lim = none ∨ sqAt l i < lim.getD 0))).length := by
  rw [cK_filter]
  apply List.Perm.length_eq
  refine (List.perm_ext_iff_of_nodup ((List.nodup_range).filter _) ((near_nodup hd).filter _)).2 fun i => ?_
  simp only [List.mem_filter, List.mem_range, Bool.and_eq_true, decide_eq_true_eq]
  constructor
  · rintro ⟨-, h1, h2⟩
    exact ⟨hd.1.mem_iff.2 h1, h2⟩
  · rintro ⟨h1, h2⟩
    have := hd.1.mem_iff.1 h1
    exact ⟨hsA_mem this, this, h2⟩

theorem fidx_two {α : Type} (p : α → Bool) (l : List α) : (fidx p l = -1 ∧ ∀ j (hj : j < l.length), p (l[j]'hj) = false) ∨
    ∃ k, ∃ hk : k < l.length, fidx p l = k ∧ p (l[k]'hk) = true ∧ ∀ j (hj : j < k), p (l[j]'(by omega)) = false := by
  by_cases h : l.findIdx p < l.length
  · refine .inr ⟨l.findIdx p, h, by unfold fidx; rw [if_pos h], List.findIdx_getElem, fun j hj => ?_⟩
    have := List.not_of_lt_findIdx hj
    simpa using this
  · refine .inl ⟨by unfold fidx; rw [if_neg h], fun j hj => ?_⟩
    have := List.not_of_lt_findIdx (p := p) (xs := l) (i := j) (by omega)
    simpa using this

theorem near_mono {l : List St} {d : List Nat} (hd : NrP l d) {i j : Nat} (hj : j < d.length) (hij : i ≤ j) : sqAt l (d[i]'(by omega)) ≤ sqAt l (d[j]'hj) := by
  by_cases e : i = j
  · subst e; exact Int.le_refl _
  · have := List.pairwise_iff_getElem.1 hd.2 i j (by omega) hj (by omega)
    unfold lx at this; omega

/-- A team's nearest stone, by the order d. -/
theorem bT_none {l : List St} {d : List Nat} (hd : NrP l d) {t : Int} (h : ∀ i ∈ d, teamAt l i ≠ t) : bT l t l.length = none := by
  rcases bT_spec l t l.length with ⟨h1, -⟩ | ⟨m, -, ⟨i, -, h2, h3, -⟩, -⟩
  · exact h1
  · exact absurd h3 (h i (hd.1.mem_iff.2 h2))

theorem bT_some {l : List St} {d : List Nat} (hd : NrP l d) {t : Int} {k : Nat} (hk : k < d.length) (h1 : teamAt l (d[k]'hk) = t) (h2 : ∀ j (hj : j < k), teamAt l (d[j]'(by omega)) ≠ t) :
    bT l t l.length = some (sqAt l (d[k]'hk)) := by
  have hm : d[k]'hk ∈ hsA l := hd.1.mem_iff.1 (List.getElem_mem _)
  rcases bT_spec l t l.length with ⟨-, h3⟩ | ⟨m, h3, ⟨i, hi, h4, h5, h6⟩, h7⟩
  · exact absurd h1 (h3 _ (hsA_mem hm) hm)
  · rw [h3]
    have ha := h7 _ (hsA_mem hm) hm h1
    obtain ⟨j, hj, he⟩ := List.getElem_of_mem (hd.1.mem_iff.2 h4)
    have hkj : k ≤ j := by
      rcases Nat.lt_or_ge j k with h | h
      · exact absurd (by rw [he]; exact h5) (h2 j h)
      · exact h
    have hb := near_mono hd hj hkj
    rw [he, h6] at hb
    rw [show m = sqAt l (d[k]'hk) by omega]

theorem lead_of (P : Nat → Prop) [DecidablePred P] : ∀ d : List Nat, ∃ p, p ≤ d.length ∧ (∀ j (hj : j < d.length), j < p → P (d[j]'hj)) ∧ (p = d.length ∨ ∃ h : p < d.length, ¬ P (d[p]'h))
  | [] => ⟨0, by simp, fun j hj => by simp at hj, .inl rfl⟩
  | a :: d => by
    by_cases ha : P a
    · obtain ⟨p, h1, h2, h3⟩ := lead_of P d
      refine ⟨p + 1, by simpa using h1, fun j hj hjp => ?_, ?_⟩
      · cases j with
        | zero => exact ha
        | succ j => exact h2 j (by simpa using hj) (by omega)
      · rcases h3 with h3 | ⟨h, h3⟩
        · exact .inl (by simp [h3])
        · exact .inr ⟨by simpa using h, by simpa using h3⟩
    · exact ⟨0, by simp, fun j hj h => by omega, .inr ⟨by simp, by simpa using ha⟩⟩

theorem cnt_ref {l : List St} {d : List Nat} (hd : NrP l d) (ht : ∀ i ∈ d, teamAt l i = 0 ∨ teamAt l i = 1) : cntT l d = refT l := by
  cases hdd : d with
  | nil =>
    subst hdd
    have e0 := bT_none hd (t := 0) (by simp)
    have e1 := bT_none hd (t := 1) (by simp)
    unfold refT; rw [e0, e1]; rfl
  | cons a ds =>
    have hd0 : 0 < d.length := by rw [hdd]; simp
    have e0 : d[0]'hd0 = a := by subst hdd; rfl
    have hc : cntT l d = if fidx (fun i => teamAt l i != teamAt l a) d < 0 then (teamAt l a, ((d.length : Nat) : Int)) else
      if ptsN l d (fidx (fun i => teamAt l i != teamAt l a) d).toNat (sqAt l (d.getD (fidx (fun i => teamAt l i != teamAt l a) d).toNat 0)) = 0 then (-1, 0)
      else (teamAt l a, ((ptsN l d (fidx (fun i => teamAt l i != teamAt l a) d).toNat (sqAt l (d.getD (fidx (fun i => teamAt l i != teamAt l a) d).toNat 0)) : Nat) : Int)) := by subst hdd; rfl
    rw [← hdd]
    rw [hc]
    obtain ⟨T, hT⟩ : ∃ T, teamAt l a = T := ⟨_, rfl⟩
    rw [hT]
    have hT01 : T = 0 ∨ T = 1 := by rw [← hT]; exact ht a (by rw [hdd]; simp)
    have hbT : bT l T l.length = some (sqAt l a) := by
      have := bT_some hd hd0 (t := T) (by rw [e0, hT]) (fun j hj => by omega)
      rwa [e0] at this
    rcases fidx_two (fun i => teamAt l i != T) d with ⟨h1, h2⟩ | ⟨m, hm, h1, h2, h3⟩
    · rw [h1, if_pos (by omega)]
      have hall : ∀ i ∈ d, teamAt l i = T := fun i hi => by
        obtain ⟨j, hj, rfl⟩ := List.getElem_of_mem hi
        have := h2 j hj
        simpa using this
      have hcK : cK l T none l.length = d.length := by
        rw [cK_near hd, List.filter_eq_self.2]
        intro i hi
        simp [hall i hi]
      unfold refT
      rcases hT01 with rfl | rfl
      · rw [hbT, bT_none hd (t := 1) (fun i hi => by rw [hall i hi]; omega)]
        show _ = ((0 : Int), ((cK l 0 none l.length : Nat) : Int))
        rw [hcK]
      · rw [hbT, bT_none hd (t := 0) (fun i hi => by rw [hall i hi]; omega)]
        show _ = ((1 : Int), ((cK l 1 none l.length : Nat) : Int))
        rw [hcK]
    · rw [h1, if_neg (by omega), Int.toNat_natCast]
      have hgd : d.getD m 0 = d[m]'hm := by rw [List.getD_eq_getElem?_getD, List.getElem?_eq_getElem hm]; rfl
      rw [hgd]
      obtain ⟨far, hfar⟩ : ∃ far, sqAt l (d[m]'hm) = far := ⟨_, rfl⟩
      rw [hfar]
      have hbef : ∀ j (hj : j < m), teamAt l (d[j]'(by omega)) = T := fun j hj => by have := h3 j hj; simpa using this
      have hne : teamAt l (d[m]'hm) ≠ T := by simpa using h2
      have hU : teamAt l (d[m]'hm) = 1 - T := by
        have := ht _ (List.getElem_mem hm)
        rcases hT01 with rfl | rfl <;> rcases this with h | h <;> omega
      have hbU : bT l (1 - T) l.length = some far := by
        have := bT_some hd hm (t := 1 - T) hU (fun j hj => by rw [hbef j hj]; rcases hT01 with rfl | rfl <;> omega)
        rwa [hfar] at this
      -- the leading ones
      obtain ⟨p, hpl, hlt, hend⟩ := lead_of (fun i => sqAt l i < far) d
      have hpm : p ≤ m := by
        rcases Nat.lt_or_ge m p with h | h
        · have := hlt m hm h; omega
        · exact h
      have hge : ∀ j (hj : j < d.length), p ≤ j → far ≤ sqAt l (d[j]'hj) := fun j hj hjp => by
        have hpd : p < d.length := by omega
        have h6 : ¬ sqAt l (d[p]'hpd) < far := by
          rcases hend with h | ⟨h, h'⟩
          · omega
          · exact h'
        have := near_mono hd hj hjp
        omega
      have hpts : ptsN l d m far = p := by
        refine ptsN_at (by omega) hpm hlt ?_
        by_cases e : p = m
        · exact .inl e
        · exact .inr ⟨by omega, by have := hge p (by omega) (Nat.le_refl _); omega⟩
      have hcK : cK l T (some far) l.length = p := by
        rw [cK_near hd]
        have hsp : d = d.take p ++ d.drop p := (List.take_append_drop p d).symm
        conv => lhs; rw [hsp]
        rw [List.filter_append, List.length_append, List.filter_eq_self.2, List.filter_eq_nil_iff.2]
        · rw [List.length_take, List.length_nil]; omega
        · intro i hi
          obtain ⟨j, hj, rfl⟩ := List.getElem_of_mem hi
          rw [List.length_drop] at hj
          rw [List.getElem_drop]
          have := hge (p + j) (by omega) (by omega)
          simp
          intro _
          omega
        · intro i hi
          obtain ⟨j, hj, rfl⟩ := List.getElem_of_mem hi
          rw [List.length_take] at hj
          rw [List.getElem_take]
          simp [hbef j (by omega), hlt j (by omega) (by omega)]
      rw [hpts]
      have h0 : sqAt l a ≤ far := by
        have := near_mono hd hm (Nat.zero_le m)
        rw [e0, hfar] at this; exact this
      have hp0 : p = 0 ↔ sqAt l a = far := by
        constructor
        · intro h
          have := hge 0 hd0 (by omega)
          rw [e0] at this; omega
        · intro h
          rcases Nat.eq_zero_or_pos p with h' | h'
          · exact h'
          · have := hlt 0 hd0 h'
            rw [e0] at this; omega
      unfold refT
      rcases hT01 with rfl | rfl
      · have hb1 : bT l 1 l.length = some far := hbU
        rw [hbT, hb1]
        show _ = (if sqAt l a = far then _ else if far < sqAt l a then _ else _ : Int × Int)
        by_cases hp1 : p = 0
        · rw [if_pos hp1, if_pos (hp0.1 hp1)]
        · rw [if_neg hp1, if_neg (fun h => hp1 (hp0.2 h)), if_neg (by omega), hcK]
      · have : bT l 0 l.length = some far := hbU
        rw [hbT, this]
        show _ = (if far = sqAt l a then _ else if sqAt l a < far then _ else _ : Int × Int)
        by_cases hp1 : p = 0
        · rw [if_pos hp1, if_pos (hp0.1 hp1).symm]
        · rw [if_neg hp1, if_neg (fun h => hp1 (hp0.2 h.symm)), if_pos (by have := fun h => hp1 (hp0.2 h); omega), hcK]


end Go.Proofs.YtmcpnoailbmkkaaGreatDoor
/- Layer 2: Count. -/
namespace Go.Proofs.YtmcpnoailbmkkaaGreatDoor
open Go Go.RowKit Go.Proofs
attribute [local irreducible] J JQ JL JA JD

def PrN (f : FuncId) (caps : Array Value) (p : Nat → Bool) (l : List Nat) (w0 : World) : Prop := ∀ x ∈ l, ∀ W, Below w0.heap.size w0 W → Calls Tryz.prog f (#[] ++ #[.int .i64 (x : Nat)] ++ caps) W (Back (.bool (p x)) W)
theorem teamAt_get {l : List St} {i : Nat} {x : St} (h : i < l.length) (hx : l[i]'h = x) : teamAt l i = x.t := by
 unfold teamAt; rw [List.getD_eq_getElem?_getD, List.getElem?_eq_getElem h, hx]; rfl
set_option maxRecDepth 100000 in
set_option maxHeartbeats 4000000 in
theorem IndexFuncN (f : FuncId) (caps : Array Value) (p : Nat → Bool) (l : List Nat) (v : Value) (w : World) [hf : Cf Tryz.prog f] (hcl : PrN f caps p l w) (hrow : Arr 1 eN w v l) : Calls Tryz.prog 66 #[v, .func (.func f) #[] caps] w (Back (.int .i64 (fidx p l)) w) := by
 have hrow0 := hrow
 obtain ⟨A, cap, rfl, -, ⟨hl, -⟩, hA⟩ := hrow
 refine J_enter (fun _ => False) (vs := [.slice A l.length cap, .func (.func f) #[] caps]) (k := 17) (l := [(0, .slice A l.length cap), (1, .func (.func f) #[] caps)]) Tryz.func66 rfl rfl Tryz.ntmps66 rfl rfl (Wd.start _) ?_
 refine s14 ?_
 refine xL (T := Nat) (fun k => k ≤ l.length ∧ ∀ j (hj : j < l.length), j < k → p (l[j]'hj) = false) (fun k => [(0, .slice A l.length cap), (1, .func (.func f) #[] caps), (7, .int .i64 (l.length : Nat)), (8, .int .i64 (k : Nat))]) (fun k => []) (fun k => l.length - k) 0 ⟨Nat.zero_le _, fun j _ h => absurd h (Nat.not_lt_zero _)⟩ ?_
 rintro k ⟨hk, hall⟩
 refine s3 ?_
 refine JL_dec (fun h9 => ?_) (fun h9 => ?_)
 ·refine s15 ?_
  have hltx : k < l.length := by omega
  obtain ⟨bx, qx, rfl, hh⟩ := hA (by intro e; subst e; simp at hltx)
  obtain ⟨x, hx⟩ : ∃ y, l[k]'hltx = y := ⟨_, rfl⟩
  have hmx : x ∈ l := by rw [← hx]; exact List.getElem_mem _
  refine s5 ?_
  refine aV (vHold (v := .int .i64 (x : Nat)) rfl rfl (fun h => h) hh hltx (by omega) (by rw [hx]; rfl)) ?_
  refine aW (ow_callB (ec_val rfl rfl rfl Cf.h) rfl rfl (fun w hw => hcl x hmx w hw.bel)) (fun _ _ => ?_)
  refine JL_bool (fun h16 => ?_) (fun h16 => ?_)
  ·refine s4 ?_
   refine kJ [(5, _)] ?_
   refine s11 ?_
   refine JR_one rfl (rr_tmp rfl) ?_
   intro w' hw
   exact ⟨by rw [fidx_at hltx (by rw [hx]; exact h16) (fun j hj => hall j (by omega) hj)], hw.bel⟩
  ·refine s6 ?_
   refine kJ [(0, _), (1, _), (7, _), (8, _)] ?_
   refine s4 ?_
   have hn : ∀ j (hj : j < l.length), j < k + 1 → p (l[j]'hj) = false := fun j hj hjk => by
    rcases Nat.lt_or_ge j k with h | h
    ·exact hall j hj h
    ·obtain rfl : j = k := by omega
     rw [hx]; exact h16
   exact xR (k + 1) ⟨by omega, hn⟩ (by omega) (hl := ⟨rfl, rfl, rfl, (congrArg some (by go_num)), trivial⟩)
 ·refine s10 ?_
  refine kJ [] ?_
  refine s5 ?_
  refine JR_one rfl (rr_tmp rfl) ?_
  intro w' hw
  exact ⟨by rw [fidx_none (fun j hj => hall j hj (by omega))], hw.bel⟩
set_option maxRecDepth 100000 in
set_option maxHeartbeats 4000000 in
theorem cnt1_any (l : List St) (A : Option Addr) (cap b b2 : Nat) (T : Int) (i : Nat) (w : World) (hc : (cellB b [.slice A l.length cap] 24).holds w) (hc2 : (cellB b2 [.int .i64 T] 3).holds w) (hrow : Arr 4 eT w (.slice A l.length cap) l) (hi : i < l.length) : Calls Tryz.prog 67 (#[] ++ #[.int .i64 (i : Nat)] ++ #[.pointer (some ⟨b, 0, none⟩), .pointer (some ⟨b2, 0, none⟩)]) w (Back (.bool (decide (teamAt l i ≠ T))) w) := by
 obtain ⟨A', cap', e0, -, ⟨hl, -⟩, hAl⟩ := hrow
 obtain ⟨rfl, -, rfl⟩ : A = A' ∧ True ∧ cap = cap' := by injection e0 with e1 _ e3; exact ⟨e1, trivial, e3⟩
 obtain ⟨bx, qx, rfl, hh⟩ := hAl (by intro e; subst e; simp at hi)
 have hltx : i < l.length := hi
 obtain ⟨⟨xt, xn, xx, xy⟩, hx⟩ : ∃ y, l[i]'hltx = y := ⟨_, rfl⟩
 have hmx : (⟨xt, xn, xx, xy⟩ : St) ∈ l := by rw [← hx]; exact List.getElem_mem _
 refine J_enter (fun _ => False) (vs := [.int .i64 (i : Nat), .pointer (some ⟨b, 0, none⟩), .pointer (some ⟨b2, 0, none⟩)]) (k := 9) (l := [(0, .int .i64 (i : Nat)), (1, .pointer (some ⟨b, 0, none⟩)), (2, .pointer (some ⟨b2, 0, none⟩))]) Tryz.func67 rfl rfl Tryz.ntmps67 rfl rfl (Wd.start _) ?_
 refine s6 ?_
 refine xD [0, 1, 2, 3, 4, 5, 6, 7] [0, 4, 5] ?_
 refine dL rfl (vOld rfl rfl (fun h => h) (cellB_get hc rfl)) ?_
 refine s1 ?_
 refine dP rfl (pIdxI (i) rfl rfl rfl) ?_
 refine s1 ?_
 refine dL rfl (vHold (v := .int .i64 xt) rfl rfl (fun h => h) hh hltx (by omega) (by rw [hx]; rfl)) ?_
 refine dL rfl (vOld rfl rfl (fun h => h) (cellB_get hc2 rfl)) ?_
 refine s5 ?_
 refine JR_one rfl (rr_tmp rfl) ?_
 intro w' hw
 exact ⟨by rw [teamAt_get hltx hx], hw.bel⟩
/-- Who counts, how many; the error. -/
def cntF (l : List St) : Int × Int × Int := if chkB l = true then ((refT l).1, (refT l).2, 0) else (0, 0, 2)
theorem cnt_at {l : List St} {L : List Nat} {p q : Int} (hc : chkB l = true) (hL : NrP l L) (h : cntT l L = (p, q)) : Value.tuple #[.int .i64 p, .int .i64 q, .int .i64 0] = .tuple #[.int .i64 (cntF l).1, .int .i64 (cntF l).2.1, .int .i64 (cntF l).2.2] := by
 have h1 := cnt_ref hL (fun i hi => by
  have hi2 := hsA_mem (hL.1.mem_iff.1 hi)
  have h2 := (chk_facts hc).2 i hi2
  rw [teamAt_get hi2 rfl]
  unfold okSt at h2
  omega)
 unfold cntF
 rw [if_pos hc, ← h1, h]
theorem bne_dec (l : List St) (T : Int) : (fun i => teamAt l i != T) = fun i => decide (teamAt l i ≠ T) := by
 funext i
 by_cases h : teamAt l i = T
 ·simp [h]
 ·simp [h]
set_option maxRecDepth 100000 in
set_option maxHeartbeats 4000000 in
theorem Count_any (l : List St) (v : Value) (w : World) (hrow : Arr 4 eT w v l) : Calls Tryz.prog 23 #[v] w (Back (.tuple #[.int .i64 (cntF l).1, .int .i64 (cntF l).2.1, .int .i64 (cntF l).2.2]) w) := by
 have hrow0 := hrow
 obtain ⟨A, cap, rfl, -, ⟨hl, -⟩, hA⟩ := hrow
 refine J_enter (fun _ => False) (vs := [.slice A l.length cap]) (k := 61) (l := [(0, .slice A l.length cap)]) Tryz.func23 rfl rfl Tryz.ntmps23 rfl rfl (Wd.start _) ?_
 refine s2 ?_
 refine aW (oX [_]) (fun b1 hb1 => ?_)
 refine aW oA (fun b2 hb2 => ?_)
 refine s8 ?_
 refine aCB (fun w hw => Check_any l _ w (hrow0.up ET hw.bel)) ?_
 refine JL_bool (fun h9 => ?_) (fun h9 => ?_)
 ·refine s7 ?_
  have hl16 := (chk_facts h9).1
  have okm : ∀ s ∈ l, okSt s := fun s hs => by
   obtain ⟨j, hj, rfl⟩ := List.getElem_of_mem hs
   exact (chk_facts h9).2 j hj
  refine kJ [(1, _), (2, _), (3, _)] ?_
  refine s2 ?_
  refine aW (oR (fun w hw => nearest_any l _ w (hrow0.up ET hw.bel) (fun s hs => (okm s hs).2.1) (fun s hs => (okm s hs).2.2) (by omega))) (fun t12 ht12 => ?_)
  obtain ⟨L, lA, lc⟩ := t12
  dsimp only at ht12 ⊢
  have hL := ht12
  refine s9 ?_
  refine JL_dec (fun h15 => ?_) (fun h15 => ?_)
  ·refine s4 ?_
   refine kJ [(2, _)] ?_
   refine s8 ?_
   refine JR_three rfl (rr_cell rfl Agg.h (by repeat constructor) (by rfl)) (rr_tmp rfl) (rr_tmp rfl) ?_
   intro w' hw
   obtain rfl : L = [] := List.length_eq_zero_iff.1 (by omega)
   exact ⟨congrArg Ending.returned (cnt_at h9 hL (p := -1) (q := 0) rfl), hw.bel⟩
  ·refine s6 ?_
   obtain ⟨a, ds, rfl⟩ : ∃ a ds, L = a :: ds := by
    cases L with
    | nil => exact absurd rfl h15
    | cons a ds => exact ⟨a, ds, rfl⟩
   refine J_fact (fun hw => ?_)
   obtain ⟨g, rfl⟩ := own_some hw (ty := 3) (k := 1) (m := (a :: ds).length) (c := lc) (A := lA) (xs := (a :: ds).flatMap eN) (by repeat constructor) (by simp)
   clear hw
   have hLl : ∀ i ∈ a :: ds, i < l.length := fun i hi => hsA_mem (hL.1.mem_iff.1 hi)
   have hal : a < l.length := hLl a (by simp)
   obtain ⟨bx, qx, rfl, hh⟩ := hA (by intro e; subst e; simp at hal)
   obtain ⟨⟨xt, xn, xx, xy⟩, hx⟩ : ∃ y, l[a]'hal = y := ⟨_, rfl⟩
   have hta : teamAt l a = xt := teamAt_get hal hx
   have hL0 : 0 < (a :: ds).length := by simp
   have hL16 : (a :: ds).length ≤ 16 := by rw [hL.1.length_eq]; have := hsN_len l l.length; unfold hsA; omega
   refine kJ [(1, _), (2, _), (3, _), (5, _)] ?_
   refine xDx [0, 1, 2, 3, 4, 5, 6, 7] [] [0, 3, 6] [cellB b1 [.slice (some ⟨bx, qx, none⟩) l.length cap] 24, ownB 3 1 (some ⟨g, 0, none⟩) (a :: ds).length lc ((a :: ds).flatMap eN)] ?_
   refine s2 ?_
   refine dP rfl (pIdxI (0) rfl rfl rfl rfl) ?_
   refine dX rfl (vOwn (v := .int .i64 (a : Nat)) EN (L := a :: ds) (j := 0) rfl rfl (by repeat constructor) (by simp) (by omega) rfl) ?_
   refine dP rfl (pIdxI (a) rfl rfl rfl) ?_
   refine s1 ?_
   refine dX rfl (vHold (v := .int .i64 xt) rfl rfl (fun h => h) hh hal (by omega) (by rw [hx]; rfl)) ?_
   refine s4 ?_
   refine kJ [(1, _), (2, _), (3, _), (5, _)] ?_
   refine s3 ?_
   refine aCB (fun w hw => IndexFuncN 67 #[.pointer (some ⟨b1, 0, none⟩), .pointer (some ⟨b2, 0, none⟩)] (fun i => decide (teamAt l i ≠ xt)) (a :: ds) _ w (fun i hi W hW => cnt1_any l (some ⟨bx, qx, none⟩) cap b1 b2 xt i W ((hw.up hW).ok (cellB b1 [.slice (some ⟨bx, qx, none⟩) l.length cap] 24) (by repeat constructor)).1 ((hw.up hW).ok (cellB b2 [.int .i64 (xt)] 3) (by repeat constructor)).1 (hrow0.up ET (hw.up hW).bel) (hLl i hi)) (own_arr (A := some ⟨g, 0, none⟩) (c := lc) EN hw (by repeat constructor) (by omega))) ?_
   refine s8 ?_
   refine JL_dec (fun h27 => ?_) (fun h27 => ?_)
   ·refine s4 ?_
    refine kJ [(2, _), (5, _)] ?_
    refine s11 ?_
    refine JR_three rfl (rr_cell rfl Agg.h (by repeat constructor) (by rfl)) (rr_tmp rfl) (rr_tmp rfl) ?_
    intro w' hw
    exact ⟨congrArg Ending.returned (cnt_at h9 hL (p := xt) (q := (((a :: ds).length : Nat) : Int)) (by unfold cntT; dsimp only; rw [hta, bne_dec, if_pos h27])), hw.bel⟩
   ·refine s6 ?_
    rcases fidx_two (fun i => decide (teamAt l i ≠ xt)) (a :: ds) with ⟨hfm, -⟩ | ⟨m, hm, hfm, -, -⟩
    ·exact absurd (by rw [hfm]; decide) h27
    rw [hfm]
    obtain ⟨far, hfar⟩ : ∃ far, sqAt l ((a :: ds)[m]'hm) = far := ⟨_, rfl⟩
    obtain ⟨u, hu⟩ : ∃ u, (a :: ds)[m]'hm = u := ⟨_, rfl⟩
    have hul : u < l.length := hLl u (by rw [← hu]; exact List.getElem_mem _)
    obtain ⟨⟨yt, yn, yx, yy⟩, hy⟩ : ∃ y, l[u]'hul = y := ⟨_, rfl⟩
    have hmy : (⟨yt, yn, yx, yy⟩ : St) ∈ l := by rw [← hy]; exact List.getElem_mem _
    have hfy : sqd yx yy = far := by rw [← hfar, hu, sqAt_get hul hy]
    refine kJ [(1, _), (2, _), (3, _), (5, _), (6, _)] ?_
    refine xD [0, 1, 2, 3, 4, 5, 6, 7, 8, 9] [0, 4, 7] ?_
    refine s3 ?_
    refine dP rfl (pIdxI (m) rfl rfl rfl) ?_
    refine dL rfl (vOwn (v := .int .i64 (u : Nat)) EN (L := a :: ds) (j := m) rfl rfl (by repeat constructor) hm (by omega) (by rw [hu]; rfl)) ?_
    refine dP rfl (pIdxI (u) rfl rfl rfl) ?_
    refine s1 ?_
    refine dL rfl (vHoldP (i := 2) (m := 2) (cs := [.int .i64 yx, .int .i64 yy]) rfl rfl (fun h => h) hh hul rfl (by omega) (by rw [hy]; rfl)) ?_
    refine dCB rfl (fun w hw => square_any yx yy (play_bound (okm _ hmy).2.2) w) ?_
    refine s5 ?_
    refine xL (T := Nat) (fun k => k ≤ m ∧ ∀ j (hj : j < (a :: ds).length), j < k → sqAt l ((a :: ds)[j]'hj) < far) (fun k => [(1, .pointer (some ⟨b1, 0, none⟩)), (2, .pointer (some ⟨b2, 0, none⟩)), (3, .int .i64 (k : Nat)), (5, .slice (some ⟨g, 0, none⟩) (a :: ds).length lc), (6, .int .i64 (m : Nat)), (7, .int .i64 far)]) (fun k => [cellB b1 [.slice (some ⟨bx, qx, none⟩) l.length cap] 24, cellB b2 [.int .i64 (xt)] 3, ownB 3 1 (some ⟨g, 0, none⟩) (a :: ds).length lc ((a :: ds).flatMap eN)]) (fun k => m - k) 0 ⟨Nat.zero_le _, fun j _ h => absurd h (Nat.not_lt_zero _)⟩ ?_ (hl := ⟨rfl, rfl, rfl, rfl, rfl, (by rw [hfy]; rfl), trivial⟩)
    rintro k ⟨hkm, hall⟩
    refine s2 ?_
    by_cases hkm2 : k < m
    ·have hkd : k < (a :: ds).length := by omega
     obtain ⟨v, hv⟩ : ∃ v, (a :: ds)[k]'hkd = v := ⟨_, rfl⟩
     have hvl : v < l.length := hLl v (by rw [← hv]; exact List.getElem_mem _)
     obtain ⟨⟨zt, zn, zx, zy⟩, hz⟩ : ∃ y, l[v]'hvl = y := ⟨_, rfl⟩
     have hmz : (⟨zt, zn, zx, zy⟩ : St) ∈ l := by rw [← hz]; exact List.getElem_mem _
     refine xD [0, 1, 2, 3, 4, 5, 6, 7, 8, 9, 10, 11, 13, 12, 14] [4, 8, 11] ?_
     refine s3 ?_
     refine dDecT ?_ (by omega)
     refine s4 ?_
     refine dP rfl (pIdxI (k) rfl rfl rfl) ?_
     refine dL rfl (vOwn (v := .int .i64 (v : Nat)) EN (L := a :: ds) (j := k) rfl rfl (by repeat constructor) hkd (by omega) (by rw [hv]; rfl)) ?_
     refine dP rfl (pIdxI (v) rfl rfl rfl) ?_
     refine s1 ?_
     refine dL rfl (vHoldP (i := 2) (m := 2) (cs := [.int .i64 zx, .int .i64 zy]) rfl rfl (fun h => h) hh hvl rfl (by omega) (by rw [hz]; rfl)) ?_
     refine s1 ?_
     refine dCB rfl (fun w hw => square_any zx zy (play_bound (okm _ hmz).2.2) w) ?_
     refine s1 ?_
     refine dDec (fun h54 => ?_) (fun h54 => ?_)
     ·refine dO [15] ?_
      refine s7 ?_
      refine kJ [(1, _), (2, _), (3, _), (5, _), (6, _), (7, _)] ?_
      refine s6 ?_
      have hn : ∀ j (hj : j < (a :: ds).length), j < k + 1 → sqAt l ((a :: ds)[j]'hj) < far := fun j hj hjk => by
       rcases Nat.lt_or_ge j k with h | h
       ·exact hall j hj h
       ·obtain rfl : j = k := by omega
        rw [hv, sqAt_get hvl hz]; exact h54
      exact xR (k + 1) ⟨by omega, hn⟩ (by omega) (hl := ⟨rfl, rfl, (congrArg some (by go_num)), rfl, rfl, rfl, trivial⟩)
     ·refine dO [15] ?_
      refine s11 ?_
      refine kJ [(2, _), (3, _)] ?_
      refine s3 ?_
      refine JL_dec (fun h59 => ?_) (fun h59 => ?_)
      ·refine s12 ?_
       refine JR_three rfl (rr_cell rfl Agg.h (by repeat constructor) (by rfl)) (rr_tmp rfl) (rr_tmp rfl) ?_
       intro w' hw
       have hpt : ptsN l (a :: ds) m far = k := ptsN_at (by omega) hkm hall (.inr ⟨by omega, by rw [hv, sqAt_get hvl hz]; exact h54⟩)
       have hgd : (a :: ds).getD m 0 = u := by rw [List.getD_eq_getElem?_getD, List.getElem?_eq_getElem hm, hu]; rfl
       have hsu : sqAt l u = far := by rw [← hfar, hu]
       exact ⟨congrArg Ending.returned (cnt_at h9 hL (p := -1) (q := 0) (by unfold cntT; dsimp only; rw [hta, bne_dec, hfm, if_neg (by omega), Int.toNat_natCast, hgd, hsu, hpt, if_pos (by omega)])), hw.bel⟩
      ·refine s15 ?_
       refine JR_three rfl (rr_cell rfl Agg.h (by repeat constructor) (by rfl)) (rr_tmp rfl) (rr_tmp rfl) ?_
       intro w' hw
       have hpt : ptsN l (a :: ds) m far = k := ptsN_at (by omega) hkm hall (.inr ⟨by omega, by rw [hv, sqAt_get hvl hz]; exact h54⟩)
       have hgd : (a :: ds).getD m 0 = u := by rw [List.getD_eq_getElem?_getD, List.getElem?_eq_getElem hm, hu]; rfl
       have hsu : sqAt l u = far := by rw [← hfar, hu]
       exact ⟨congrArg Ending.returned (cnt_at h9 hL (p := xt) (q := ((k : Nat) : Int)) (by unfold cntT; dsimp only; rw [hta, bne_dec, hfm, if_neg (by omega), Int.toNat_natCast, hgd, hsu, hpt, if_neg (by omega)])), hw.bel⟩
    ·refine xD [0, 1, 2, 3, 4, 5, 6, 7, 8, 9, 10, 11, 12, 13, 14, 15] [4, 8, 11] ?_
     refine s3 ?_
     refine dDecF ?_ (by omega)
     refine s23 ?_
     refine kJ [(2, _), (3, _)] ?_
     refine s3 ?_
     refine JL_dec (fun h59 => ?_) (fun h59 => ?_)
     ·refine s12 ?_
      refine JR_three rfl (rr_cell rfl Agg.h (by repeat constructor) (by rfl)) (rr_tmp rfl) (rr_tmp rfl) ?_
      intro w' hw
      have hpt : ptsN l (a :: ds) m far = k := ptsN_at (by omega) hkm hall (.inl (by omega))
      have hgd : (a :: ds).getD m 0 = u := by rw [List.getD_eq_getElem?_getD, List.getElem?_eq_getElem hm, hu]; rfl
      have hsu : sqAt l u = far := by rw [← hfar, hu]
      exact ⟨congrArg Ending.returned (cnt_at h9 hL (p := -1) (q := 0) (by unfold cntT; dsimp only; rw [hta, bne_dec, hfm, if_neg (by omega), Int.toNat_natCast, hgd, hsu, hpt, if_pos (by omega)])), hw.bel⟩
     ·refine s15 ?_
      refine JR_three rfl (rr_cell rfl Agg.h (by repeat constructor) (by rfl)) (rr_tmp rfl) (rr_tmp rfl) ?_
      intro w' hw
      have hpt : ptsN l (a :: ds) m far = k := ptsN_at (by omega) hkm hall (.inl (by omega))
      have hgd : (a :: ds).getD m 0 = u := by rw [List.getD_eq_getElem?_getD, List.getElem?_eq_getElem hm, hu]; rfl
      have hsu : sqAt l u = far := by rw [← hfar, hu]
      exact ⟨congrArg Ending.returned (cnt_at h9 hL (p := xt) (q := ((k : Nat) : Int)) (by unfold cntT; dsimp only; rw [hta, bne_dec, hfm, if_neg (by omega), Int.toNat_natCast, hgd, hsu, hpt, if_neg (by omega)])), hw.bel⟩
 ·refine s5 ?_
  refine kJ [(2, _)] ?_
  refine s8 ?_
  refine JR_three rfl (rr_cell rfl Agg.h (by repeat constructor) (by rfl)) (rr_tmp rfl) (rr_tmp rfl) ?_
  intro w' hw
  exact ⟨by unfold cntF; rw [h9]; rfl, hw.bel⟩
end Go.Proofs.YtmcpnoailbmkkaaGreatDoor
/- Layer 8: how a game stands behind a line. -/
namespace Go.Proofs.YtmcpnoailbmkkaaGreatDoor
open Go Go.RowKit Go.Proofs
attribute [local irreducible] J JQ JL JA JD

/-- A match; a line of a card; how a game stands. -/
structure Mt where
 e : Int
 m : Int
 y : Int
 ch : Bool
 pw : Bool
structure Lc where
 t : Int
 p : Int
 pw : Bool
structure Sg where
 p0 : Int
 p1 : Int
 e : Int
 h : Int
 w : Int
 o : Bool
 x : Bool
 w0 : Bool
 w1 : Bool
def okM (m : Mt) : Bool := decide (1 ≤ m.e ∧ m.e ≤ 16) && decide (1 ≤ m.m ∧ m.m ≤ 8) && decide (1 ≤ m.y ∧ m.y ≤ m.e)
def bgS (first : Int) : Sg := ⟨0, 0, 0, first, -1, false, false, false, false⟩
def inI (n a b : Int) : Bool := decide (a ≤ n ∧ n ≤ b)
def pwH (s : Sg) : Bool := if s.h = 0 then s.w0 else s.w1
/-- What can be wrong with a line, in order. -/
def wrK (m : Mt) (s : Sg) (x : Lc) : Nat → Bool
 | 0 => s.o
 | 1 => !inI x.t (-1) 1
 | 2 => decide (x.t = -1) && !decide (x.p = 0)
 | 3 => !decide (x.t = -1) && !inI x.p 1 m.m
 | _ => x.pw && (!m.pw || decide (m.e ≤ s.e) || pwH s)
def wrB (m : Mt) (s : Sg) (x : Lc) : Bool := wrK m s x 0 || wrK m s x 1 || wrK m s x 2 || wrK m s x 3 || wrK m s x 4
def endG (s : Sg) (w : Int) : Sg := ⟨s.p0, s.p1, s.e, -1, w, true, false, s.w0, s.w1⟩
/-- A line's power play; an end more; its points; what comes behind them. -/
def pl1 (s : Sg) (x : Lc) : Sg := ⟨s.p0, s.p1, s.e, s.h, s.w, s.o, s.x, s.w0 || (x.pw && decide (s.h = 0)), s.w1 || (x.pw && !decide (s.h = 0))⟩
def pl2 (m : Mt) (s : Sg) (x : Lc) : Sg := if x.t = 0 then ⟨s.p0 + x.p, s.p1, s.e + 1, 1, s.w, s.o, s.x, s.w0, s.w1⟩ else if x.t = -1 then ⟨s.p0, s.p1, s.e + 1, if m.ch then 1 - s.h else s.h, s.w, s.o, s.x, s.w0, s.w1⟩ else ⟨s.p0, s.p1 + x.p, s.e + 1, 0, s.w, s.o, s.x, s.w0, s.w1⟩
def pl3 (m : Mt) (s : Sg) : Sg := let s := { s with x := decide (m.e ≤ s.e) }
 if m.e ≤ s.e ∧ s.p1 < s.p0 then endG s 0 else if m.e ≤ s.e ∧ s.p0 < s.p1 then endG s 1 else s
def plS (m : Mt) (s : Sg) (x : Lc) : Sg := pl3 m (pl2 m (pl1 s x) x)
/-- How a game stands behind the first k lines; how many of its lines are played. -/
def stN (m : Mt) (s : Sg) (l : List Lc) (k : Nat) : Sg := (l.take k).foldl (plS m) s
def nF (m : Mt) (s : Sg) : List Lc → Nat
 | [] => 0
 | x :: l => if wrB m s x then 0 else nF m (plS m s x) l + 1
theorem stN_s {m : Mt} {s : Sg} {l : List Lc} {k : Nat} {x : Lc} (h : k < l.length) (hx : l[k]'h = x) : stN m s l (k + 1) = plS m (stN m s l k) x := by
 unfold stN; rw [List.take_succ_eq_append_getElem h, List.foldl_append, hx]; rfl
/-- Ahead of line k every line is right; so the number is k, if line k is wrong, or there is none. -/
theorem nF_at {m : Mt} : ∀ (l : List Lc) (s : Sg) (k : Nat), k ≤ l.length → (∀ j (h : j < l.length), j < k → wrB m (stN m s l j) (l[j]'h) = false) → (∀ h : k < l.length, wrB m (stN m s l k) (l[k]'h) = true) → nF m s l = k := by
 intro l
 induction l with
 | nil => intro s k hk _ _; exact (Nat.le_zero.1 hk).symm
 | cons x l ih =>
  intro s k hk h1 h2
  unfold nF
  cases k with
  | zero => rw [if_pos (show wrB m s x = true from h2 (by simp))]
  | succ k =>
   have h0 : wrB m s x = false := h1 0 (by simp) (by omega)
   rw [h0, if_neg (by decide), ih (plS m s x) k (by simpa using hk) (fun j h hj => ?_) (fun h => ?_)]
   ·exact h1 (j + 1) (by simpa using h) (by omega)
   ·exact h2 (by simpa using h)
/-- What is kept: so many ends, points within bounds, a hammer while it goes on. -/
structure SgI (m : Mt) (n : Nat) (s : Sg) : Prop where
 e : s.e = n
 p0 : 0 ≤ s.p0 ∧ s.p0 ≤ 8 * n
 p1 : 0 ≤ s.p1 ∧ s.p1 ≤ 8 * n
 h : s.o = false → s.h = 0 ∨ s.h = 1
 w : s.o = true → (s.w = 0 ∧ s.p1 < s.p0) ∨ (s.w = 1 ∧ s.p0 < s.p1)
theorem SgI.bg {m : Mt} {f : Int} (h : f = 0 ∨ f = 1) : SgI m 0 (bgS f) := ⟨rfl, ⟨Int.le_refl _, Int.le_refl _⟩, ⟨Int.le_refl _, Int.le_refl _⟩, fun _ => h, fun h => by cases h⟩
theorem wr_no {m : Mt} {s : Sg} {x : Lc} (h : wrB m s x = false) : s.o = false ∧ ((x.t = -1 ∧ x.p = 0) ∨ ((x.t = 0 ∨ x.t = 1) ∧ 1 ≤ x.p ∧ x.p ≤ m.m)) := by
 unfold wrB wrK inI at h
 simp only [Bool.or_eq_false_iff, Bool.and_eq_false_iff, Bool.not_eq_false', decide_eq_true_eq, decide_eq_false_iff_not] at h
 obtain ⟨⟨⟨⟨h0, h1⟩, h2⟩, h3⟩, -⟩ := h
 refine ⟨h0, ?_⟩
 omega
theorem SgI.pl {m : Mt} {n : Nat} {s : Sg} {x : Lc} (hm : m.m ≤ 8) (hi : SgI m n s) (h : wrB m s x = false) : SgI m (n + 1) (plS m s x) := by
 obtain ⟨h0, h1⟩ := wr_no h
 obtain ⟨i1, i2, i3, i4, i5⟩ := hi
 obtain ⟨p0, p1, e, hm', w, o, xx, w0, w1⟩ := s
 dsimp only at *
 subst h0
 have h4 := i4 rfl
 unfold plS pl1 pl2 pl3 endG
 dsimp only
 by_cases ht0 : x.t = 0
 ·rw [if_pos ht0]
  dsimp only
  by_cases c1 : m.e ≤ e + 1 ∧ p1 < p0 + x.p
  ·rw [if_pos c1]; exact ⟨by dsimp only; omega, by dsimp only; omega, by dsimp only; omega, fun h => (by cases h), fun _ => .inl ⟨rfl, c1.2⟩⟩
  ·rw [if_neg c1]
   by_cases c2 : m.e ≤ e + 1 ∧ p0 + x.p < p1
   ·rw [if_pos c2]; exact ⟨by dsimp only; omega, by dsimp only; omega, by dsimp only; omega, fun h => (by cases h), fun _ => .inr ⟨rfl, c2.2⟩⟩
   ·rw [if_neg c2]; exact ⟨by dsimp only; omega, by dsimp only; omega, by dsimp only; omega, fun _ => .inr rfl, fun h => (by cases h)⟩
 ·rw [if_neg ht0]
  by_cases ht1 : x.t = -1
  ·rw [if_pos ht1]
   dsimp only
   have hh : (if m.ch = true then 1 - hm' else hm') = 0 ∨ (if m.ch = true then 1 - hm' else hm') = 1 := by split <;> omega
   by_cases c1 : m.e ≤ e + 1 ∧ p1 < p0
   ·rw [if_pos c1]; exact ⟨by dsimp only; omega, by dsimp only; omega, by dsimp only; omega, fun h => (by cases h), fun _ => .inl ⟨rfl, c1.2⟩⟩
   ·rw [if_neg c1]
    by_cases c2 : m.e ≤ e + 1 ∧ p0 < p1
    ·rw [if_pos c2]; exact ⟨by dsimp only; omega, by dsimp only; omega, by dsimp only; omega, fun h => (by cases h), fun _ => .inr ⟨rfl, c2.2⟩⟩
    ·rw [if_neg c2]; exact ⟨by dsimp only; omega, by dsimp only; omega, by dsimp only; omega, fun _ => hh, fun h => (by cases h)⟩
  ·rw [if_neg ht1]
   dsimp only
   by_cases c1 : m.e ≤ e + 1 ∧ p1 + x.p < p0
   ·rw [if_pos c1]; exact ⟨by dsimp only; omega, by dsimp only; omega, by dsimp only; omega, fun h => (by cases h), fun _ => .inl ⟨rfl, c1.2⟩⟩
   ·rw [if_neg c1]
    by_cases c2 : m.e ≤ e + 1 ∧ p0 < p1 + x.p
    ·rw [if_pos c2]; exact ⟨by dsimp only; omega, by dsimp only; omega, by dsimp only; omega, fun h => (by cases h), fun _ => .inr ⟨rfl, c2.2⟩⟩
    ·rw [if_neg c2]; exact ⟨by dsimp only; omega, by dsimp only; omega, by dsimp only; omega, fun _ => .inl rfl, fun h => (by cases h)⟩
theorem SgI.stN {m : Mt} {l : List Lc} {s : Sg} (hm : m.m ≤ 8) (hi : SgI m 0 s) : ∀ k, k ≤ l.length → (∀ j (h : j < l.length), j < k → wrB m (stN m s l j) (l[j]'h) = false) → SgI m k (stN m s l k) := by
 intro k
 induction k with
 | zero => intro _ _; exact hi
 | succ k ih =>
  intro hk h1
  rw [stN_s (show k < l.length by omega) rfl]
  exact (ih (by omega) (fun j h hj => h1 j h (by omega))).pl hm (h1 k (by omega) (by omega))
/-- A card whose lines are all right, and one more. -/
theorem nF_app {m : Mt} : ∀ (l : List Lc) (s : Sg) (x : Lc), nF m s l = l.length → wrB m (l.foldl (plS m) s) x = false → nF m s (l ++ [x]) = l.length + 1 := by
 intro l
 induction l with
 | nil => intro s x _ h; show nF m s [x] = 1; unfold nF; rw [if_neg (show ¬ wrB m s x = true by rw [show wrB m s x = false from h]; decide)]; rfl
 | cons y l ih =>
  intro s x h1 h2
  unfold nF at h1
  split at h1
  ·cases h1
  ·rename_i h3
   show nF m s (y :: (l ++ [x])) = _
   unfold nF
   rw [if_neg h3, ih _ _ (by simpa using h1) h2]; rfl
theorem wr_ok {m : Mt} {s : Sg} {x : Lc} (h0 : s.o = false) (hp : x.pw = false) (h : (x.t = -1 ∧ x.p = 0) ∨ ((x.t = 0 ∨ x.t = 1) ∧ 1 ≤ x.p ∧ x.p ≤ m.m)) : wrB m s x = false := by
 unfold wrB wrK inI
 simp only [Bool.or_eq_false_iff, Bool.and_eq_false_iff, Bool.not_eq_false', decide_eq_true_eq, decide_eq_false_iff_not]
 refine ⟨⟨⟨⟨h0, ?_⟩, ?_⟩, ?_⟩, .inl hp⟩ <;> omega
theorem wrB_k {m : Mt} {s : Sg} {x : Lc} : wrB m s x = (List.range 5).any (wrK m s x) := by
 unfold wrB; simp [List.range, List.range.loop, Bool.or_assoc]
abbrev Sgv (s : Sg) : Value := .agg #[.int .i64 s.p0, .int .i64 s.p1, .int .i64 s.e, .int .i64 s.h, .int .i64 s.w, .bool s.o, .bool s.x, .bool s.w0, .bool s.w1]
abbrev Mtv (m : Mt) : Value := .agg #[.int .i64 m.e, .int .i64 m.m, .int .i64 m.y, .bool m.ch, .bool m.pw]
abbrev Lcv (x : Lc) : Value := .agg #[.int .i64 x.t, .int .i64 x.p, .bool x.pw]
abbrev stC (b : Nat) (s : Sg) (m : Mt) : It := cellB b [.int .i64 s.p0, .int .i64 s.p1, .int .i64 s.e, .int .i64 s.h, .int .i64 s.w, .bool s.o, .bool s.x, .bool s.w0, .bool s.w1, .int .i64 m.e, .int .i64 m.m, .int .i64 m.y, .bool m.ch, .bool m.pw] 130
set_option maxRecDepth 100000 in
set_option maxHeartbeats 4000000 in
theorem gwithin (n a b : Int) (w : World) : Calls Tryz.prog 49 #[.int .i64 n, .int .i64 a, .int .i64 b] w (Back (.bool (decide (a ≤ n ∧ n ≤ b))) w) := by
 refine J_enter (fun _ => False) (vs := [.int .i64 n, .int .i64 a, .int .i64 b]) (k := 12) (l := [(0, .int .i64 n), (1, .int .i64 a), (2, .int .i64 b)]) Tryz.func49 rfl rfl Tryz.ntmps49 rfl rfl (Wd.start _) ?_
 refine s10 ?_
 refine JL_dec (fun h9 => ?_) (fun h9 => ?_)
 ·refine s4 ?_
  refine JL_dec (fun h13 => ?_) (fun h13 => ?_)
  ·refine s5 ?_
   refine JR_one rfl (rr_tmp rfl) ?_
   intro w' hw
   exact ⟨by congr 2; exact (by first | exact (decide_eq_true (by omega)).symm | exact (decide_eq_false (by omega)).symm), hw.bel⟩
  ·refine s5 ?_
   refine JR_one rfl (rr_tmp rfl) ?_
   intro w' hw
   exact ⟨by congr 2; exact (by first | exact (decide_eq_true (by omega)).symm | exact (decide_eq_false (by omega)).symm), hw.bel⟩
 ·refine s9 ?_
  refine JR_one rfl (rr_tmp rfl) ?_
  intro w' hw
  exact ⟨by congr 2; exact (by first | exact (decide_eq_true (by omega)).symm | exact (decide_eq_false (by omega)).symm), hw.bel⟩
set_option maxRecDepth 100000 in
set_option maxHeartbeats 4000000 in
theorem cwithin (n a b : Int) (w : World) : Calls Tryz.prog 112 #[.int .i64 n, .int .i64 a, .int .i64 b] w (Back (.bool (decide (a ≤ n ∧ n ≤ b))) w) := by
 refine J_enter (fun _ => False) (vs := [.int .i64 n, .int .i64 a, .int .i64 b]) (k := 12) (l := [(0, .int .i64 n), (1, .int .i64 a), (2, .int .i64 b)]) Tryz.func112 rfl rfl Tryz.ntmps112 rfl rfl (Wd.start _) ?_
 refine s10 ?_
 refine JL_dec (fun h9 => ?_) (fun h9 => ?_)
 ·refine s4 ?_
  refine JL_dec (fun h13 => ?_) (fun h13 => ?_)
  ·refine s5 ?_
   refine JR_one rfl (rr_tmp rfl) ?_
   intro w' hw
   exact ⟨by congr 2; exact (by first | exact (decide_eq_true (by omega)).symm | exact (decide_eq_false (by omega)).symm), hw.bel⟩
  ·refine s5 ?_
   refine JR_one rfl (rr_tmp rfl) ?_
   intro w' hw
   exact ⟨by congr 2; exact (by first | exact (decide_eq_true (by omega)).symm | exact (decide_eq_false (by omega)).symm), hw.bel⟩
 ·refine s9 ?_
  refine JR_one rfl (rr_tmp rfl) ?_
  intro w' hw
  exact ⟨by congr 2; exact (by first | exact (decide_eq_true (by omega)).symm | exact (decide_eq_false (by omega)).symm), hw.bel⟩
set_option maxRecDepth 100000 in
set_option maxHeartbeats 4000000 in
theorem CheckMatch_any (m : Mt) (w : World) : Calls Tryz.prog 48 #[Mtv m] w (Back (.bool (okM m)) w) := by
 obtain ⟨me, mm, my, mc, mp⟩ := m
 refine J_enter (fun _ => False) (vs := [.agg #[.int .i64 me, .int .i64 mm, .int .i64 my, .bool mc, .bool mp]]) (k := 17) (l := [(0, .agg #[.int .i64 me, .int .i64 mm, .int .i64 my, .bool mc, .bool mp])]) Tryz.func48 rfl rfl Tryz.ntmps48 rfl rfl (Wd.start _) ?_
 refine s2 ?_
 refine aW (oX [_, _, _, _, _]) (fun b1 hb1 => ?_)
 refine s7 ?_
 refine aCB (fun w hw => gwithin _ _ _ w) ?_
 refine JL_dec (fun h5 => ?_) (fun h5 => ?_)
 ·refine s3 ?_
  refine aCB (fun w hw => gwithin _ _ _ w) ?_
  refine JL_dec (fun h9 => ?_) (fun h9 => ?_)
  ·refine s6 ?_
   refine aCB (fun w hw => gwithin _ _ _ w) ?_
   refine JL_dec (fun h16 => ?_) (fun h16 => ?_)
   ·refine s5 ?_
    refine JR_one rfl (rr_tmp rfl) ?_
    intro w' hw
    exact ⟨by congr 2; unfold okM; dsimp only; rw [decide_eq_true h5]; rw [decide_eq_true h9]; rw [decide_eq_true h16]; rfl, hw.bel⟩
   ·refine s5 ?_
    refine JR_one rfl (rr_tmp rfl) ?_
    intro w' hw
    exact ⟨by congr 2; unfold okM; dsimp only; rw [decide_eq_true h5]; rw [decide_eq_true h9]; rw [decide_eq_false h16]; rfl, hw.bel⟩
  ·refine s12 ?_
   refine JR_one rfl (rr_tmp rfl) ?_
   intro w' hw
   exact ⟨by congr 2; unfold okM; dsimp only; rw [decide_eq_true h5]; rw [decide_eq_false h9]; rfl, hw.bel⟩
 ·refine s16 ?_
  refine JR_one rfl (rr_tmp rfl) ?_
  intro w' hw
  exact ⟨by congr 2; unfold okM; dsimp only; rw [decide_eq_false h5]; rfl, hw.bel⟩
set_option maxRecDepth 100000 in
set_option maxHeartbeats 4000000 in
theorem begin_any (m : Mt) (first : Int) (w : World) : Calls Tryz.prog 99 #[Mtv m, .int .i64 first] w (Ret w (fun _ : Nat => True) (fun b => .pointer (some ⟨b, 0, none⟩)) (fun b => [stC b (bgS first) m])) := by
 obtain ⟨me, mm, my, mc, mp⟩ := m
 refine J_enter (fun _ => False) (vs := [.agg #[.int .i64 me, .int .i64 mm, .int .i64 my, .bool mc, .bool mp], .int .i64 first]) (k := 8) (l := [(0, .agg #[.int .i64 me, .int .i64 mm, .int .i64 my, .bool mc, .bool mp]), (1, .int .i64 first)]) Tryz.func99 rfl rfl Tryz.ntmps99 rfl rfl (Wd.start _) ?_
 refine s2 ?_
 refine aW (oX [_, _, _, _, _]) (fun b2 hb2 => ?_)
 refine s6 ?_
 refine aP (rp_buildC (fun us => [.int .i64 0, .int .i64 0, .int .i64 0, us.getD 0 undef, us.getD 1 undef, .bool false, .bool false, .bool false, .bool false]) rfl rfl (fun w => by kernel_rfl)) ?_
 refine s1 ?_
 refine aP (rp_buildC (fun us => [us.getD 0 undef, us.getD 1 undef]) rfl rfl (fun w => by kernel_rfl)) ?_
 refine aW (oX [_, _, _, _, _, _, _, _, _, _, _, _, _, _]) (fun b9 hb9 => ?_)
 refine s4 ?_
 refine JR_one rfl (rr_tmp rfl) ?_
 intro w' hw
 exact ⟨b9, trivial, rfl, hw.pick (by repeat constructor)⟩
set_option maxRecDepth 100000 in
set_option maxHeartbeats 4000000 in
theorem end_any (b : Nat) (s : Sg) (m : Mt) (v : Int) (w : World) (hA : (stC b s m).holds w) (hAf : ∀ c, (stC b s m).foot c → c < w.heap.size) : Calls Tryz.prog 51 #[.pointer (some ⟨b, 0, none⟩), .int .i64 v] w (RetM (stC b s m) (fun _ : Unit => True) (fun _ => .tuple #[]) (fun _ => stC b (endG s v) m) w) := by
 obtain ⟨p0, p1, e, h, wn, o, xx, w0, w1⟩ := s
 obtain ⟨me, mm, my, mc, mp⟩ := m
 refine J_start (B := ⟨w, (stC b (⟨p0, p1, e, h, wn, o, xx, w0, w1⟩ : Sg) (⟨me, mm, my, mc, mp⟩ : Mt)).foot, none, []⟩) rfl rfl (vs := [.pointer (some ⟨b, 0, none⟩), .int .i64 v]) (k := 19) (l := [(0, .pointer (some ⟨b, 0, none⟩)), (1, .int .i64 v)]) Tryz.func51 rfl rfl Tryz.ntmps51 rfl rfl ((show Wd ⟨w, (stC b (⟨p0, p1, e, h, wn, o, xx, w0, w1⟩ : Sg) (⟨me, mm, my, mc, mp⟩ : Mt)).foot, none, []⟩ [cellB b [.int .i64 p0, .int .i64 p1, .int .i64 e, .int .i64 h, .int .i64 wn, .bool o, .bool xx, .bool w0, .bool w1, .int .i64 me, .int .i64 mm, .int .i64 my, .bool mc, .bool mp] 130] w from Wd.startM hA hAf)) ?_
 refine s23 ?_
 refine JR_end rfl ?_
 intro w' hw
 exact ⟨(), trivial, rfl, hw.pick (by repeat constructor)⟩
set_option maxRecDepth 100000 in
set_option maxHeartbeats 4000000 in
theorem play_any (b : Nat) (s : Sg) (m : Mt) (x : Lc) (w : World) (hA : (stC b s m).holds w) (hAf : ∀ c, (stC b s m).foot c → c < w.heap.size) (hh : s.h = 0 ∨ s.h = 1) (hx : (x.t = -1 ∧ x.p = 0) ∨ ((x.t = 0 ∨ x.t = 1) ∧ 1 ≤ x.p ∧ x.p ≤ 8)) (hb : (0 ≤ s.p0 ∧ s.p0 ≤ 1000000) ∧ (0 ≤ s.p1 ∧ s.p1 ≤ 1000000) ∧ 0 ≤ s.e ∧ s.e ≤ 1000000) : Calls Tryz.prog 103 #[.pointer (some ⟨b, 0, none⟩), Lcv x] w (RetM (stC b s m) (fun _ : Unit => True) (fun _ => .tuple #[]) (fun _ => stC b (plS m s x) m) w) := by
 obtain ⟨p0, p1, e, h, wn, o, xx, w0, w1⟩ := s
 obtain ⟨me, mm, my, mc, mp⟩ := m
 obtain ⟨xt, xp, xw⟩ := x
 dsimp only at hh hx hb
 refine J_start (B := ⟨w, (stC b (⟨p0, p1, e, h, wn, o, xx, w0, w1⟩ : Sg) (⟨me, mm, my, mc, mp⟩ : Mt)).foot, none, []⟩) rfl rfl (vs := [.pointer (some ⟨b, 0, none⟩), .agg #[.int .i64 xt, .int .i64 xp, .bool xw]]) (k := 124) (l := [(0, .pointer (some ⟨b, 0, none⟩)), (1, .agg #[.int .i64 xt, .int .i64 xp, .bool xw])]) Tryz.func103 rfl rfl Tryz.ntmps103 rfl rfl ((show Wd ⟨w, (stC b (⟨p0, p1, e, h, wn, o, xx, w0, w1⟩ : Sg) (⟨me, mm, my, mc, mp⟩ : Mt)).foot, none, []⟩ [cellB b [.int .i64 p0, .int .i64 p1, .int .i64 e, .int .i64 h, .int .i64 wn, .bool o, .bool xx, .bool w0, .bool w1, .int .i64 me, .int .i64 mm, .int .i64 my, .bool mc, .bool mp] 130] w from Wd.startM hA hAf)) ?_
 refine s2 ?_
 refine aW (oX [_, _, _]) (fun b3 hb3 => ?_)
 refine s2 ?_
 refine xC (T := Sg) (fun t => t = pl1 (⟨p0, p1, e, h, wn, o, xx, w0, w1⟩ : Sg) (⟨xt, xp, xw⟩ : Lc)) (fun t => [(0, .pointer (some ⟨b, 0, none⟩)), (3, .pointer (some ⟨b3, 0, none⟩))]) (fun t => [cellB b [.int .i64 t.p0, .int .i64 t.p1, .int .i64 t.e, .int .i64 t.h, .int .i64 t.w, .bool t.o, .bool t.x, .bool t.w0, .bool t.w1, .int .i64 me, .int .i64 mm, .int .i64 my, .bool mc, .bool mp] 130, cellB b3 [.int .i64 xt, .int .i64 xp, .bool xw] 78]) ?_ ?_
 ·refine s4 ?_
  refine JL_bool (fun h5 => ?_) (fun h5 => ?_)
  ·refine s3 ?_
   rcases hh with rfl | rfl
   ·refine xD [0, 1, 2, 3, 4, 5, 6, 7, 8, 9, 10] [5] ?_
    refine s9 ?_
    refine dP rfl (rp_arrC rfl rfl rfl ia_72_0 rfl) ?_
    refine s2 ?_
    exact xE (⟨p0, p1, e, 0, wn, o, xx, true, w1⟩ : Sg) (by unfold pl1; simp [h5])
   ·refine xD [0, 1, 2, 3, 4, 5, 6, 7, 8, 9, 10] [5] ?_
    refine s9 ?_
    refine dP rfl (rp_arrC rfl rfl rfl ia_72_1 rfl) ?_
    refine s2 ?_
    exact xE (⟨p0, p1, e, 1, wn, o, xx, w0, true⟩ : Sg) (by unfold pl1; simp [h5])
  ·refine s4 ?_
   exact xE (⟨p0, p1, e, h, wn, o, xx, w0, w1⟩ : Sg) (by unfold pl1; simp [h5])
 ·rintro ⟨p0', p1', e', h', wn', o', xx', w0', w1'⟩ hs1
  have e1 : p0' = p0 ∧ p1' = p1 ∧ e' = e ∧ h' = h ∧ wn' = wn := by unfold pl1 at hs1; injection hs1 with a1' a2' a3' a4' a5'; exact ⟨a1', a2', a3', a4', a5'⟩
  obtain ⟨rfl, rfl, rfl, rfl, rfl⟩ := e1
  dsimp only
  refine s14 ?_
  refine xC (T := Sg) (fun t => t = pl2 (⟨me, mm, my, mc, mp⟩ : Mt) (⟨p0', p1', e', h', wn', o', xx', w0', w1'⟩ : Sg) (⟨xt, xp, xw⟩ : Lc)) (fun t => [(0, .pointer (some ⟨b, 0, none⟩))]) (fun t => [cellB b [.int .i64 t.p0, .int .i64 t.p1, .int .i64 t.e, .int .i64 t.h, .int .i64 t.w, .bool t.o, .bool t.x, .bool t.w0, .bool t.w1, .int .i64 me, .int .i64 mm, .int .i64 my, .bool mc, .bool mp] 130]) ?_ ?_
  ·refine s2 ?_
   rcases hx with ⟨rfl, rfl⟩ | ⟨rfl | rfl, hx⟩
   ·refine kJ [(0, _), (3, _)] ?_
    refine s4 ?_
    refine aDecF ?_ (by decide)
    refine s5 ?_
    refine kJ [(0, _)] ?_
    refine s6 ?_
    refine JL_bool (fun h56 => ?_) (fun h56 => ?_)
    ·refine s4 ?_
     refine kJ [(0, _)] ?_
     refine s14 ?_
     exact xE (⟨p0', p1', (e' + 1), (1 - h'), wn', o', xx', w0', w1'⟩ : Sg) (by unfold pl2; simp [h56])
    ·refine s6 ?_
     exact xE (⟨p0', p1', (e' + 1), h', wn', o', xx', w0', w1'⟩ : Sg) (by unfold pl2; simp [h56])
   ·refine kJ [(0, _), (3, _)] ?_
    refine s4 ?_
    refine aDecT ?_ (by decide)
    refine s5 ?_
    refine kJ [(0, _), (3, _)] ?_
    refine xD [0, 1, 2, 3, 4, 5, 6, 7, 8, 9, 10, 11, 12, 13, 14, 15] [2, 7, 9] ?_
    refine s6 ?_
    refine dP rfl (rp_arrC rfl rfl rfl ia_68_0 rfl) ?_
    refine s7 ?_
    refine dP rfl (rp_arrC rfl rfl rfl ia_68_0 rfl) ?_
    refine s3 ?_
    refine kJ [(0, _), (3, _)] ?_
    refine s11 ?_
    exact xE (⟨(p0' + xp), p1', (e' + 1), 1, wn', o', xx', w0', w1'⟩ : Sg) (by unfold pl2; simp)
   ·refine kJ [(0, _), (3, _)] ?_
    refine s4 ?_
    refine aDecT ?_ (by decide)
    refine s5 ?_
    refine kJ [(0, _), (3, _)] ?_
    refine xD [0, 1, 2, 3, 4, 5, 6, 7, 8, 9, 10, 11, 12, 13, 14, 15] [2, 7, 9] ?_
    refine s6 ?_
    refine dP rfl (rp_arrC rfl rfl rfl ia_68_1 rfl) ?_
    refine s7 ?_
    refine dP rfl (rp_arrC rfl rfl rfl ia_68_1 rfl) ?_
    refine s3 ?_
    refine kJ [(0, _), (3, _)] ?_
    refine s11 ?_
    exact xE (⟨p0', (p1' + xp), (e' + 1), 0, wn', o', xx', w0', w1'⟩ : Sg) (by unfold pl2; simp)
  ·rintro ⟨qa, qb, qe, qh, qw, qo, qx, qv0, qv1⟩ hs2
   dsimp only
   have hR : plS (⟨me, mm, my, mc, mp⟩ : Mt) (⟨p0', p1', e', h', wn', o, xx, w0, w1⟩ : Sg) (⟨xt, xp, xw⟩ : Lc) = pl3 (⟨me, mm, my, mc, mp⟩ : Mt) ⟨qa, qb, qe, qh, qw, qo, qx, qv0, qv1⟩ := by unfold plS; rw [← hs1, ← hs2]
   rw [hR]
   refine xC (T := Unit) (fun _ => True) (fun _ => [(0, .pointer (some ⟨b, 0, none⟩))]) (fun _ => [cellB b [.int .i64 qa, .int .i64 qb, .int .i64 qe, .int .i64 qh, .int .i64 qw, .bool qo, .bool (decide (me ≤ qe)), .bool qv0, .bool qv1, .int .i64 me, .int .i64 mm, .int .i64 my, .bool mc, .bool mp] 130]) ?_ ?_
   ·refine xD [0, 1, 2, 3, 4, 5, 6, 7, 8, 9, 10, 11, 12, 13, 14, 15] [5, 10] ?_
    refine s17 ?_
    exact xE () trivial
   ·rintro _ -
    refine s1 ?_
    refine xD [0, 1, 2, 3, 4] [4, 11, 17] ?_
    refine s5 ?_
    refine dBool (fun h86 => ?_) (fun h86 => ?_)
    ·refine dO [5, 6, 7, 8, 9, 10, 11, 12, 13, 14, 15, 16, 17, 18] ?_
     refine s5 ?_
     refine dP rfl (rp_arrC rfl rfl rfl ia_68_0 rfl) ?_
     refine s5 ?_
     refine dP rfl (rp_arrC rfl rfl rfl ia_68_1 rfl) ?_
     refine s2 ?_
     refine dDec (fun h100 => ?_) (fun h100 => ?_)
     ·refine dO [19] ?_
      refine s4 ?_
      refine kJ [(0, _)] ?_
      refine s2 ?_
      refine aW (oM (fun w hw => end_any b ⟨qa, qb, qe, qh, qw, qo, decide (me ≤ qe), qv0, qv1⟩ (⟨me, mm, my, mc, mp⟩ : Mt) 0 w (hw.ok (stC b ⟨qa, qb, qe, qh, qw, qo, decide (me ≤ qe), qv0, qv1⟩ (⟨me, mm, my, mc, mp⟩ : Mt)) (by repeat constructor)).1 (fun c hc => ((hw.ok (stC b ⟨qa, qb, qe, qh, qw, qo, decide (me ≤ qe), qv0, qv1⟩ (⟨me, mm, my, mc, mp⟩ : Mt)) (by repeat constructor)).2 c hc).2))) (fun _ _ => ?_)
      refine s1 ?_
      refine JR_end rfl ?_
      intro w' hw
      have hE : pl3 (⟨me, mm, my, mc, mp⟩ : Mt) ⟨qa, qb, qe, qh, qw, qo, qx, qv0, qv1⟩ = (⟨qa, qb, qe, (-1), 0, true, false, qv0, qv1⟩ : Sg) := by unfold pl3 endG; dsimp only; rw [if_pos ⟨of_decide_eq_true h86, h100⟩]
      rw [hE]
      exact ⟨(), trivial, rfl, hw.pick (by repeat constructor)⟩
     ·refine dO [19] ?_
      refine s5 ?_
      refine kJ [(0, _)] ?_
      refine xD [0, 1, 2, 3, 4, 5, 6, 7, 8, 9, 10, 11, 12, 13, 14, 15, 16, 17, 18] [4, 11, 17] ?_
      refine s5 ?_
      refine dBoolT ?_ h86
      refine s5 ?_
      refine dP rfl (rp_arrC rfl rfl rfl ia_68_1 rfl) ?_
      refine s5 ?_
      refine dP rfl (rp_arrC rfl rfl rfl ia_68_0 rfl) ?_
      refine s2 ?_
      refine dDec (fun h122 => ?_) (fun h122 => ?_)
      ·refine dO [19] ?_
       refine s4 ?_
       refine kJ [(0, _)] ?_
       refine s2 ?_
       refine aW (oM (fun w hw => end_any b ⟨qa, qb, qe, qh, qw, qo, decide (me ≤ qe), qv0, qv1⟩ (⟨me, mm, my, mc, mp⟩ : Mt) 1 w (hw.ok (stC b ⟨qa, qb, qe, qh, qw, qo, decide (me ≤ qe), qv0, qv1⟩ (⟨me, mm, my, mc, mp⟩ : Mt)) (by repeat constructor)).1 (fun c hc => ((hw.ok (stC b ⟨qa, qb, qe, qh, qw, qo, decide (me ≤ qe), qv0, qv1⟩ (⟨me, mm, my, mc, mp⟩ : Mt)) (by repeat constructor)).2 c hc).2))) (fun _ _ => ?_)
       refine s1 ?_
       refine JR_end rfl ?_
       intro w' hw
       have hE : pl3 (⟨me, mm, my, mc, mp⟩ : Mt) ⟨qa, qb, qe, qh, qw, qo, qx, qv0, qv1⟩ = (⟨qa, qb, qe, (-1), 1, true, false, qv0, qv1⟩ : Sg) := by unfold pl3 endG; dsimp only; rw [if_neg (fun h => h100 h.2), if_pos ⟨of_decide_eq_true h86, h122⟩]
       rw [hE]
       exact ⟨(), trivial, rfl, hw.pick (by repeat constructor)⟩
      ·refine dO [19] ?_
       refine s5 ?_
       refine JR_end rfl ?_
       intro w' hw
       have hE : pl3 (⟨me, mm, my, mc, mp⟩ : Mt) ⟨qa, qb, qe, qh, qw, qo, qx, qv0, qv1⟩ = (⟨qa, qb, qe, qh, qw, qo, (decide (me ≤ qe)), qv0, qv1⟩ : Sg) := by unfold pl3 endG; dsimp only; rw [if_neg (fun h => h100 h.2), if_neg (fun h => h122 h.2)]
       rw [hE]
       exact ⟨(), trivial, rfl, hw.pick (by repeat constructor)⟩
    ·refine dO [5, 6, 7, 8, 9, 10, 11, 12, 13, 14, 15, 16, 17, 18, 19] ?_
     refine s19 ?_
     refine kJ [(0, _)] ?_
     refine xD [0, 1, 2, 3, 4, 5, 6, 7, 8, 9, 10, 11, 12, 13, 14, 15, 16, 17, 18, 19] [4, 11, 17] ?_
     refine s5 ?_
     refine dBoolF ?_ h86
     refine s19 ?_
     refine JR_end rfl ?_
     intro w' hw
     have hE : pl3 (⟨me, mm, my, mc, mp⟩ : Mt) ⟨qa, qb, qe, qh, qw, qo, qx, qv0, qv1⟩ = (⟨qa, qb, qe, qh, qw, qo, (decide (me ≤ qe)), qv0, qv1⟩ : Sg) := by unfold pl3 endG; dsimp only; rw [if_neg (fun h => of_decide_eq_false h86 h.1), if_neg (fun h => of_decide_eq_false h86 h.1)]
     rw [hE]
     exact ⟨(), trivial, rfl, hw.pick (by repeat constructor)⟩
end Go.Proofs.YtmcpnoailbmkkaaGreatDoor
/- Layer 8: what can be wrong with a line. -/
namespace Go.Proofs.YtmcpnoailbmkkaaGreatDoor
open Go Go.RowKit Go.Proofs
attribute [local irreducible] J JQ JL JA JD

/-- The first number below n with p, or -1. -/
def ixN (p : Nat → Bool) (n : Nat) : Int := if (List.range n).any p then ((List.range n).findIdx p : Nat) else -1
theorem ixN_at {p : Nat → Bool} {n k : Nat} (h : k < n) (hp : p k = true) (hj : ∀ j, j < k → p j = false) : ixN p n = (k : Nat) := by
 unfold ixN
 rw [if_pos (List.any_eq_true.2 ⟨k, List.mem_range.2 h, hp⟩)]
 have : (List.range n).findIdx p = k := by
  rw [List.findIdx_eq (by simpa using h)]
  exact ⟨by simpa using hp, fun j h1 => by simpa using hj j h1⟩
 rw [this]
theorem ixN_no {p : Nat → Bool} {n : Nat} (hj : ∀ j, j < n → p j = false) : ixN p n = -1 := by
 unfold ixN
 rw [if_neg]
 intro h
 obtain ⟨k, h1, h2⟩ := List.any_eq_true.1 h
 rw [hj k (List.mem_range.1 h1)] at h2; cases h2
theorem ixN_any (p : Nat → Bool) (n : Nat) : decide (0 ≤ ixN p n) = (List.range n).any p := by
 unfold ixN
 cases h : (List.range n).any p
 ·rfl
 ·rw [if_pos rfl]; exact decide_eq_true (by omega)
abbrev Fn := FuncId × Array Value
def eF (p : Fn) : List Value := [.func (.func p.1) #[] p.2]
theorem EF : Enc 1 eF := ⟨fun _ => rfl, fun x v h => by simp [eF] at h; subst h; rfl⟩
theorem cell_rowV {w : World} {b ty : Nat} {vs : List Fn} (h : (cellB b (vs.flatMap eF) ty).holds w) (hn : vs.length ≤ 1000) : Arr 1 eF w (.slice (some ⟨b, 0, none⟩) vs.length vs.length) vs := by
 have h' : w.heap[b]? = some (.cells (vs.flatMap eF).toArray ty (0, 0)) := h
 refine ⟨_, _, rfl, Nat.le_refl _, ⟨by omega, by unfold maxLen; omega⟩, fun _ => ⟨b, 0, rfl, fun j hj i hi => ?_⟩⟩
 obtain rfl : i = 0 := by omega
 simp only [World.cell?, h']
 have e2 : ∀ l : List Fn, l.flatMap eF = l.map (fun p => .func (.func p.1) #[] p.2) := fun l => by
  induction l with
  | nil => rfl
  | cons p l ih => simp [eF, ih]
 simp [e2, eF, hj]
/-- The functions, by the cell of what they have captured. -/
def fvs (bs : Nat) : List Fn := [(150, #[.pointer (some ⟨bs, 0, none⟩)]), (151, #[]), (152, #[]), (153, #[.pointer (some ⟨bs, 0, none⟩)]), (154, #[.pointer (some ⟨bs, 0, none⟩)])]
def PrWr (f : FuncId) (caps : Array Value) (p : Nat → Bool) (l : List Fn) (w : World) : Prop := ∀ k (h : k < l.length) (x : Fn), l[k]'h = x → (∀ j, j < k → p j = false) → ∀ W, Below w.heap.size w W → Calls Tryz.prog f (#[] ++ #[.func (.func x.1) #[] x.2] ++ caps) W (Back (.bool (p k)) W)
theorem PrWr.up {f : FuncId} {caps : Array Value} {p : Nat → Bool} {l : List Fn} {w w1 : World} (h : PrWr f caps p l w) (hb : Below w.heap.size w w1) : PrWr f caps p l w1 := fun k hk x hx hj W hW => h k hk x hx hj W (hb.trans (hW.mono hb.size))
set_option maxRecDepth 100000 in
set_option maxHeartbeats 4000000 in
theorem IndexFuncV (f : FuncId) (caps : Array Value) (p : Nat → Bool) (l : List Fn) (v : Value) (w : World) [hf : Cf Tryz.prog f] (hcl : PrWr f caps p l w) (hrow : Arr 1 eF w v l) : Calls Tryz.prog 149 #[v, .func (.func f) #[] caps] w (Back (.int .i64 (ixN p l.length)) w) := by
 obtain ⟨A, cap, rfl, -, ⟨hl, -⟩, hA⟩ := hrow
 refine J_enter (fun _ => False) (vs := [.slice A l.length cap, .func (.func f) #[] caps]) (k := 17) (l := [(0, .slice A l.length cap), (1, .func (.func f) #[] caps)]) Tryz.func149 rfl rfl Tryz.ntmps149 rfl rfl (Wd.start _) ?_
 refine s14 ?_
 refine xL (T := Nat) (fun k => k ≤ l.length ∧ ∀ j, j < k → p j = false) (fun k => [(0, .slice A l.length cap), (1, .func (.func f) #[] caps), (7, .int .i64 (l.length : Nat)), (8, .int .i64 (k : Nat))]) (fun k => []) (fun k => l.length - k) 0 ⟨Nat.zero_le _, fun j h => absurd h (Nat.not_lt_zero _)⟩ ?_
 rintro k ⟨hk, hix⟩
 refine s3 ?_
 refine JL_dec (fun h9 => ?_) (fun h9 => ?_)
 ·refine s15 ?_
  have hlt : k < l.length := by omega
  obtain ⟨b, q, rfl, hh⟩ := hA (by intro e; subst e; simp at hlt)
  obtain ⟨⟨g, gc⟩, hx⟩ : ∃ x, l[k]'hlt = x := ⟨_, rfl⟩
  refine s5 ?_
  refine aV (vHold rfl rfl (fun h => h) hh hlt (by omega) (by rw [hx]; rfl)) ?_
  refine aW (ow_callB (ec_val rfl rfl rfl Cf.h) rfl rfl (fun w hw => (hcl k hlt (g, gc) hx hix w hw.bel))) (fun _ _ => ?_)
  refine JL_bool (fun h16 => ?_) (fun h16 => ?_)
  ·refine s4 ?_
   refine kJ [(5, _)] ?_
   refine s11 ?_
   refine JR_one rfl (rr_tmp rfl) ?_
   intro w' hw
   rw [ixN_at hlt h16 hix]; exact ⟨rfl, hw.bel⟩
  ·refine s6 ?_
   refine kJ [(0, _), (1, _), (7, _), (8, _)] ?_
   refine s4 ?_
   exact xR (k + 1) ⟨by omega, fun j hj => (Nat.lt_or_eq_of_le (Nat.le_of_lt_succ hj)).elim (hix j) (fun e => e ▸ h16)⟩ (by omega)
 ·refine s10 ?_
  refine kJ [] ?_
  refine s5 ?_
  refine JR_one rfl (rr_tmp rfl) ?_
  intro w' hw
  obtain rfl : k = l.length := by omega
  rw [ixN_no hix]; exact ⟨rfl, hw.bel⟩
set_option maxRecDepth 100000 in
set_option maxHeartbeats 4000000 in
theorem ContainsFuncV (f : FuncId) (caps : Array Value) (p : Nat → Bool) (l : List Fn) (v : Value) (w : World) [hf : Cf Tryz.prog f] (hcl : PrWr f caps p l w) (hrow : Arr 1 eF w v l) : Calls Tryz.prog 100 #[v, .func (.func f) #[] caps] w (Back (.bool ((List.range l.length).any p)) w) := by
 obtain ⟨A, cap, rfl⟩ := hrow.form
 refine J_enter (fun _ => False) (vs := [.slice A l.length cap, .func (.func f) #[] caps]) (k := 7) (l := [(0, .slice A l.length cap), (1, .func (.func f) #[] caps)]) Tryz.func100 rfl rfl Tryz.ntmps100 rfl rfl (Wd.start _) ?_
 refine s9 ?_
 refine aCB (fun w hw => IndexFuncV f caps p l _ w (hcl.up hw.bel) (hrow.up EF hw.bel)) ?_
 refine s5 ?_
 refine JR_one rfl (rr_tmp rfl) ?_
 intro w' hw
 rw [← ixN_any]
 exact ⟨rfl, hw.bel⟩
set_option maxRecDepth 100000 in
set_option maxHeartbeats 4000000 in
theorem wr0_any (b bs : Nat) (s : Sg) (m : Mt) (x : Lc) (w : World) (hc : (stC b s m).holds w) (hsv : (cellB bs [.pointer (some ⟨b, 0, none⟩)] 207).holds w) : Calls Tryz.prog 150 (#[] ++ #[Lcv x] ++ #[.pointer (some ⟨bs, 0, none⟩)]) w (Back (.bool (wrK m s x 0)) w) := by
 obtain ⟨p0, p1, e, h, wn, o, xx, w0, w1⟩ := s
 obtain ⟨me, mm, my, mc, mp⟩ := m
 obtain ⟨xt, xp, xw⟩ := x
 refine J_enter (fun _ => False) (vs := [.agg #[.int .i64 xt, .int .i64 xp, .bool xw], .pointer (some ⟨bs, 0, none⟩)]) (k := 7) (l := [(0, .agg #[.int .i64 xt, .int .i64 xp, .bool xw]), (1, .pointer (some ⟨bs, 0, none⟩))]) Tryz.func150 rfl rfl Tryz.ntmps150 rfl rfl (Wd.start _) ?_
 refine s2 ?_
 refine aW (oX [_, _, _]) (fun b2 hb2 => ?_)
 refine s5 ?_
 refine aV (vOld rfl rfl (fun h => h) (cellB_get hsv rfl)) ?_
 refine s3 ?_
 refine aV (vOld rfl rfl (fun h => h) (cellB_get hc rfl)) ?_
 refine s4 ?_
 refine JR_one rfl (rr_tmp rfl) ?_
 intro w' hw
 refine ⟨congrArg Ending.returned (congrArg Value.bool ?_), hw.bel⟩
 unfold wrK inI
 dsimp only
 (first | rfl | (simp_all; done) | (simp; omega) | (simp_all; omega) | (simp_all; intro h; exfalso; omega))
set_option maxRecDepth 100000 in
set_option maxHeartbeats 4000000 in
theorem wr1_any (s : Sg) (m : Mt) (x : Lc) (w : World) : Calls Tryz.prog 151 (#[] ++ #[Lcv x] ++ #[]) w (Back (.bool (wrK m s x 1)) w) := by
 obtain ⟨p0, p1, e, h, wn, o, xx, w0, w1⟩ := s
 obtain ⟨me, mm, my, mc, mp⟩ := m
 obtain ⟨xt, xp, xw⟩ := x
 refine J_enter (fun _ => False) (vs := [.agg #[.int .i64 xt, .int .i64 xp, .bool xw]]) (k := 6) (l := [(0, .agg #[.int .i64 xt, .int .i64 xp, .bool xw])]) Tryz.func151 rfl rfl Tryz.ntmps151 rfl rfl (Wd.start _) ?_
 refine s2 ?_
 refine aW (oX [_, _, _]) (fun b1 hb1 => ?_)
 refine s7 ?_
 refine aCB (fun w hw => gwithin _ _ _ w) ?_
 refine s5 ?_
 refine JR_one rfl (rr_tmp rfl) ?_
 intro w' hw
 refine ⟨congrArg Ending.returned (congrArg Value.bool ?_), hw.bel⟩
 unfold wrK inI
 dsimp only
 (first | rfl | (simp_all; done) | (simp; omega) | (simp_all; omega) | (simp_all; intro h; exfalso; omega))
set_option maxRecDepth 100000 in
set_option maxHeartbeats 4000000 in
theorem wr2_any (s : Sg) (m : Mt) (x : Lc) (w : World) : Calls Tryz.prog 152 (#[] ++ #[Lcv x] ++ #[]) w (Back (.bool (wrK m s x 2)) w) := by
 obtain ⟨p0, p1, e, h, wn, o, xx, w0, w1⟩ := s
 obtain ⟨me, mm, my, mc, mp⟩ := m
 obtain ⟨xt, xp, xw⟩ := x
 refine J_enter (fun _ => False) (vs := [.agg #[.int .i64 xt, .int .i64 xp, .bool xw]]) (k := 10) (l := [(0, .agg #[.int .i64 xt, .int .i64 xp, .bool xw])]) Tryz.func152 rfl rfl Tryz.ntmps152 rfl rfl (Wd.start _) ?_
 refine s2 ?_
 refine aW (oX [_, _, _]) (fun b1 hb1 => ?_)
 refine s8 ?_
 refine JL_dec (fun h5 => ?_) (fun h5 => ?_)
 ·refine s9 ?_
  refine JR_one rfl (rr_tmp rfl) ?_
  intro w' hw
  refine ⟨congrArg Ending.returned (congrArg Value.bool ?_), hw.bel⟩
  unfold wrK inI
  dsimp only
  (first | rfl | (simp_all; done) | (simp; omega) | (simp_all; omega) | (simp_all; intro h; exfalso; omega))
 ·refine s9 ?_
  refine JR_one rfl (rr_tmp rfl) ?_
  intro w' hw
  refine ⟨congrArg Ending.returned (congrArg Value.bool ?_), hw.bel⟩
  unfold wrK inI
  dsimp only
  (first | rfl | (simp_all; done) | (simp; omega) | (simp_all; omega) | (simp_all; intro h; exfalso; omega))
set_option maxRecDepth 100000 in
set_option maxHeartbeats 4000000 in
theorem wr3_any (b bs : Nat) (s : Sg) (m : Mt) (x : Lc) (w : World) (hc : (stC b s m).holds w) (hsv : (cellB bs [.pointer (some ⟨b, 0, none⟩)] 207).holds w) : Calls Tryz.prog 153 (#[] ++ #[Lcv x] ++ #[.pointer (some ⟨bs, 0, none⟩)]) w (Back (.bool (wrK m s x 3)) w) := by
 obtain ⟨p0, p1, e, h, wn, o, xx, w0, w1⟩ := s
 obtain ⟨me, mm, my, mc, mp⟩ := m
 obtain ⟨xt, xp, xw⟩ := x
 refine J_enter (fun _ => False) (vs := [.agg #[.int .i64 xt, .int .i64 xp, .bool xw], .pointer (some ⟨bs, 0, none⟩)]) (k := 16) (l := [(0, .agg #[.int .i64 xt, .int .i64 xp, .bool xw]), (1, .pointer (some ⟨bs, 0, none⟩))]) Tryz.func153 rfl rfl Tryz.ntmps153 rfl rfl (Wd.start _) ?_
 refine s2 ?_
 refine aW (oX [_, _, _]) (fun b2 hb2 => ?_)
 refine s4 ?_
 refine xD [0, 1, 2] [1, 5, 6, 10] ?_
 refine s3 ?_
 refine dDec (fun h6 => ?_) (fun h6 => ?_)
 ·refine dO [3, 4, 5, 6, 7, 8, 9, 10, 11, 12, 13, 14] ?_
  refine s3 ?_
  refine dL rfl (vOld rfl rfl (fun h => h) (cellB_get hsv rfl)) ?_
  refine s3 ?_
  refine dL rfl (vOld rfl rfl (fun h => h) (cellB_get hc rfl)) ?_
  refine dCB rfl (fun w hw => gwithin _ _ _ w) ?_
  refine s6 ?_
  refine JR_one rfl (rr_tmp rfl) ?_
  intro w' hw
  refine ⟨congrArg Ending.returned (congrArg Value.bool ?_), hw.bel⟩
  unfold wrK inI
  dsimp only
  (first | rfl | (simp_all; done) | (simp; omega) | (simp_all; omega) | (simp_all; intro h; exfalso; omega))
 ·refine dO [3, 4, 5, 6, 7, 8, 9, 10, 11, 12, 13, 14] ?_
  refine s15 ?_
  refine JR_one rfl (rr_tmp rfl) ?_
  intro w' hw
  refine ⟨congrArg Ending.returned (congrArg Value.bool ?_), hw.bel⟩
  unfold wrK inI
  dsimp only
  (first | rfl | (simp_all; done) | (simp; omega) | (simp_all; omega) | (simp_all; intro h; exfalso; omega))
set_option maxRecDepth 100000 in
set_option maxHeartbeats 4000000 in
theorem wr4_any (b bs : Nat) (s : Sg) (m : Mt) (x : Lc) (w : World) (hc : (stC b s m).holds w) (hsv : (cellB bs [.pointer (some ⟨b, 0, none⟩)] 207).holds w) (hh : s.h = 0 ∨ s.h = 1) : Calls Tryz.prog 154 (#[] ++ #[Lcv x] ++ #[.pointer (some ⟨bs, 0, none⟩)]) w (Back (.bool (wrK m s x 4)) w) := by
 obtain ⟨p0, p1, e, h, wn, o, xx, w0, w1⟩ := s
 obtain ⟨me, mm, my, mc, mp⟩ := m
 obtain ⟨xt, xp, xw⟩ := x
 dsimp only at hh
 refine J_enter (fun _ => False) (vs := [.agg #[.int .i64 xt, .int .i64 xp, .bool xw], .pointer (some ⟨bs, 0, none⟩)]) (k := 38) (l := [(0, .agg #[.int .i64 xt, .int .i64 xp, .bool xw]), (1, .pointer (some ⟨bs, 0, none⟩))]) Tryz.func154 rfl rfl Tryz.ntmps154 rfl rfl (Wd.start _) ?_
 refine s2 ?_
 refine aW (oX [_, _, _]) (fun b2 hb2 => ?_)
 refine s4 ?_
 rcases hh with rfl | rfl
 ·refine xD [0, 1] [1, 3, 7, 10, 14, 15, 19, 23, 24, 28, 33] ?_
  refine s2 ?_
  refine dBool (fun h5 => ?_) (fun h5 => ?_)
  ·refine dO [2, 3, 4, 5, 6, 7] ?_
   refine s1 ?_
   refine dL rfl (vOld rfl rfl (fun h => h) (cellB_get hsv rfl)) ?_
   refine s3 ?_
   refine dL rfl (vOld rfl rfl (fun h => h) (cellB_get hc rfl)) ?_
   refine dBool (fun h11 => ?_) (fun h11 => ?_)
   ·refine dO [8, 9, 10, 11, 12, 13, 14, 15, 16, 17, 18, 19, 20] ?_
    refine s2 ?_
    refine dL rfl (vOld rfl rfl (fun h => h) (cellB_get hsv rfl)) ?_
    refine s3 ?_
    refine dL rfl (vOld rfl rfl (fun h => h) (cellB_get hc rfl)) ?_
    refine dL rfl (vOld rfl rfl (fun h => h) (cellB_get hsv rfl)) ?_
    refine s3 ?_
    refine dL rfl (vOld rfl rfl (fun h => h) (cellB_get hc rfl)) ?_
    refine s1 ?_
    refine dDec (fun h24 => ?_) (fun h24 => ?_)
    ·refine dO [21, 22, 23, 24, 25, 26, 27, 28, 29, 30, 31, 32, 33, 34, 35, 36] ?_
     refine s19 ?_
     refine JR_one rfl (rr_tmp rfl) ?_
     intro w' hw
     refine ⟨congrArg Ending.returned (congrArg Value.bool ?_), hw.bel⟩
     unfold wrK pwH
     dsimp only
     (first | rfl | (simp_all; done) | (simp; omega) | (simp_all; omega) | (simp_all; intro h; exfalso; omega))
    ·refine dO [21, 22, 23, 24, 25, 26, 27, 28, 29, 30, 31, 32, 33, 34, 35, 36] ?_
     refine s2 ?_
     refine dL rfl (vOld rfl rfl (fun h => h) (cellB_get hsv rfl)) ?_
     refine dL rfl (vOld rfl rfl (fun h => h) (cellB_get hsv rfl)) ?_
     refine s3 ?_
     refine dL rfl (vOld rfl rfl (fun h => h) (cellB_get hc rfl)) ?_
     refine s3 ?_
     refine dP rfl (rp_arrE rfl rfl rfl ia_72_0 rfl) ?_
     refine dL rfl (vOld rfl rfl (fun h => h) (cellB_get hc rfl)) ?_
     refine s6 ?_
     refine JR_one rfl (rr_tmp rfl) ?_
     intro w' hw
     refine ⟨congrArg Ending.returned (congrArg Value.bool ?_), hw.bel⟩
     unfold wrK pwH
     dsimp only
     (first | rfl | (simp_all; done) | (simp; omega) | (simp_all; omega) | (simp_all; intro h; exfalso; omega))
   ·refine dO [8, 9, 10, 11, 12, 13, 14, 15, 16, 17, 18, 19, 20, 21, 22, 23, 24, 25, 26, 27, 28, 29, 30, 31, 32, 33, 34, 35, 36] ?_
    refine s32 ?_
    refine JR_one rfl (rr_tmp rfl) ?_
    intro w' hw
    refine ⟨congrArg Ending.returned (congrArg Value.bool ?_), hw.bel⟩
    unfold wrK pwH
    dsimp only
    (first | rfl | (simp_all; done) | (simp; omega) | (simp_all; omega) | (simp_all; intro h; exfalso; omega))
  ·refine dO [2, 3, 4, 5, 6, 7, 8, 9, 10, 11, 12, 13, 14, 15, 16, 17, 18, 19, 20, 21, 22, 23, 24, 25, 26, 27, 28, 29, 30, 31, 32, 33, 34, 35, 36] ?_
   refine s38 ?_
   refine JR_one rfl (rr_tmp rfl) ?_
   intro w' hw
   refine ⟨congrArg Ending.returned (congrArg Value.bool ?_), hw.bel⟩
   unfold wrK pwH
   dsimp only
   (first | rfl | (simp_all; done) | (simp; omega) | (simp_all; omega) | (simp_all; intro h; exfalso; omega))
 ·refine xD [0, 1] [1, 3, 7, 10, 14, 15, 19, 23, 24, 28, 33] ?_
  refine s2 ?_
  refine dBool (fun h5 => ?_) (fun h5 => ?_)
  ·refine dO [2, 3, 4, 5, 6, 7] ?_
   refine s1 ?_
   refine dL rfl (vOld rfl rfl (fun h => h) (cellB_get hsv rfl)) ?_
   refine s3 ?_
   refine dL rfl (vOld rfl rfl (fun h => h) (cellB_get hc rfl)) ?_
   refine dBool (fun h11 => ?_) (fun h11 => ?_)
   ·refine dO [8, 9, 10, 11, 12, 13, 14, 15, 16, 17, 18, 19, 20] ?_
    refine s2 ?_
    refine dL rfl (vOld rfl rfl (fun h => h) (cellB_get hsv rfl)) ?_
    refine s3 ?_
    refine dL rfl (vOld rfl rfl (fun h => h) (cellB_get hc rfl)) ?_
    refine dL rfl (vOld rfl rfl (fun h => h) (cellB_get hsv rfl)) ?_
    refine s3 ?_
    refine dL rfl (vOld rfl rfl (fun h => h) (cellB_get hc rfl)) ?_
    refine s1 ?_
    refine dDec (fun h24 => ?_) (fun h24 => ?_)
    ·refine dO [21, 22, 23, 24, 25, 26, 27, 28, 29, 30, 31, 32, 33, 34, 35, 36] ?_
     refine s19 ?_
     refine JR_one rfl (rr_tmp rfl) ?_
     intro w' hw
     refine ⟨congrArg Ending.returned (congrArg Value.bool ?_), hw.bel⟩
     unfold wrK pwH
     dsimp only
     (first | rfl | (simp_all; done) | (simp; omega) | (simp_all; omega) | (simp_all; intro h; exfalso; omega))
    ·refine dO [21, 22, 23, 24, 25, 26, 27, 28, 29, 30, 31, 32, 33, 34, 35, 36] ?_
     refine s2 ?_
     refine dL rfl (vOld rfl rfl (fun h => h) (cellB_get hsv rfl)) ?_
     refine dL rfl (vOld rfl rfl (fun h => h) (cellB_get hsv rfl)) ?_
     refine s3 ?_
     refine dL rfl (vOld rfl rfl (fun h => h) (cellB_get hc rfl)) ?_
     refine s3 ?_
     refine dP rfl (rp_arrE rfl rfl rfl ia_72_1 rfl) ?_
     refine dL rfl (vOld rfl rfl (fun h => h) (cellB_get hc rfl)) ?_
     refine s6 ?_
     refine JR_one rfl (rr_tmp rfl) ?_
     intro w' hw
     refine ⟨congrArg Ending.returned (congrArg Value.bool ?_), hw.bel⟩
     unfold wrK pwH
     dsimp only
     (first | rfl | (simp_all; done) | (simp; omega) | (simp_all; omega) | (simp_all; intro h; exfalso; omega))
   ·refine dO [8, 9, 10, 11, 12, 13, 14, 15, 16, 17, 18, 19, 20, 21, 22, 23, 24, 25, 26, 27, 28, 29, 30, 31, 32, 33, 34, 35, 36] ?_
    refine s32 ?_
    refine JR_one rfl (rr_tmp rfl) ?_
    intro w' hw
    refine ⟨congrArg Ending.returned (congrArg Value.bool ?_), hw.bel⟩
    unfold wrK pwH
    dsimp only
    (first | rfl | (simp_all; done) | (simp; omega) | (simp_all; omega) | (simp_all; intro h; exfalso; omega))
  ·refine dO [2, 3, 4, 5, 6, 7, 8, 9, 10, 11, 12, 13, 14, 15, 16, 17, 18, 19, 20, 21, 22, 23, 24, 25, 26, 27, 28, 29, 30, 31, 32, 33, 34, 35, 36] ?_
   refine s38 ?_
   refine JR_one rfl (rr_tmp rfl) ?_
   intro w' hw
   refine ⟨congrArg Ending.returned (congrArg Value.bool ?_), hw.bel⟩
   unfold wrK pwH
   dsimp only
   (first | rfl | (simp_all; done) | (simp; omega) | (simp_all; omega) | (simp_all; intro h; exfalso; omega))
end Go.Proofs.YtmcpnoailbmkkaaGreatDoor
/- Layer 8: the standings, one after another. -/
namespace Go.Proofs.YtmcpnoailbmkkaaGreatDoor
open Go Go.RowKit Go.Proofs
attribute [local irreducible] J JQ JL JA JD

instance vc_1 : Cf Tryz.prog 151 := ⟨fun _ _ => by kernel_rfl⟩
instance vc_2 : Cf Tryz.prog 152 := ⟨fun _ _ => by kernel_rfl⟩
set_option maxRecDepth 100000 in
set_option maxHeartbeats 4000000 in
theorem wrongs_any (b : Nat) (w : World) : Calls Tryz.prog 101 #[.pointer (some ⟨b, 0, none⟩)] w (Ret w (fun _ : Nat × Nat => True) (fun t => .slice (some ⟨t.2, 0, none⟩) 5 5) (fun t => [cellB t.1 [.pointer (some ⟨b, 0, none⟩)] 207, cellB t.2 ((fvs t.1).flatMap eF) 211])) := by
 refine J_enter (fun _ => False) (vs := [.pointer (some ⟨b, 0, none⟩)]) (k := 6) (l := [(0, .pointer (some ⟨b, 0, none⟩))]) Tryz.func101 rfl rfl Tryz.ntmps101 rfl rfl (Wd.start _) ?_
 refine s2 ?_
 refine aW (oX [_]) (fun b1 hb1 => ?_)
 refine s8 ?_
 refine aW (ow_sliceC (vs := [_, _, _, _, _]) (ty := 211) rfl rfl (by rfl) rfl rfl (fun _ => by kernel_rfl)) (fun b6 hb6 => ?_)
 refine s4 ?_
 refine JR_one rfl (rr_tmp rfl) ?_
 intro w' hw
 exact ⟨(b1, b6), trivial, rfl, hw.pick (by repeat constructor)⟩
set_option maxRecDepth 100000 in
set_option maxHeartbeats 4000000 in
theorem pr1_any (g : FuncId) (gc : Array Value) [hf : Cf Tryz.prog g] (x : Lc) (b7 : Nat) (bb : Bool) (w : World) (hx : (cellB b7 [.int .i64 x.t, .int .i64 x.p, .bool x.pw] 78).holds w) (hcl : ∀ W, Below w.heap.size w W → Calls Tryz.prog g (#[] ++ #[Lcv x] ++ gc) W (Back (.bool bb) W)) : Calls Tryz.prog 102 (#[] ++ #[.func (.func g) #[] gc] ++ #[.pointer (some ⟨b7, 0, none⟩)]) w (Back (.bool bb) w) := by
 refine J_enter (fun _ => False) (vs := [.func (.func g) #[] gc, .pointer (some ⟨b7, 0, none⟩)]) (k := 5) (l := [(0, .func (.func g) #[] gc), (1, .pointer (some ⟨b7, 0, none⟩))]) Tryz.func102 rfl rfl Tryz.ntmps102 rfl rfl (Wd.start _) ?_
 refine s8 ?_
 refine aV (vOldC (cs := [.int .i64 x.t, .int .i64 x.p, .bool x.pw]) rfl rfl (fun h => h) hx rfl) ?_
 refine aW (ow_callB (ec_val rfl rfl rfl Cf.h) rfl rfl (fun w hw => hcl w hw.bel)) (fun _ _ => ?_)
 refine s4 ?_
 refine JR_one rfl (rr_tmp rfl) ?_
 intro w' hw
 exact ⟨rfl, hw.bel⟩
theorem pred_any (b bs b7 : Nat) (s : Sg) (m : Mt) (x : Lc) (w : World) (hc : (stC b s m).holds w) (hsv : (cellB bs [.pointer (some ⟨b, 0, none⟩)] 207).holds w) (hx : (cellB b7 [.int .i64 x.t, .int .i64 x.p, .bool x.pw] 78).holds w) (hh : s.o = false → s.h = 0 ∨ s.h = 1) : PrWr 102 #[.pointer (some ⟨b7, 0, none⟩)] (wrK m s x) (fvs bs) w := by
 intro k hk y hy hj W hW
 have hc' := It.up_cell hc hW
 have hs' := It.up_cell hsv hW
 have hx' := It.up_cell hx hW
 have up : ∀ W', Below W.heap.size W W' → (stC b s m).holds W' ∧ (cellB bs [.pointer (some ⟨b, 0, none⟩)] 207).holds W' := fun W' h => ⟨It.up_cell hc' h, It.up_cell hs' h⟩
 rcases (show k = 0 ∨ k = 1 ∨ k = 2 ∨ k = 3 ∨ k = 4 by have : (fvs bs).length = 5 := rfl; omega) with rfl | rfl | rfl | rfl | rfl
 ·subst hy; exact pr1_any 150 #[.pointer (some ⟨bs, 0, none⟩)] x b7 _ W hx' (fun W' h => wr0_any b bs s m x W' (up W' h).1 (up W' h).2)
 ·subst hy; exact pr1_any 151 #[] x b7 _ W hx' (fun W' _ => wr1_any s m x W')
 ·subst hy; exact pr1_any 152 #[] x b7 _ W hx' (fun W' _ => wr2_any s m x W')
 ·subst hy; exact pr1_any 153 #[.pointer (some ⟨bs, 0, none⟩)] x b7 _ W hx' (fun W' h => wr3_any b bs s m x W' (up W' h).1 (up W' h).2)
 ·subst hy; exact pr1_any 154 #[.pointer (some ⟨bs, 0, none⟩)] x b7 _ W hx' (fun W' h => wr4_any b bs s m x W' (up W' h).1 (up W' h).2 (hh (hj 0 (by decide))))
set_option maxRecDepth 100000 in
set_option maxHeartbeats 4000000 in
theorem states_any (m : Mt) (first : Int) (A : Option Addr) (n cap : Nat) (w : World) : Calls Tryz.prog 50 #[Mtv m, .int .i64 first, .slice A n cap] w (Ret w (fun _ : Nat × Nat × Nat => True) (fun t => .func (.func 98) #[] #[.pointer (some ⟨t.1, 0, none⟩), .pointer (some ⟨t.2.1, 0, none⟩), .pointer (some ⟨t.2.2, 0, none⟩)]) (fun t => [cellB t.1 [.int .i64 m.e, .int .i64 m.m, .int .i64 m.y, .bool m.ch, .bool m.pw] 61, cellB t.2.1 [.int .i64 first] 3, cellB t.2.2 [.slice A n cap] 67])) := by
 refine J_enter (fun _ => False) (vs := [.agg #[.int .i64 m.e, .int .i64 m.m, .int .i64 m.y, .bool m.ch, .bool m.pw], .int .i64 first, .slice A n cap]) (k := 5) (l := [(0, .agg #[.int .i64 m.e, .int .i64 m.m, .int .i64 m.y, .bool m.ch, .bool m.pw]), (1, .int .i64 first), (2, .slice A n cap)]) Tryz.func50 rfl rfl Tryz.ntmps50 rfl rfl (Wd.start _) ?_
 refine s2 ?_
 refine aW (oX [_, _, _, _, _]) (fun b3 hb3 => ?_)
 refine aW (oX [_]) (fun b4 hb4 => ?_)
 refine aW (oX [_]) (fun b5 hb5 => ?_)
 refine s4 ?_
 refine kJ [(3, _), (4, _), (5, _)] ?_
 refine s6 ?_
 refine JR_one rfl (rr_tmp rfl) ?_
 intro w' hw
 exact ⟨(b3, b4, b5), trivial, rfl, hw.pick (by repeat constructor)⟩
end Go.Proofs.YtmcpnoailbmkkaaGreatDoor
/- Layer 8: the standings of a card, produced; Replay. -/
namespace Go.Proofs.YtmcpnoailbmkkaaGreatDoor
open Go Go.RowKit Go.Proofs
attribute [local irreducible] J JQ JL JA JD

/-- A line of a card in memory. -/
def eLc (x : Lc) : List Value := [.int .i64 x.t, .int .i64 x.p, .bool x.pw]
theorem ELc : Enc 3 eLc := ⟨fun _ => rfl, fun x v h => by
 simp [eLc] at h
 rcases h with rfl | rfl | rfl <;> rfl⟩
/-- A round of them: what the producer holds; the line's number, how the game stands; what the one who asked has made of it. -/
structure RpT (R : Type) where
 P : List It
 k : Nat
 s : Sg
 r : R
set_option maxRecDepth 100000 in
set_option maxHeartbeats 4000000 in
theorem states1_any {R : Type} (E1 E2 : R → It) (E3 : It) (RR : Nat × Sg → R → Prop) (m : Mt) (first : Int) (l : List Lc) (A : Option Addr) (cap bm bf bc : Nat) (w0 : World) (hrow : Arr 3 eLc w0 (.slice A l.length cap) l) (hm : m.m ≤ 8) (hf : first = 0 ∨ first = 1) (hl40 : l.length ≤ 40) : Itr2 Tryz.prog (T := RpT R) (Y := Nat × Sg) 98 #[.pointer (some ⟨bm, 0, none⟩), .pointer (some ⟨bf, 0, none⟩), .pointer (some ⟨bc, 0, none⟩)] ⟨w0, fun _ => False, none, []⟩ (fun _ => True) (fun t X => [cellB bm [.int .i64 m.e, .int .i64 m.m, .int .i64 m.y, .bool m.ch, .bool m.pw] 61, cellB bf [.int .i64 first] 3, cellB bc [.slice A l.length cap] 67, E1 t.r, E2 t.r, E3, grpB t.P, X]) (fun t y => y = (t.k, t.s)) (fun y => .int .i64 (y.1 : Nat)) (fun y => Sgv y.2) (fun t _ X => [cellB bm [.int .i64 m.e, .int .i64 m.m, .int .i64 m.y, .bool m.ch, .bool m.pw] 61, cellB bf [.int .i64 first] 3, cellB bc [.slice A l.length cap] 67, E1 t.r, E2 t.r, E3, grpB t.P, X]) (fun t t' => t'.P = t.P ∧ t'.k = t.k ∧ t'.s = t.s ∧ RR (t.k, t.s) t'.r) (fun t => RR (nF m (bgS first) l, stN m (bgS first) l (nF m (bgS first) l)) t.r) (fun t => t.P = []) := by
 intro lp X t0 W _ hn0 hW hY
 obtain ⟨A', cap', e0, -, ⟨hl, -⟩, hAl⟩ := hrow
 obtain ⟨rfl, -, rfl⟩ : A = A' ∧ True ∧ cap = cap' := by injection e0 with e1 _ e3; exact ⟨e1, trivial, e3⟩
 refine J_start (B := ⟨w0, fun _ => False, none, []⟩) rfl rfl (vs := [.func (.yield lp) #[] #[], .pointer (some ⟨bm, 0, none⟩), .pointer (some ⟨bf, 0, none⟩), .pointer (some ⟨bc, 0, none⟩)]) (k := 40) (l := [(0, .func (.yield lp) #[] #[]), (1, .pointer (some ⟨bm, 0, none⟩)), (2, .pointer (some ⟨bf, 0, none⟩)), (3, .pointer (some ⟨bc, 0, none⟩))]) Tryz.func98 rfl rfl Tryz.ntmps98 rfl rfl (hW) ?_
 refine s4 ?_
 refine aW (oR (fun w hw => begin_any m first w)) (fun b _ => ?_)
 refine s5 ?_
 refine kJ [(0, _), (3, _), (5, _)] ?_
 refine s7 ?_
 refine xL (T := Nat × Sg × R) (fun q => q.1 ≤ l.length ∧ q.2.1 = stN m (bgS first) l q.1 ∧ (∀ j (h : j < l.length), j < q.1 → wrB m (stN m (bgS first) l j) (l[j]'h) = false)) (fun q => [(0, .func (.yield lp) #[] #[]), (3, .pointer (some ⟨bc, 0, none⟩)), (5, .pointer (some ⟨b, 0, none⟩)), (11, .slice A l.length cap), (12, .int .i64 (l.length : Nat)), (13, .int .i64 (q.1 : Nat))]) (fun q => [cellB bm [.int .i64 m.e, .int .i64 m.m, .int .i64 m.y, .bool m.ch, .bool m.pw] 61, cellB bf [.int .i64 first] 3, cellB bc [.slice A l.length cap] 67, E1 q.2.2, E2 q.2.2, E3, X, stC b q.2.1 m]) (fun q => l.length - q.1) (0, bgS first, t0.r) ⟨Nat.zero_le _, rfl, fun j h hj => absurd hj (Nat.not_lt_zero _)⟩ ?_
 rintro ⟨k, sk, r⟩ ⟨hk, hs, hw1⟩
 dsimp only at hk hs hw1 ⊢
 have hsI : SgI m k sk := by rw [hs]; exact (SgI.bg hf).stN hm k hk hw1
 refine s3 ?_
 refine JL_dec (fun h14 => ?_) (fun h14 => ?_)
 ·refine s9 ?_
  have hltx : k < l.length := by omega
  obtain ⟨bx, qx, rfl, hh⟩ := hAl (by intro e; subst e; simp at hltx)
  obtain ⟨x, hx⟩ : ∃ y, l[k]'hltx = y := ⟨_, rfl⟩
  refine s3 ?_
  refine aV (vHoldA (cs := [.int .i64 x.t, .int .i64 x.p, .bool x.pw]) ELc rfl rfl (fun h => h) hh hltx (by rw [hx]; rfl)) ?_
  refine aW oA (fun b7 hb7 => ?_)
  refine s6 ?_
  refine kJ [(0, _), (3, _), (5, _), (6, _), (7, _), (11, _), (12, _), (13, _)] ?_
  refine J_regI ?_
  refine iV (RP.rv (rp_move rfl rfl)) ?_
  refine iV (RP.rv (rp_move rfl rfl)) ?_
  refine iV (RP.rv (rp_move rfl rfl)) ?_
  refine iV (RP.rv pAny) ?_
  refine iV (RP.rv pAny) ?_
  refine iV (vAgg [_, _, _, _, _, _, _, _, _] rfl rfl rfl (by repeat constructor) rfl) ?_
  refine iY2 (T := RpT R) (φ := fun t' => t'.P = [stC b sk m, cellB b7 [.int .i64 x.t, .int .i64 x.p, .bool x.pw] 78] ∧ RR (k, sk) t'.r) (HH := fun t' => [cellB bm [.int .i64 m.e, .int .i64 m.m, .int .i64 m.y, .bool m.ch, .bool m.pw] 61, cellB bf [.int .i64 first] 3, cellB bc [.slice (some ⟨bx, qx, none⟩) l.length cap] 67, E1 t'.r, E2 t'.r, E3, grpB [stC b sk m, cellB b7 [.int .i64 x.t, .int .i64 x.p, .bool x.pw] 78], X]) (fun W1 hW1 m' => YieldAt.mono' (hY ⟨[stC b sk m, cellB b7 [.int .i64 x.t, .int .i64 x.p, .bool x.pw] 78], k, sk, r⟩ (k, sk) W1 trivial rfl ((hW1.close (HA := [stC b sk m, cellB b7 [.int .i64 x.t, .int .i64 x.p, .bool x.pw] 78]) (H1 := [cellB bm [.int .i64 m.e, .int .i64 m.m, .int .i64 m.y, .bool m.ch, .bool m.pw] 61, cellB bf [.int .i64 first] 3, cellB bc [.slice (some ⟨bx, qx, none⟩) l.length cap] 67, E1 r, E2 r, E3, X]) (by repeat constructor) rfl).pick (by repeat constructor)) m') (fun e W2 h => ⟨h.1, h.2.imp fun t' h => ⟨⟨h.1.1, h.1.2.2.2⟩, by have h3 := h.2.2; dsimp only at h3; rw [h.1.1] at h3; exact h3⟩⟩)) (fun t' ht' => ?_)
  obtain ⟨hP', hR'⟩ := ht'
  obtain ⟨r', hr'⟩ : ∃ r', r' = t'.r := ⟨_, rfl⟩
  rw [← hr'] at hR' ⊢
  refine iJ ?_
  refine JL_opn [stC b sk m, cellB b7 [.int .i64 x.t, .int .i64 x.p, .bool x.pw] 78] ?_ (hk := (by repeat (first | exact Pk.refl _ | (apply Pk.pick; (repeat (first | exact Rm.here _ | apply Rm.there))))))
  dsimp only [List.cons_append, List.nil_append]
  refine s3 ?_
  refine aW (oR (fun w hw => wrongs_any b w)) (fun t28 _ => ?_)
  obtain ⟨bs, bF⟩ := t28
  dsimp only [List.cons_append, List.nil_append]
  refine s1 ?_
  refine aCB (fun w hw => ContainsFuncV 102 #[.pointer (some ⟨b7, 0, none⟩)] (wrK m sk x) (fvs bs) _ w (pred_any b bs b7 sk m x w (hw.ok (stC b sk m) (by repeat constructor)).1 (hw.ok (cellB bs [.pointer (some ⟨b, 0, none⟩)] 207) (by repeat constructor)).1 (hw.ok (cellB b7 [.int .i64 x.t, .int .i64 x.p, .bool x.pw] 78) (by repeat constructor)).1 hsI.h) (cell_rowV (hw.ok (cellB bF ((fvs bs).flatMap eF) 211) (by repeat constructor)).1 (show 5 ≤ 1000 by decide))) ?_
  rw [← show wrB m sk x = (List.range (fvs bs).length).any (wrK m sk x) from wrB_k]
  refine JL_bool (fun h30 => ?_) (fun h30 => ?_)
  ·refine s2 ?_
   refine s9 ?_
   refine JR_none rfl ?_
   intro w' hw
   have hn := nF_at l (bgS first) k hk hw1 (fun h => by rw [← hs, hx]; exact h30)
   exact ⟨⟨_, rfl⟩, ⟨[stC b sk m], k, sk, r'⟩, trivial, by dsimp only; rw [hn, ← hs]; exact hR', (hw.close (HA := [stC b sk m]) (H1 := [cellB bm [.int .i64 m.e, .int .i64 m.m, .int .i64 m.y, .bool m.ch, .bool m.pw] 61, cellB bf [.int .i64 first] 3, cellB bc [.slice (some ⟨bx, qx, none⟩) l.length cap] 67, E1 r', E2 r', E3, X]) (by repeat constructor) rfl).pick (by repeat constructor)⟩
  ·refine s2 ?_
   refine s4 ?_
   refine kJ [(0, _), (3, _), (5, _), (7, _), (11, _), (12, _), (13, _)] ?_
   refine s3 ?_
   refine aW (oM (fun w hw => play_any b sk m x w (hw.ok (stC b sk m) (by repeat constructor)).1 (fun c hc => ((hw.ok (stC b sk m) (by repeat constructor)).2 c hc).2) (hsI.h (wr_no h30).1) (by have := (wr_no h30).2; omega) (by have h1 := hsI.p0; have h2 := hsI.p1; have h3 := hsI.e; omega))) (fun _ _ => ?_)
   refine s3 ?_
   refine kJ [(0, _), (3, _), (5, _), (11, _), (12, _), (13, _)] ?_
   refine s4 ?_
   have hs2 : plS m sk x = stN m (bgS first) l (k + 1) := by rw [stN_s hltx hx, hs]
   exact xR (k + 1, plS m sk x, r') ⟨by dsimp only; omega, hs2, fun j h hj => (Nat.lt_or_eq_of_le (Nat.le_of_lt_succ hj)).elim (hw1 j h) (fun e => by subst e; rw [← hs, hx]; exact h30)⟩ (by dsimp only; omega) (hl := ⟨rfl, rfl, rfl, rfl, rfl, (congrArg some (by go_num)), trivial⟩)
 ·refine s9 ?_
  obtain rfl : k = l.length := by omega
  refine kJ [(0, _), (3, _), (5, _)] ?_
  refine J_draI (by kernel_rfl) ?_
  refine jiP (i := 0) (d := 36) rfl rfl (by kernel_rfl) (by kernel_rfl) (by kernel_rfl) (fun _ _ => rfl) wAny (rp_move rfl rfl) (by rfl) ?_
  refine jiP (i := 3) (d := 39) rfl rfl (by kernel_rfl) (by kernel_rfl) (by kernel_rfl) (fun _ _ => rfl) wAny (rp_move rfl rfl) (by rfl) ?_
  refine jiP (i := 4) (d := 40) rfl rfl (by kernel_rfl) (by kernel_rfl) (by kernel_rfl) (fun _ _ => rfl) wAny (pAny) (by rfl) ?_
  refine jiP (i := 5) (d := 41) rfl rfl (by kernel_rfl) (by kernel_rfl) (by kernel_rfl) (fun _ _ => rfl) wAny (pAny) (by rfl) ?_
  refine ji2 (i := 1) (j := 6) (by kernel_rfl) ?_ ?_
  ·refine joV (i := 1) (d := 37) rfl (vAny) rfl rfl wAny (by rfl) ?_
   refine jiP (i := 2) (d := 38) rfl rfl (by kernel_rfl) (by kernel_rfl) (by kernel_rfl) (fun _ _ => rfl) wAny (pAny) (by rfl) ?_
   refine ji1 (i := 6) (by kernel_rfl) ?_
   refine joV (i := 6) (d := 42) rfl (vAgg [_, _, _, _, _, _, _, _, _] rfl rfl rfl (by repeat constructor) rfl) rfl rfl wAny (by rfl) ?_
   refine ji1 (i := 7) (by kernel_rfl) ?_
   refine joY2 (T := RpT R) (φ := fun t' => t'.P = [stC b sk m] ∧ RR (l.length, sk) t'.r) (HH := fun t' => [cellB bm [.int .i64 m.e, .int .i64 m.m, .int .i64 m.y, .bool m.ch, .bool m.pw] 61, cellB bf [.int .i64 first] 3, cellB bc [.slice A l.length cap] 67, E1 t'.r, E2 t'.r, E3, grpB [stC b sk m], X]) (i := 7) rfl (fun W1 hW1 m' => YieldAt.mono' (hY ⟨[stC b sk m], l.length, sk, r⟩ (l.length, sk) W1 trivial rfl ((hW1.close (HA := [stC b sk m]) (H1 := [cellB bm [.int .i64 m.e, .int .i64 m.m, .int .i64 m.y, .bool m.ch, .bool m.pw] 61, cellB bf [.int .i64 first] 3, cellB bc [.slice A l.length cap] 67, E1 r, E2 r, E3, X]) (by repeat constructor) rfl).pick (by repeat constructor)) m') (fun e W2 h => ⟨h.1, h.2.imp fun t' h => ⟨⟨h.1.1, h.1.2.2.2⟩, by have h3 := h.2.2; dsimp only at h3; rw [h.1.1] at h3; exact h3⟩⟩)) (fun t' ht' => ?_) rfl rfl rfl rfl rfl wAny (by rfl)
   obtain ⟨hP', hR'⟩ := ht'
   obtain ⟨r', hr'⟩ : ∃ r', r' = t'.r := ⟨_, rfl⟩
   rw [← hr'] at hR' ⊢
   refine jiE (by kernel_rfl) ?_
   refine JR_end rfl ?_
   intro w' hw
   have hn := nF_at l (bgS first) l.length (Nat.le_refl _) hw1 (fun h => absurd h (Nat.lt_irrefl _))
   exact ⟨⟨_, rfl⟩, ⟨[stC b sk m], l.length, sk, r'⟩, trivial, by dsimp only; rw [hn, ← hs]; exact hR', hw.pick (by repeat constructor)⟩
  ·refine joV (i := 6) (d := 42) rfl (vAgg [_, _, _, _, _, _, _, _, _] rfl rfl rfl (by repeat constructor) rfl) rfl rfl wAny (by rfl) ?_
   refine ji1 (i := 1) (by kernel_rfl) ?_
   refine joV (i := 1) (d := 37) rfl (vAny) rfl rfl wAny (by rfl) ?_
   refine jiP (i := 2) (d := 38) rfl rfl (by kernel_rfl) (by kernel_rfl) (by kernel_rfl) (fun _ _ => rfl) wAny (pAny) (by rfl) ?_
   refine ji1 (i := 7) (by kernel_rfl) ?_
   refine joY2 (T := RpT R) (φ := fun t' => t'.P = [stC b sk m] ∧ RR (l.length, sk) t'.r) (HH := fun t' => [cellB bm [.int .i64 m.e, .int .i64 m.m, .int .i64 m.y, .bool m.ch, .bool m.pw] 61, cellB bf [.int .i64 first] 3, cellB bc [.slice A l.length cap] 67, E1 t'.r, E2 t'.r, E3, grpB [stC b sk m], X]) (i := 7) rfl (fun W1 hW1 m' => YieldAt.mono' (hY ⟨[stC b sk m], l.length, sk, r⟩ (l.length, sk) W1 trivial rfl ((hW1.close (HA := [stC b sk m]) (H1 := [cellB bm [.int .i64 m.e, .int .i64 m.m, .int .i64 m.y, .bool m.ch, .bool m.pw] 61, cellB bf [.int .i64 first] 3, cellB bc [.slice A l.length cap] 67, E1 r, E2 r, E3, X]) (by repeat constructor) rfl).pick (by repeat constructor)) m') (fun e W2 h => ⟨h.1, h.2.imp fun t' h => ⟨⟨h.1.1, h.1.2.2.2⟩, by have h3 := h.2.2; dsimp only at h3; rw [h.1.1] at h3; exact h3⟩⟩)) (fun t' ht' => ?_) rfl rfl rfl rfl rfl wAny (by rfl)
   obtain ⟨hP', hR'⟩ := ht'
   obtain ⟨r', hr'⟩ : ∃ r', r' = t'.r := ⟨_, rfl⟩
   rw [← hr'] at hR' ⊢
   refine jiE (by kernel_rfl) ?_
   refine JR_end rfl ?_
   intro w' hw
   have hn := nF_at l (bgS first) l.length (Nat.le_refl _) hw1 (fun h => absurd h (Nat.lt_irrefl _))
   exact ⟨⟨_, rfl⟩, ⟨[stC b sk m], l.length, sk, r'⟩, trivial, by dsimp only; rw [hn, ← hs]; exact hR', hw.pick (by repeat constructor)⟩
end Go.Proofs.YtmcpnoailbmkkaaGreatDoor
/- Layer 8: Replay. -/
namespace Go.Proofs.YtmcpnoailbmkkaaGreatDoor
open Go Go.RowKit Go.Proofs
attribute [local irreducible] J JQ JL JA JD

/-- No standing. -/
def zS : Sg := ⟨0, 0, 0, 0, 0, false, false, false, false⟩
/-- What Replay comes to. -/
def rplF (m : Mt) (first : Int) (l : List Lc) (cc : Int) : Sg × Int × Int :=
 if okM m = true ∧ (0 ≤ first ∧ first ≤ 1) ∧ (-1 ≤ cc ∧ cc ≤ 1) then
  if 40 < l.length then (zS, -1, 3)
  else if nF m (bgS first) l < l.length then (zS, (nF m (bgS first) l : Nat), 2)
  else if cc = -1 then (stN m (bgS first) l (nF m (bgS first) l), -1, 0)
  else if (stN m (bgS first) l (nF m (bgS first) l)).o = true ∨ (stN m (bgS first) l (nF m (bgS first) l)).e < m.y then (zS, (nF m (bgS first) l : Nat), 9)
  else (endG (stN m (bgS first) l (nF m (bgS first) l)) (1 - cc), -1, 0)
 else (zS, -1, 2)
theorem okM_m {m : Mt} (h : okM m = true) : (1 ≤ m.e ∧ m.e ≤ 16) ∧ (1 ≤ m.m ∧ m.m ≤ 8) ∧ 1 ≤ m.y ∧ m.y ≤ m.e := by
 unfold okM at h
 simp only [Bool.and_eq_true, decide_eq_true_eq] at h
 exact ⟨h.1.1, h.1.2, h.2⟩
set_option maxRecDepth 100000 in
set_option maxHeartbeats 4000000 in
theorem Replay_any (m : Mt) (first : Int) (l : List Lc) (A : Option Addr) (cap : Nat) (cc : Int) (w : World) (hrow : Arr 3 eLc w (.slice A l.length cap) l) : Calls Tryz.prog 18 #[Mtv m, .int .i64 first, .slice A l.length cap, .int .i64 cc] w (Back (.tuple #[Sgv (rplF m first l cc).1, .int .i64 (rplF m first l cc).2.1, .int .i64 (rplF m first l cc).2.2]) w) := by
 have hll : l.length ≤ 9223372036854775807 := by obtain ⟨_, _, _, _, ⟨h, _⟩, _⟩ := hrow; exact h
 refine J_startM (B := bs w) rfl rfl (vs := [.agg #[.int .i64 m.e, .int .i64 m.m, .int .i64 m.y, .bool m.ch, .bool m.pw], .int .i64 first, .slice A l.length cap, .int .i64 cc]) (k := 69) (l := [(0, .agg #[.int .i64 m.e, .int .i64 m.m, .int .i64 m.y, .bool m.ch, .bool m.pw]), (1, .int .i64 first), (2, .slice A l.length cap), (3, .int .i64 cc)]) Tryz.func18 rfl rfl Tryz.ntmps18 rfl rfl ((Wd.start (bs w))) ?_
 refine s2 ?_
 refine aW (oX [_, _, _, _, _]) (fun b4 hb4 => ?_)
 refine aW oA (fun b8 hb8 => ?_)
 refine aW oA (fun b9 hb9 => ?_)
 refine s6 ?_
 refine J_defs ?_
 refine s2 ?_
 refine aCB (fun w hw => CheckMatch_any m w) ?_
 refine JL_bool (fun h16 => ?_) (fun h16 => ?_)
 ·refine s3 ?_
  refine aCB (fun w hw => gwithin _ _ _ w) ?_
  refine JL_dec (fun h20 => ?_) (fun h20 => ?_)
  ·refine s4 ?_
   refine aCB (fun w hw => gwithin _ _ _ w) ?_
   refine JL_dec (fun h25 => ?_) (fun h25 => ?_)
   ·refine s7 ?_
    refine kJ [(1, _), (2, _), (3, _), (4, _), (8, _), (9, _)] ?_
    refine s4 ?_
    refine JL_dec (fun h32 => ?_) (fun h32 => ?_)
    ·refine s5 ?_
     refine kJ [(8, _), (9, _)] ?_
     refine s1 ?_
     refine aP (rp_buildC (fun us => [.int .i64 0, .int .i64 0, .int .i64 0, .int .i64 0, .int .i64 0, .bool false, .bool false, .bool false, .bool false]) rfl rfl (fun w => by kernel_rfl)) ?_
     refine aW0 (wStore (cs := [_, _, _, _, _, _, _, _, _]) rfl rfl rfl rfl rfl rfl rfl (by repeat constructor) rfl rfl) ?_
     refine s7 ?_
     refine JR_marks3 (fun X => [cellB b8 [.int .i64 0, .int .i64 0, .int .i64 0, .int .i64 0, .int .i64 0, .bool false, .bool false, .bool false, .bool false] 74, cellB b9 [.int .i64 (-1)] 3, X]) (Ds := []) rfl (fun _ => (rr_agg (cs := [_, _, _, _, _, _, _, _, _]) rfl Agg.h (Siz.h (k := 9)) (by repeat constructor) (by rfl))) (fun _ => (rr_cell rfl Agg.h (by repeat constructor) (by rfl))) (fun _ => (rr_tmp rfl)) ?_
     intro w' hw
     have e : rplF m first l cc = (zS, -1, 3) := by unfold rplF; rw [if_pos ⟨h16, h20, h25⟩]; rw [if_pos (show 40 < l.length by omega)]
     rw [e]
     exact ⟨rfl, (hw.un (r' := none) (d' := [])).bel⟩
    ·refine s9 ?_
     have hm : m.m ≤ 8 := (okM_m h16).2.1.2
     have hf : first = 0 ∨ first = 1 := by omega
     have hl40 : l.length ≤ 40 := by omega
     refine J_grp0 ?_
     refine kJ [(1, _), (2, _), (3, _), (4, _), (8, _), (9, _)] ?_
     refine s4 ?_
     refine aW (oR (fun w hw => states_any m first A l.length cap w)) (fun t37 _ => ?_)
     obtain ⟨bm, bf, bc⟩ := t37
     dsimp only [List.cons_append, List.nil_append]
     refine s3 ?_
     refine kJ [(2, _), (3, _), (4, _), (8, _), (9, _), (37, _)] ?_
     refine J_range3 (T := RpT (Nat × Sg)) (Y := Nat × Sg) (U := Nat) (Ds := []) (p := 38) (q := 39) (fun t => True) (fun t X => [cellB bm [.int .i64 m.e, .int .i64 m.m, .int .i64 m.y, .bool m.ch, .bool m.pw] 61, cellB bf [.int .i64 first] 3, cellB bc [.slice A l.length cap] 67, cellB b8 [.int .i64 t.r.2.p0, .int .i64 t.r.2.p1, .int .i64 t.r.2.e, .int .i64 t.r.2.h, .int .i64 t.r.2.w, .bool t.r.2.o, .bool t.r.2.x, .bool t.r.2.w0, .bool t.r.2.w1] 74, cellB b9 [.int .i64 (t.r.1 : Nat)] 3, cellB b4 [.int .i64 m.e, .int .i64 m.m, .int .i64 m.y, .bool m.ch, .bool m.pw] 61, grpB t.P, X]) (fun t y => y = (t.k, t.s)) (fun y => .int .i64 (y.1 : Nat)) (fun y => Sgv y.2) (fun t y X => [cellB bm [.int .i64 m.e, .int .i64 m.m, .int .i64 m.y, .bool m.ch, .bool m.pw] 61, cellB bf [.int .i64 first] 3, cellB bc [.slice A l.length cap] 67, cellB b8 [.int .i64 t.r.2.p0, .int .i64 t.r.2.p1, .int .i64 t.r.2.e, .int .i64 t.r.2.h, .int .i64 t.r.2.w, .bool t.r.2.o, .bool t.r.2.x, .bool t.r.2.w0, .bool t.r.2.w1] 74, cellB b9 [.int .i64 (t.r.1 : Nat)] 3, cellB b4 [.int .i64 m.e, .int .i64 m.m, .int .i64 m.y, .bool m.ch, .bool m.pw] 61, grpB t.P, X]) (fun t t' => t'.P = t.P ∧ t'.k = t.k ∧ t'.s = t.s ∧ t'.r = (t.k, t.s)) (fun t => t.r = (nF m (bgS first) l, stN m (bgS first) l (nF m (bgS first) l))) (fun t => t.P = []) (fun u y => [(8, .pointer (some ⟨b8, 0, none⟩)), (9, .pointer (some ⟨b9, 0, none⟩)), (11, .int .i64 (y.1 : Nat)), (12, .pointer (some ⟨u, 0, none⟩))]) (fun u t y X => [cellB u [.int .i64 y.2.p0, .int .i64 y.2.p1, .int .i64 y.2.e, .int .i64 y.2.h, .int .i64 y.2.w, .bool y.2.o, .bool y.2.x, .bool y.2.w0, .bool y.2.w1] 74, cellB bm [.int .i64 m.e, .int .i64 m.m, .int .i64 m.y, .bool m.ch, .bool m.pw] 61, cellB bf [.int .i64 first] 3, cellB bc [.slice A l.length cap] 67, cellB b8 [.int .i64 t.r.2.p0, .int .i64 t.r.2.p1, .int .i64 t.r.2.e, .int .i64 t.r.2.h, .int .i64 t.r.2.w, .bool t.r.2.o, .bool t.r.2.x, .bool t.r.2.w0, .bool t.r.2.w1] 74, cellB b9 [.int .i64 (t.r.1 : Nat)] 3, cellB b4 [.int .i64 m.e, .int .i64 m.m, .int .i64 m.y, .bool m.ch, .bool m.pw] 61, grpB t.P, X]) (states1_any (fun r => cellB b8 [.int .i64 r.2.p0, .int .i64 r.2.p1, .int .i64 r.2.e, .int .i64 r.2.h, .int .i64 r.2.w, .bool r.2.o, .bool r.2.x, .bool r.2.w0, .bool r.2.w1] 74) (fun r => cellB b9 [.int .i64 (r.1 : Nat)] 3) (cellB b4 [.int .i64 m.e, .int .i64 m.m, .int .i64 m.y, .bool m.ch, .bool m.pw] 61) (fun y r => r = y) m first l A cap bm bf bc w hrow hm hf hl40) (⟨[], 0, zS, (0, zS)⟩) (trivial) (rfl) ?_ ?_ ?_
     ·rintro lp ⟨tP, tk, ts, tr⟩ ⟨yk, ys⟩ X ht hy
      dsimp only at hy ⊢
      refine s1 ?_
      refine kJ [(8, _), (9, _), (38, _), (39, _)] ?_
      refine s5 ?_
      refine aW oA (fun b12 hb12 => ?_)
      refine aW0 (wStore (cs := [_, _, _, _, _, _, _, _, _]) rfl rfl rfl rfl rfl rfl rfl (by repeat constructor) rfl rfl) ?_
      refine s1 ?_
      exact xE b12 trivial
     ·rintro lp ⟨tP, tk, ts, tr⟩ ⟨yk, ys⟩ X u ht hy
      dsimp only at hy ⊢
      refine s2 ?_
      refine aV (vAgg [_, _, _, _, _, _, _, _, _] rfl rfl rfl (by repeat constructor) rfl) ?_
      refine s1 ?_
      refine aW0 (wStore (cs := [_, _, _, _, _, _, _, _, _]) rfl rfl rfl rfl rfl rfl rfl (by repeat constructor) rfl rfl) ?_
      refine s3 ?_
      exact xE ⟨tP, tk, ts, (yk, ys)⟩ ⟨⟨rfl, rfl, rfl, hy⟩, trivial⟩
     ·rintro D ⟨tP, tk, ts, ⟨rk, rs⟩⟩ ht hfin
      dsimp only at hfin ⊢
      obtain ⟨hrk, hrs⟩ : rk = nF m (bgS first) l ∧ rs = stN m (bgS first) l (nF m (bgS first) l) := by injection hfin with e1 e2; exact ⟨e1, e2⟩
      refine s10 ?_
      refine JL_dec (fun h46 => ?_) (fun h46 => ?_)
      ·refine s5 ?_
       refine kJ [(8, _), (9, _)] ?_
       refine xDx [0, 1, 2, 3, 4] [] [1] [cellB b9 [.int .i64 (rk : Nat)] 3] ?_
       refine dP rfl (rp_buildC (fun us => [.int .i64 0, .int .i64 0, .int .i64 0, .int .i64 0, .int .i64 0, .bool false, .bool false, .bool false, .bool false]) rfl rfl (fun w => by kernel_rfl)) ?_
       refine s1 ?_
       refine dW0 rfl (wStore (cs := [_, _, _, _, _, _, _, _, _]) rfl rfl rfl rfl rfl rfl rfl (by repeat constructor) rfl rfl) ?_
       refine dW0 rfl wAnyS ?_ (hm := by exact ⟨by kernel_rfl, .inl (by kernel_rfl)⟩)
       refine s6 ?_
       refine JR_marks3 (fun X => [cellB b8 [.int .i64 0, .int .i64 0, .int .i64 0, .int .i64 0, .int .i64 0, .bool false, .bool false, .bool false, .bool false] 74, cellB b9 [.int .i64 (((rk : Nat) : Int))] 3, X]) (Ds := [D]) rfl (fun _ => (rr_agg (cs := [_, _, _, _, _, _, _, _, _]) rfl Agg.h (Siz.h (k := 9)) (by repeat constructor) (by rfl))) (fun _ => (rr_cell rfl Agg.h (by repeat constructor) (by rfl))) (fun _ => (rr_tmp rfl)) ?_
       intro w' hw
       have e : rplF m first l cc = (zS, ((rk : Nat) : Int), 2) := by unfold rplF; rw [if_pos ⟨h16, h20, h25⟩]; rw [if_neg (show ¬ 40 < l.length by omega)]; rw [← hrk, if_pos (show rk < l.length by omega)]
       rw [e]
       exact ⟨rfl, (hw.un (r' := none) (d' := [])).bel⟩
      ·refine s5 ?_
       refine kJ [(3, _), (4, _), (8, _), (9, _)] ?_
       refine s3 ?_
       refine JL_dec (fun h51 => ?_) (fun h51 => ?_)
       ·refine s5 ?_
        refine kJ [(8, _), (9, _)] ?_
        refine s1 ?_
        refine aV (vAgg [_, _, _, _, _, _, _, _, _] rfl rfl rfl (by repeat constructor) rfl) ?_
        refine aW0 (wStore (cs := [_, _, _, _, _, _, _, _, _]) rfl rfl rfl rfl rfl rfl rfl (by repeat constructor) rfl rfl) ?_
        refine s7 ?_
        refine JR_marks3 (fun X => [cellB b8 [.int .i64 rs.p0, .int .i64 rs.p1, .int .i64 rs.e, .int .i64 rs.h, .int .i64 rs.w, .bool rs.o, .bool rs.x, .bool rs.w0, .bool rs.w1] 74, cellB b9 [.int .i64 (-1)] 3, X]) (Ds := [D]) rfl (fun _ => (rr_agg (cs := [_, _, _, _, _, _, _, _, _]) rfl Agg.h (Siz.h (k := 9)) (by repeat constructor) (by rfl))) (fun _ => (rr_cell rfl Agg.h (by repeat constructor) (by rfl))) (fun _ => (rr_tmp rfl)) ?_
        intro w' hw
        have e : rplF m first l cc = (rs, -1, 0) := by unfold rplF; rw [if_pos ⟨h16, h20, h25⟩]; rw [if_neg (show ¬ 40 < l.length by omega)]; rw [← hrk, if_neg (show ¬ rk < l.length by omega)]; rw [if_pos h51, hrs, hrk]
        rw [e]
        exact ⟨rfl, (hw.un (r' := none) (d' := [])).bel⟩
       ·refine s8 ?_
        refine JL_bool (fun h55 => ?_) (fun h55 => ?_)
        ·refine s12 ?_
         refine kJ [(8, _), (9, _)] ?_
         refine xDx [0, 1, 2, 3, 4] [] [1] [cellB b9 [.int .i64 (rk : Nat)] 3] ?_
         refine dP rfl (rp_buildC (fun us => [.int .i64 0, .int .i64 0, .int .i64 0, .int .i64 0, .int .i64 0, .bool false, .bool false, .bool false, .bool false]) rfl rfl (fun w => by kernel_rfl)) ?_
         refine s1 ?_
         refine dW0 rfl (wStore (cs := [_, _, _, _, _, _, _, _, _]) rfl rfl rfl rfl rfl rfl rfl (by repeat constructor) rfl rfl) ?_
         refine dW0 rfl wAnyS ?_ (hm := by exact ⟨by kernel_rfl, .inl (by kernel_rfl)⟩)
         refine s6 ?_
         refine JR_marks3 (fun X => [cellB b8 [.int .i64 0, .int .i64 0, .int .i64 0, .int .i64 0, .int .i64 0, .bool false, .bool false, .bool false, .bool false] 74, cellB b9 [.int .i64 (((rk : Nat) : Int))] 3, X]) (Ds := [D]) rfl (fun _ => (rr_agg (cs := [_, _, _, _, _, _, _, _, _]) rfl Agg.h (Siz.h (k := 9)) (by repeat constructor) (by rfl))) (fun _ => (rr_cell rfl Agg.h (by repeat constructor) (by rfl))) (fun _ => (rr_tmp rfl)) ?_
         intro w' hw
         have e : rplF m first l cc = (zS, ((rk : Nat) : Int), 9) := by unfold rplF; rw [if_pos ⟨h16, h20, h25⟩]; rw [if_neg (show ¬ 40 < l.length by omega)]; rw [← hrk, if_neg (show ¬ rk < l.length by omega)]; rw [if_neg h51, show stN m (bgS first) l rk = rs by rw [hrs, hrk]]; rw [if_pos (.inl h55)]
         rw [e]
         exact ⟨rfl, (hw.un (r' := none) (d' := [])).bel⟩
        ·refine s6 ?_
         refine JL_dec (fun h61 => ?_) (fun h61 => ?_)
         ·refine s6 ?_
          refine kJ [(8, _), (9, _)] ?_
          refine xDx [0, 1, 2, 3, 4] [] [1] [cellB b9 [.int .i64 (rk : Nat)] 3] ?_
          refine dP rfl (rp_buildC (fun us => [.int .i64 0, .int .i64 0, .int .i64 0, .int .i64 0, .int .i64 0, .bool false, .bool false, .bool false, .bool false]) rfl rfl (fun w => by kernel_rfl)) ?_
          refine s1 ?_
          refine dW0 rfl (wStore (cs := [_, _, _, _, _, _, _, _, _]) rfl rfl rfl rfl rfl rfl rfl (by repeat constructor) rfl rfl) ?_
          refine dW0 rfl wAnyS ?_ (hm := by exact ⟨by kernel_rfl, .inl (by kernel_rfl)⟩)
          refine s6 ?_
          refine JR_marks3 (fun X => [cellB b8 [.int .i64 0, .int .i64 0, .int .i64 0, .int .i64 0, .int .i64 0, .bool false, .bool false, .bool false, .bool false] 74, cellB b9 [.int .i64 (((rk : Nat) : Int))] 3, X]) (Ds := [D]) rfl (fun _ => (rr_agg (cs := [_, _, _, _, _, _, _, _, _]) rfl Agg.h (Siz.h (k := 9)) (by repeat constructor) (by rfl))) (fun _ => (rr_cell rfl Agg.h (by repeat constructor) (by rfl))) (fun _ => (rr_tmp rfl)) ?_
          intro w' hw
          have e : rplF m first l cc = (zS, ((rk : Nat) : Int), 9) := by unfold rplF; rw [if_pos ⟨h16, h20, h25⟩]; rw [if_neg (show ¬ 40 < l.length by omega)]; rw [← hrk, if_neg (show ¬ rk < l.length by omega)]; rw [if_neg h51, show stN m (bgS first) l rk = rs by rw [hrs, hrk]]; rw [if_pos (.inr h61)]
          rw [e]
          exact ⟨rfl, (hw.un (r' := none) (d' := [])).bel⟩
         ·refine s9 ?_
          refine kJ [(3, _), (4, _), (8, _), (9, _)] ?_
          refine s1 ?_
          refine aV (vAgg [_, _, _, _, _, _, _, _, _] rfl rfl rfl (by repeat constructor) rfl) ?_
          refine s1 ?_
          refine aP (rp_buildC (fun us => [us.getD 0 undef, us.getD 1 undef]) rfl rfl (fun w => by kernel_rfl)) ?_
          refine aW oA (fun b13 hb13 => ?_)
          refine aW0 (wStore (cs := [_, _, _, _, _, _, _, _, _, _, _, _, _, _]) rfl rfl rfl rfl rfl rfl rfl (by repeat constructor) rfl rfl) ?_
          refine s3 ?_
          refine kJ [(3, _), (8, _), (9, _), (13, _)] ?_
          refine s3 ?_
          refine aW (oM (fun w hw => end_any b13 rs m (1 - cc) w (hw.ok (stC b13 rs m) (by repeat constructor)).1 (fun c hc => ((hw.ok (stC b13 rs m) (by repeat constructor)).2 c hc).2))) (fun _ _ => ?_)
          refine s3 ?_
          refine kJ [(8, _), (9, _), (13, _)] ?_
          refine s2 ?_
          refine aV (vAgg [_, _, _, _, _, _, _, _, _] rfl rfl rfl (by repeat constructor) rfl) ?_
          refine aW0 (wStore (cs := [_, _, _, _, _, _, _, _, _]) rfl rfl rfl rfl rfl rfl rfl (by repeat constructor) rfl rfl) ?_
          refine s5 ?_
          refine JR_marks3 (fun X => [cellB b8 [.int .i64 rs.p0, .int .i64 rs.p1, .int .i64 rs.e, .int .i64 (-1), .int .i64 (1 - cc), .bool true, .bool false, .bool rs.w0, .bool rs.w1] 74, cellB b9 [.int .i64 (-1)] 3, X]) (Ds := [D]) rfl (fun _ => (rr_agg (cs := [_, _, _, _, _, _, _, _, _]) rfl Agg.h (Siz.h (k := 9)) (by repeat constructor) (by rfl))) (fun _ => (rr_cell rfl Agg.h (by repeat constructor) (by rfl))) (fun _ => (rr_tmp rfl)) ?_
          intro w' hw
          have e : rplF m first l cc = ((endG rs (1 - cc)), -1, 0) := by unfold rplF; rw [if_pos ⟨h16, h20, h25⟩]; rw [if_neg (show ¬ 40 < l.length by omega)]; rw [← hrk, if_neg (show ¬ rk < l.length by omega)]; rw [if_neg h51, show stN m (bgS first) l rk = rs by rw [hrs, hrk]]; rw [if_neg (fun h => h.elim (fun h => by rw [h55] at h; cases h) h61)]
          rw [e]
          exact ⟨rfl, (hw.un (r' := none) (d' := [])).bel⟩
   ·refine s7 ?_
    refine kJ [(8, _), (9, _)] ?_
    refine s1 ?_
    refine aP (rp_buildC (fun us => [.int .i64 0, .int .i64 0, .int .i64 0, .int .i64 0, .int .i64 0, .bool false, .bool false, .bool false, .bool false]) rfl rfl (fun w => by kernel_rfl)) ?_
    refine aW0 (wStore (cs := [_, _, _, _, _, _, _, _, _]) rfl rfl rfl rfl rfl rfl rfl (by repeat constructor) rfl rfl) ?_
    refine s7 ?_
    refine JR_marks3 (fun X => [cellB b8 [.int .i64 0, .int .i64 0, .int .i64 0, .int .i64 0, .int .i64 0, .bool false, .bool false, .bool false, .bool false] 74, cellB b9 [.int .i64 (-1)] 3, X]) (Ds := []) rfl (fun _ => (rr_agg (cs := [_, _, _, _, _, _, _, _, _]) rfl Agg.h (Siz.h (k := 9)) (by repeat constructor) (by rfl))) (fun _ => (rr_cell rfl Agg.h (by repeat constructor) (by rfl))) (fun _ => (rr_tmp rfl)) ?_
    intro w' hw
    have e : rplF m first l cc = (zS, -1, 2) := by unfold rplF; rw [if_neg (fun h => h25 h.2.2)]
    rw [e]
    exact ⟨rfl, (hw.un (r' := none) (d' := [])).bel⟩
  ·refine s12 ?_
   refine kJ [(8, _), (9, _)] ?_
   refine s1 ?_
   refine aP (rp_buildC (fun us => [.int .i64 0, .int .i64 0, .int .i64 0, .int .i64 0, .int .i64 0, .bool false, .bool false, .bool false, .bool false]) rfl rfl (fun w => by kernel_rfl)) ?_
   refine aW0 (wStore (cs := [_, _, _, _, _, _, _, _, _]) rfl rfl rfl rfl rfl rfl rfl (by repeat constructor) rfl rfl) ?_
   refine s7 ?_
   refine JR_marks3 (fun X => [cellB b8 [.int .i64 0, .int .i64 0, .int .i64 0, .int .i64 0, .int .i64 0, .bool false, .bool false, .bool false, .bool false] 74, cellB b9 [.int .i64 (-1)] 3, X]) (Ds := []) rfl (fun _ => (rr_agg (cs := [_, _, _, _, _, _, _, _, _]) rfl Agg.h (Siz.h (k := 9)) (by repeat constructor) (by rfl))) (fun _ => (rr_cell rfl Agg.h (by repeat constructor) (by rfl))) (fun _ => (rr_tmp rfl)) ?_
   intro w' hw
   have e : rplF m first l cc = (zS, -1, 2) := by unfold rplF; rw [if_neg (fun h => h20 h.2.1)]
   rw [e]
   exact ⟨rfl, (hw.un (r' := none) (d' := [])).bel⟩
 ·refine s16 ?_
  refine kJ [(8, _), (9, _)] ?_
  refine s1 ?_
  refine aP (rp_buildC (fun us => [.int .i64 0, .int .i64 0, .int .i64 0, .int .i64 0, .int .i64 0, .bool false, .bool false, .bool false, .bool false]) rfl rfl (fun w => by kernel_rfl)) ?_
  refine aW0 (wStore (cs := [_, _, _, _, _, _, _, _, _]) rfl rfl rfl rfl rfl rfl rfl (by repeat constructor) rfl rfl) ?_
  refine s7 ?_
  refine JR_marks3 (fun X => [cellB b8 [.int .i64 0, .int .i64 0, .int .i64 0, .int .i64 0, .int .i64 0, .bool false, .bool false, .bool false, .bool false] 74, cellB b9 [.int .i64 (-1)] 3, X]) (Ds := []) rfl (fun _ => (rr_agg (cs := [_, _, _, _, _, _, _, _, _]) rfl Agg.h (Siz.h (k := 9)) (by repeat constructor) (by rfl))) (fun _ => (rr_cell rfl Agg.h (by repeat constructor) (by rfl))) (fun _ => (rr_tmp rfl)) ?_
  intro w' hw
  have e : rplF m first l cc = (zS, -1, 2) := by unfold rplF; rw [if_neg (fun h => by rw [h16] at h; cases h.1)]
  rw [e]
  exact ⟨rfl, (hw.un (r' := none) (d' := [])).bel⟩
end Go.Proofs.YtmcpnoailbmkkaaGreatDoor
/- Layer 14: what can be wrong with a final. -/
namespace Go.Proofs.YtmcpnoailbmkkaaGreatDoor
open Go Go.RowKit Go.Proofs
attribute [local irreducible] J JQ JL JA JD

instance vl_1 : Cf Tryz.prog 161 := ⟨fun _ _ => by kernel_rfl⟩
set_option maxRecDepth 100000 in
set_option maxHeartbeats 4000000 in
theorem isOk_any (e : Int) (w : World) : Calls Tryz.prog 161 (#[] ++ #[.bool true, .int .i64 e] ++ #[]) w (Back (.int .i64 0) w) := by
 refine J_enter (fun _ => False) (vs := [.bool true, .int .i64 e]) (k := 5) (l := [(0, .bool true), (1, .int .i64 e)]) Tryz.func161 rfl rfl Tryz.ntmps161 rfl rfl (Wd.start _) ?_
 refine s13 ?_
 refine kJ [] ?_
 refine s6 ?_
 refine JR_one rfl (rr_tmp rfl) ?_
 intro w' hw
 exact ⟨rfl, hw.bel⟩
set_option maxRecDepth 100000 in
set_option maxHeartbeats 4000000 in
theorem scored_any (x : Lc) (tm pt : Int) (w : World) (ht : x.t = tm) (hp : x.p = pt) : Calls Tryz.prog 165 #[Lcv x, .int .i64 tm, .int .i64 pt] w (Back (.bool true) w) := by
 refine J_enter (fun _ => False) (vs := [.agg #[.int .i64 x.t, .int .i64 x.p, .bool x.pw], .int .i64 tm, .int .i64 pt]) (k := 14) (l := [(0, .agg #[.int .i64 x.t, .int .i64 x.p, .bool x.pw]), (1, .int .i64 tm), (2, .int .i64 pt)]) Tryz.func165 rfl rfl Tryz.ntmps165 rfl rfl (Wd.start _) ?_
 refine s2 ?_
 refine aW (oX [_, _, _]) (fun b3 hb3 => ?_)
 refine s9 ?_
 refine aDecT ?_ ht
 refine s5 ?_
 refine aDecT ?_ hp
 refine s5 ?_
 refine JR_one rfl (rr_tmp rfl) ?_
 intro w' hw
 exact ⟨rfl, hw.bel⟩
set_option maxRecDepth 100000 in
set_option maxHeartbeats 4000000 in
theorem w1_any (p : List St) (hchk : chkB p = true) (b2 b5 b6 : Nat) (B0 : Bs) (w : World) (hW : Wd B0 [cellB b2 [.string ⟨(printL p).toArray⟩, .slice none 0 0] 85, cellB b5 [.slice none 0 0] 24, cellB b6 [.func (.func 161) #[] #[]] 260] w) (hTM : ∀ W, Wd ⟨w, (allI [cellB b2 [.string ⟨(printL p).toArray⟩, .slice none 0 0] 85, cellB b5 [.slice none 0 0] 24, cellB b6 [.func (.func 161) #[] #[]] 260]).foot, none, []⟩ [] W → Tab W ∧ MxL W) : Calls Tryz.prog 162 (#[] ++ #[] ++ #[.pointer (some ⟨b2, 0, none⟩), .pointer (some ⟨b5, 0, none⟩), .pointer (some ⟨b6, 0, none⟩)]) w (RetL [cellB b2 [.string ⟨(printL p).toArray⟩, .slice none 0 0] 85, cellB b5 [.slice none 0 0] 24, cellB b6 [.func (.func 161) #[] #[]] 260] (fun _ : Option Addr × Nat => True) (fun _ => .int .i64 0) (fun t => [cellB b2 [.string ⟨(printL p).toArray⟩, .slice none 0 0] 85, cellB b5 [.slice t.1 p.length t.2] 24, cellB b6 [.func (.func 161) #[] #[]] 260, ownB 43 4 t.1 p.length t.2 (p.flatMap eT)]) w) := by
 refine J_start (B := ⟨w, (allI [cellB b2 [.string ⟨(printL p).toArray⟩, .slice none 0 0] 85, cellB b5 [.slice none 0 0] 24, cellB b6 [.func (.func 161) #[] #[]] 260]).foot, none, []⟩) rfl rfl (vs := [.pointer (some ⟨b2, 0, none⟩), .pointer (some ⟨b5, 0, none⟩), .pointer (some ⟨b6, 0, none⟩)]) (k := 13) (l := [(0, .pointer (some ⟨b2, 0, none⟩)), (1, .pointer (some ⟨b5, 0, none⟩)), (2, .pointer (some ⟨b6, 0, none⟩))]) Tryz.func162 rfl rfl Tryz.ntmps162 rfl rfl (Wd.startL hW) ?_
 refine s14 ?_
 refine aW (oR (fun w hw => Parse_print p hchk w (hTM w (hw.pick (Pk.nil _))).1 (hTM w (hw.pick (Pk.nil _))).2)) (fun t8 _ => ?_)
 refine s9 ?_
 refine kJ [(2, _), (4, _)] ?_
 refine s4 ?_
 refine aW (ow_callB (ec_val rfl rfl rfl Cf.h) rfl rfl (fun w hw => isOk_any 5 w)) (fun _ _ => ?_)
 refine s4 ?_
 refine JR_one rfl (rr_tmp rfl) ?_
 intro w' hw
 exact ⟨(t8.1, t8.2), trivial, rfl, hw.pick (by repeat constructor)⟩
set_option maxRecDepth 100000 in
set_option maxHeartbeats 4000000 in
theorem w2_any (p : List St) (x : Lc) (A : Option Addr) (c : Nat) (hcnt : cntF p = (x.t, x.p, 0)) (b2 b3 b5 b6 : Nat) (w : World) (h2 : (cellB b2 [.string ⟨(printL p).toArray⟩, .slice none 0 0] 85).holds w) (h5 : (cellB b5 [.slice A p.length c] 24).holds w) (h6 : (cellB b6 [.func (.func 161) #[] #[]] 260).holds w) (h3 : (cellB b3 [.int .i64 x.t, .int .i64 x.p, .bool x.pw] 78).holds w) (hrow : Arr 4 eT w (.slice A p.length c) p) : Calls Tryz.prog 164 (#[] ++ #[] ++ #[.pointer (some ⟨b2, 0, none⟩), .pointer (some ⟨b5, 0, none⟩), .pointer (some ⟨b6, 0, none⟩), .pointer (some ⟨b3, 0, none⟩)]) w (Back (.int .i64 0) w) := by
 refine J_enter (fun _ => False) (vs := [.pointer (some ⟨b2, 0, none⟩), .pointer (some ⟨b5, 0, none⟩), .pointer (some ⟨b6, 0, none⟩), .pointer (some ⟨b3, 0, none⟩)]) (k := 20) (l := [(0, .pointer (some ⟨b2, 0, none⟩)), (1, .pointer (some ⟨b5, 0, none⟩)), (2, .pointer (some ⟨b6, 0, none⟩)), (3, .pointer (some ⟨b3, 0, none⟩))]) Tryz.func164 rfl rfl Tryz.ntmps164 rfl rfl (Wd.start _) ?_
 refine s9 ?_
 refine aV (vOld rfl rfl (fun h => h) (cellB_get h2 rfl)) ?_
 refine s2 ?_
 refine aDecF ?_ (by decide)
 refine s6 ?_
 refine kJ [(1, _), (2, _), (3, _)] ?_
 refine s1 ?_
 refine aV (vOld rfl rfl (fun h => h) (cellB_get h5 rfl)) ?_
 refine aCB (fun w hw => (Count_any p _ w (hrow.up ET hw.bel)).mono (fun _ _ h => by rw [hcnt] at h; exact h)) ?_
 refine s10 ?_
 refine kJ [(2, _), (3, _), (5, _), (6, _)] ?_
 refine xD [0, 1, 2, 3, 4, 5, 6] [0, 1] ?_
 refine dL rfl (vOld rfl rfl (fun h => h) (cellB_get h6 rfl)) ?_
 refine dL rfl (vOldC (cs := [.int .i64 x.t, .int .i64 x.p, .bool x.pw]) rfl rfl (fun h => h) h3 rfl) ?_
 refine s2 ?_
 refine dCB rfl (fun w hw => scored_any x x.t x.p w rfl rfl) ?_
 refine dW rfl (ow_callB (ec_val rfl rfl rfl Cf.h) rfl rfl (fun w hw => isOk_any 7 w)) (fun _ _ => ?_)
 refine s4 ?_
 refine JR_one rfl (rr_tmp rfl) ?_
 intro w' hw
 exact ⟨rfl, hw.bel⟩
set_option maxRecDepth 100000 in
set_option maxHeartbeats 4000000 in
theorem w3_any (p : List St) (b2 b3 b5 b6 : Nat) (w : World) (h2 : (cellB b2 [.string ⟨(printL p).toArray⟩, .slice none 0 0] 85).holds w) : Calls Tryz.prog 166 (#[] ++ #[] ++ #[.pointer (some ⟨b2, 0, none⟩), .pointer (some ⟨b5, 0, none⟩), .pointer (some ⟨b6, 0, none⟩), .pointer (some ⟨b3, 0, none⟩)]) w (Back (.int .i64 0) w) := by
 refine J_enter (fun _ => False) (vs := [.pointer (some ⟨b2, 0, none⟩), .pointer (some ⟨b5, 0, none⟩), .pointer (some ⟨b6, 0, none⟩), .pointer (some ⟨b3, 0, none⟩)]) (k := 21) (l := [(0, .pointer (some ⟨b2, 0, none⟩)), (1, .pointer (some ⟨b5, 0, none⟩)), (2, .pointer (some ⟨b6, 0, none⟩)), (3, .pointer (some ⟨b3, 0, none⟩))]) Tryz.func166 rfl rfl Tryz.ntmps166 rfl rfl (Wd.start _) ?_
 refine s9 ?_
 refine aV (vOld rfl rfl (fun h => h) (cellB_get h2 rfl)) ?_
 refine s2 ?_
 refine aDecT ?_ rfl
 refine s4 ?_
 refine kJ [] ?_
 refine s6 ?_
 refine JR_one rfl (rr_tmp rfl) ?_
 intro w' hw
 exact ⟨rfl, hw.bel⟩
set_option maxRecDepth 100000 in
set_option maxHeartbeats 4000000 in
theorem cwrongs_any (p : List St) (x : Lc) (w : World) : Calls Tryz.prog 113 #[.agg #[.string ⟨(printL p).toArray⟩, .slice none 0 0], Lcv x] w (Ret w (fun _ : Nat × Nat × Nat × Nat × Nat => True) (fun t => .slice (some ⟨t.2.2.2.2, 0, none⟩) 3 3) (fun t => [cellB t.1 [.string ⟨(printL p).toArray⟩, .slice none 0 0] 85, cellB t.2.1 [.int .i64 x.t, .int .i64 x.p, .bool x.pw] 78, cellB t.2.2.1 [.slice none 0 0] 24, cellB t.2.2.2.1 [.func (.func 161) #[] #[]] 260, cellB t.2.2.2.2 [.func (.func 162) #[] #[.pointer (some ⟨t.1, 0, none⟩), .pointer (some ⟨t.2.2.1, 0, none⟩), .pointer (some ⟨t.2.2.2.1, 0, none⟩)], .func (.func 164) #[] #[.pointer (some ⟨t.1, 0, none⟩), .pointer (some ⟨t.2.2.1, 0, none⟩), .pointer (some ⟨t.2.2.2.1, 0, none⟩), .pointer (some ⟨t.2.1, 0, none⟩)], .func (.func 166) #[] #[.pointer (some ⟨t.1, 0, none⟩), .pointer (some ⟨t.2.2.1, 0, none⟩), .pointer (some ⟨t.2.2.2.1, 0, none⟩), .pointer (some ⟨t.2.1, 0, none⟩)]] 223])) := by
 refine J_enter (fun _ => False) (vs := [.agg #[.string ⟨(printL p).toArray⟩, .slice none 0 0], .agg #[.int .i64 x.t, .int .i64 x.p, .bool x.pw]]) (k := 9) (l := [(0, .agg #[.string ⟨(printL p).toArray⟩, .slice none 0 0]), (1, .agg #[.int .i64 x.t, .int .i64 x.p, .bool x.pw])]) Tryz.func113 rfl rfl Tryz.ntmps113 rfl rfl (Wd.start _) ?_
 refine s2 ?_
 refine aW (oX [_, _]) (fun b2 hb2 => ?_)
 refine aW (oX [_, _, _]) (fun b3 hb3 => ?_)
 refine s5 ?_
 refine aW oA (fun b5 hb5 => ?_)
 refine s4 ?_
 refine aW oA (fun b6 hb6 => ?_)
 refine s8 ?_
 refine aW (ow_sliceC (vs := [_, _, _]) (ty := 223) rfl rfl (by rfl) rfl rfl (fun _ => by kernel_rfl)) (fun b10 hb10 => ?_)
 refine s4 ?_
 refine JR_one rfl (rr_tmp rfl) ?_
 intro w' hw
 exact ⟨(b2, b3, b5, b6, b10), trivial, rfl, hw.pick (by repeat constructor)⟩
end Go.Proofs.YtmcpnoailbmkkaaGreatDoor
/- Layer 14: a sheet with finals, checked; its outcome. -/
namespace Go.Proofs.YtmcpnoailbmkkaaGreatDoor
open Go Go.RowKit Go.Proofs
attribute [local irreducible] J JQ JL JA JD

/-- A final in memory: a position's text, no readings. -/
def eFn (p : List St) : List Value := [.string ⟨(printL p).toArray⟩, .slice none 0 0]
theorem EFn : Enc 2 eFn := ⟨fun _ => rfl, fun x v h => by
 simp [eFn] at h
 rcases h with rfl | rfl <;> rfl⟩
/-- How the game of a sheet stands, whose finals are those of its lines, or why the sheet is not right. -/
def ckF (m : Mt) (first : Int) (card : List Lc) : Sg × Int × Int := if (rplF m first card (-1)).2.2 ≠ 0 then (zS, (rplF m first card (-1)).2.1, (rplF m first card (-1)).2.2) else if (rplF m first card (-1)).1.o = true then ((rplF m first card (-1)).1, -1, 0) else (zS, -1, 9)
/-- The finals are right: each counts as its line says. -/
structure FinOk (card : List Lc) (pos : List (List St)) : Prop where
 len : pos.length = card.length
 chk : ∀ p ∈ pos, chkB p = true
 cnt : ∀ (i : Nat) (h : i < pos.length) (h2 : i < card.length), cntF (pos[i]'h) = ((card[i]'h2).t, (card[i]'h2).p, 0)
set_option maxRecDepth 100000 in
set_option maxHeartbeats 4000000 in
theorem checked_any (m : Mt) (first : Int) (card : List Lc) (A : Option Addr) (cap : Nat) (pos : List (List St)) (A2 : Option Addr) (cap2 : Nat) (w : World) (hrow : Arr 3 eLc w (.slice A card.length cap) card) (hfin : Arr 2 eFn w (.slice A2 pos.length cap2) pos) (hok : FinOk card pos) (hT : Tab w) (hM : MxL w) : Calls Tryz.prog 64 #[Mtv m, (.agg #[.int .i64 0, .int .i64 1, .int .i64 first, .slice A card.length cap, .int .i64 (-1), .int .i64 0, .int .i64 0, .slice A2 pos.length cap2])] w (Back (.tuple #[Sgv (ckF m first card).1, .int .i64 (ckF m first card).2.1, .int .i64 (ckF m first card).2.2]) w) := by
 have hrow0 := hrow
 have hfin0 := hfin
 obtain ⟨A', cap', e0, -, ⟨hlc, -⟩, hAc⟩ := hrow
 obtain ⟨rfl, -, rfl⟩ : A = A' ∧ True ∧ cap = cap' := by injection e0 with e1 _ e3; exact ⟨e1, trivial, e3⟩
 obtain ⟨A3, cap3, e3, -, ⟨hlp, -⟩, hAf⟩ := hfin
 obtain ⟨rfl, -, rfl⟩ : A2 = A3 ∧ True ∧ cap2 = cap3 := by injection e3 with e1 _ e3; exact ⟨e1, trivial, e3⟩
 obtain ⟨⟨rs, ra, re⟩, hr⟩ : ∃ r, r = rplF m first card (-1) := ⟨_, rfl⟩
 refine J_enter (fun _ => False) (vs := [.agg #[.int .i64 m.e, .int .i64 m.m, .int .i64 m.y, .bool m.ch, .bool m.pw], .agg #[.int .i64 0, .int .i64 1, .int .i64 first, .slice A card.length cap, .int .i64 (-1), .int .i64 0, .int .i64 0, .slice A2 pos.length cap2]]) (k := 92) (l := [(0, .agg #[.int .i64 m.e, .int .i64 m.m, .int .i64 m.y, .bool m.ch, .bool m.pw]), (1, .agg #[.int .i64 0, .int .i64 1, .int .i64 first, .slice A card.length cap, .int .i64 (-1), .int .i64 0, .int .i64 0, .slice A2 pos.length cap2])]) Tryz.func64 rfl rfl Tryz.ntmps64 rfl rfl (Wd.start _) ?_
 refine s2 ?_
 refine aW (oX [_, _, _, _, _]) (fun b2 hb2 => ?_)
 refine aW (oX [_, _, _, _, _, _, _, _]) (fun b3 hb3 => ?_)
 refine aW oA (fun b4 hb4 => ?_)
 refine s5 ?_
 refine kJ [(2, _), (3, _), (4, _)] ?_
 refine s8 ?_
 refine aCB (fun w hw => (Replay_any m first card A cap (-1) w (hrow0.up ELc hw.bel)).mono (fun _ _ h => by rw [← hr] at h; exact h)) ?_
 refine s4 ?_
 refine aW0 (wStore (cs := [_, _, _, _, _, _, _, _, _]) rfl rfl rfl rfl rfl rfl rfl (by repeat constructor) rfl rfl) ?_
 refine s7 ?_
 refine kJ [(3, _), (4, _), (5, _), (6, _)] ?_
 refine s3 ?_
 refine JL_dec (fun h26 => ?_) (fun h26 => ?_)
 ·refine s5 ?_
  refine kJ [(4, _), (5, _), (6, _)] ?_
  refine s1 ?_
  refine aP (rp_buildC (fun us => [.int .i64 0, .int .i64 0, .int .i64 0, .int .i64 0, .int .i64 0, .bool false, .bool false, .bool false, .bool false]) rfl rfl (fun w => by kernel_rfl)) ?_
  refine s2 ?_
  refine aW0 (wStore (cs := [_, _, _, _, _, _, _, _, _]) rfl rfl rfl rfl rfl rfl rfl (by repeat constructor) rfl rfl) ?_
  refine s7 ?_
  refine JR_three rfl (rr_agg (cs := [_, _, _, _, _, _, _, _, _]) rfl Agg.h (Siz.h (k := 9)) (by repeat constructor) (by rfl)) (rr_tmp rfl) (rr_tmp rfl) ?_
  intro w' hw
  have e : ckF m first card = (zS, ra, re) := by unfold ckF; rw [← hr]; exact if_pos h26
  rw [e]
  exact ⟨rfl, hw.bel⟩
 ·refine s5 ?_
  refine kJ [(3, _), (4, _)] ?_
  refine s3 ?_
  refine JL_bool (fun h32 => ?_) (fun h32 => ?_)
  ·refine s6 ?_
   refine kJ [(3, _), (4, _)] ?_
   refine s2 ?_
   refine aP (rp_arrC rfl rfl rfl ia_68_0 rfl) ?_
   refine s1 ?_
   refine aCB (fun w hw => cwithin _ _ _ w) ?_
   refine aDecT ?_ (by decide)
   refine s3 ?_
   refine aP (rp_arrC rfl rfl rfl ia_68_1 rfl) ?_
   refine s1 ?_
   refine aCB (fun w hw => cwithin _ _ _ w) ?_
   refine aDecT ?_ (by decide)
   refine s7 ?_
   refine JL_dec (fun h52 => ?_) (fun h52 => ?_)
   ·refine s8 ?_
    refine aDecF ?_ (fun h => h (by rw [hok.len]))
    refine s11 ?_
    refine kJ [(3, _), (4, _)] ?_
    refine s8 ?_
    refine xL (T := Nat) (fun q => q ≤ pos.length) (fun q => [(3, .pointer (some ⟨b3, 0, none⟩)), (4, .pointer (some ⟨b4, 0, none⟩)), (65, .slice A2 pos.length cap2), (66, .int .i64 (pos.length : Nat)), (67, .int .i64 (q : Nat))]) (fun q => [cellB b4 [.int .i64 rs.p0, .int .i64 rs.p1, .int .i64 rs.e, .int .i64 rs.h, .int .i64 rs.w, .bool rs.o, .bool rs.x, .bool rs.w0, .bool rs.w1] 74, cellB b3 [.int .i64 0, .int .i64 1, .int .i64 first, .slice A card.length cap, .int .i64 (-1), .int .i64 0, .int .i64 0, .slice A2 pos.length cap2] 71]) (fun q => pos.length - q) 0 (Nat.zero_le _) ?_
    rintro k hk
    refine s3 ?_
    refine JL_dec (fun h68 => ?_) (fun h68 => ?_)
    ·refine s9 ?_
     have hltp : k < pos.length := by omega
     obtain ⟨bp, qp, rfl, hhp⟩ := hAf (by intro e; subst e; simp at hltp)
     obtain ⟨p, hpx⟩ : ∃ y, pos[k]'hltp = y := ⟨_, rfl⟩
     have hltx : k < card.length := by rw [← hok.len]; exact hltp
     obtain ⟨bx, qx, rfl, hhx⟩ := hAc (by intro e; subst e; simp at hltx)
     obtain ⟨x, hx⟩ : ∃ y, card[k]'hltx = y := ⟨_, rfl⟩
     have hpc : chkB p = true := hok.chk p (by rw [← hpx]; exact List.getElem_mem _)
     have hpn : cntF p = (x.t, x.p, 0) := by have := hok.cnt k hltp hltx; rw [hpx, hx] at this; exact this
     have hp16 := (chk_facts hpc).1
     refine s3 ?_
     refine aV (vHoldA (cs := [.string ⟨(printL p).toArray⟩, .slice none 0 0]) EFn rfl rfl (fun h => h) hhp hltp (by rw [hpx]; rfl)) ?_
     refine aW oA (fun b8 hb8 => ?_)
     refine s5 ?_
     refine kJ [(3, _), (4, _), (7, _), (8, _), (65, _), (66, _), (67, _)] ?_
     refine xD [0, 1, 2, 3, 4, 5, 8, 6, 7] [0, 2, 5] ?_
     refine s5 ?_
     refine dL rfl (vHoldA (cs := [.int .i64 x.t, .int .i64 x.p, .bool x.pw]) ELc rfl rfl (fun h => h) hhx hltx (by rw [hx]; rfl)) ?_
     refine s1 ?_
     refine dW rfl (oR (fun w hw => cwrongs_any p x w)) (fun t78 _ => ?_)
     obtain ⟨u2, u3, u5, u6, u10⟩ := t78
     dsimp only [List.cons_append, List.nil_append]
     refine s4 ?_
     refine J_own0 43 4 ?_
     refine xL (T := Nat × Option Addr × Nat) (fun q => q.1 ≤ 3 ∧ (q.1 = 0 → q.2.1 = none ∧ q.2.2 = 0)) (fun q => [(3, .pointer (some ⟨b3, 0, none⟩)), (4, .pointer (some ⟨b4, 0, none⟩)), (65, .slice (some ⟨bp, qp, none⟩) pos.length cap2), (66, .int .i64 (pos.length : Nat)), (67, .int .i64 (k : Nat)), (78, .slice (some ⟨u10, 0, none⟩) 3 3), (79, .int .i64 3), (80, .int .i64 (q.1 : Nat))]) (fun q => [cellB b4 [.int .i64 rs.p0, .int .i64 rs.p1, .int .i64 rs.e, .int .i64 rs.h, .int .i64 rs.w, .bool rs.o, .bool rs.x, .bool rs.w0, .bool rs.w1] 74, cellB b3 [.int .i64 0, .int .i64 1, .int .i64 first, .slice (some ⟨bx, qx, none⟩) card.length cap, .int .i64 (-1), .int .i64 0, .int .i64 0, .slice (some ⟨bp, qp, none⟩) pos.length cap2] 71, cellB u2 [.string ⟨(printL p).toArray⟩, .slice none 0 0] 85, cellB u3 [.int .i64 x.t, .int .i64 x.p, .bool x.pw] 78, cellB u5 [.slice q.2.1 (if q.1 = 0 then ([] : List St) else p).length q.2.2] 24, cellB u6 [.func (.func 161) #[] #[]] 260, cellB u10 [.func (.func 162) #[] #[.pointer (some ⟨u2, 0, none⟩), .pointer (some ⟨u5, 0, none⟩), .pointer (some ⟨u6, 0, none⟩)], .func (.func 164) #[] #[.pointer (some ⟨u2, 0, none⟩), .pointer (some ⟨u5, 0, none⟩), .pointer (some ⟨u6, 0, none⟩), .pointer (some ⟨u3, 0, none⟩)], .func (.func 166) #[] #[.pointer (some ⟨u2, 0, none⟩), .pointer (some ⟨u5, 0, none⟩), .pointer (some ⟨u6, 0, none⟩), .pointer (some ⟨u3, 0, none⟩)]] 223, ownB 43 4 q.2.1 (if q.1 = 0 then ([] : List St) else p).length q.2.2 ((if q.1 = 0 then ([] : List St) else p).flatMap eT)]) (fun q => 3 - q.1) (0, none, 0) ⟨by decide, fun _ => ⟨rfl, rfl⟩⟩ ?_
     rintro ⟨g, gA, gc⟩ ⟨hg, hg0⟩
     dsimp only at hg hg0 ⊢
     refine s3 ?_
     refine JL_dec (fun h81 => ?_) (fun h81 => ?_)
     ·refine s9 ?_
      rcases (show g = 0 ∨ g = 1 ∨ g = 2 by omega) with rfl | rfl | rfl
      ·obtain ⟨rfl, rfl⟩ := hg0 rfl
       refine s2 ?_
       refine aV (vCell rfl rfl (by repeat constructor) rfl) ?_
       refine s6 ?_
       refine aW (ow_callL [cellB u2 [.string ⟨(printL p).toArray⟩, .slice none 0 0] 85, cellB u5 [.slice none 0 0] 24, cellB u6 [.func (.func 161) #[] #[]] 260] [cellB b4 [.int .i64 rs.p0, .int .i64 rs.p1, .int .i64 rs.e, .int .i64 rs.h, .int .i64 rs.w, .bool rs.o, .bool rs.x, .bool rs.w0, .bool rs.w1] 74, cellB b3 [.int .i64 0, .int .i64 1, .int .i64 first, .slice (some ⟨bx, qx, none⟩) card.length cap, .int .i64 (-1), .int .i64 0, .int .i64 0, .slice (some ⟨bp, qp, none⟩) pos.length cap2] 71, cellB u3 [.int .i64 x.t, .int .i64 x.p, .bool x.pw] 78, cellB u10 [.func (.func 162) #[] #[.pointer (some ⟨u2, 0, none⟩), .pointer (some ⟨u5, 0, none⟩), .pointer (some ⟨u6, 0, none⟩)], .func (.func 164) #[] #[.pointer (some ⟨u2, 0, none⟩), .pointer (some ⟨u5, 0, none⟩), .pointer (some ⟨u6, 0, none⟩), .pointer (some ⟨u3, 0, none⟩)], .func (.func 166) #[] #[.pointer (some ⟨u2, 0, none⟩), .pointer (some ⟨u5, 0, none⟩), .pointer (some ⟨u6, 0, none⟩), .pointer (some ⟨u3, 0, none⟩)]] 223] (ec_val rfl rfl rfl Cf.h) rfl rfl (by repeat constructor) rfl (fun _ => rfl) (fun w hw h0 => w1_any p hpc u2 u5 u6 _ w h0 (fun W hW => ⟨hT.up (hw.belL (HA := [cellB u2 [.string ⟨(printL p).toArray⟩, .slice none 0 0] 85, cellB u5 [.slice none 0 0] 24, cellB u6 [.func (.func 161) #[] #[]] 260]) (by repeat constructor) rfl hW), hM.up (hw.belL (HA := [cellB u2 [.string ⟨(printL p).toArray⟩, .slice none 0 0] 85, cellB u5 [.slice none 0 0] 24, cellB u6 [.func (.func 161) #[] #[]] 260]) (by repeat constructor) rfl hW)⟩))) (fun t85 _ => ?_)
       refine s4 ?_
       refine kJ [(3, _), (4, _), (11, _), (65, _), (66, _), (67, _), (78, _), (79, _), (80, _)] ?_
       refine s3 ?_
       refine aDecF ?_ (by decide)
       refine s10 ?_
       exact xR (1, t85.1, t85.2) ⟨by dsimp only; omega, fun h => by cases h⟩ (by dsimp only; omega) (hl := ⟨rfl, rfl, rfl, rfl, rfl, rfl, rfl, rfl, trivial⟩)
      ·refine s2 ?_
       refine aV (vCell rfl rfl (by repeat constructor) rfl) ?_
       refine s6 ?_
       refine aW (ow_callB (ec_val rfl rfl rfl Cf.h) rfl rfl (fun w hw => w2_any p x gA gc hpn u2 u3 u5 u6 w (hw.ok (cellB u2 [.string ⟨(printL p).toArray⟩, .slice none 0 0] 85) (by repeat constructor)).1 (hw.ok (cellB u5 [.slice gA p.length gc] 24) (by repeat constructor)).1 (hw.ok (cellB u6 [.func (.func 161) #[] #[]] 260) (by repeat constructor)).1 (hw.ok (cellB u3 [.int .i64 x.t, .int .i64 x.p, .bool x.pw] 78) (by repeat constructor)).1 (own_arr (A := gA) (c := gc) (ty := 43) (L := p) ET hw (by repeat constructor) (by omega)))) (fun _ _ => ?_)
       refine s4 ?_
       refine kJ [(3, _), (4, _), (11, _), (65, _), (66, _), (67, _), (78, _), (79, _), (80, _)] ?_
       refine s3 ?_
       refine aDecF ?_ (by decide)
       refine s10 ?_
       exact xR (2, gA, gc) ⟨by dsimp only; omega, fun h => by cases h⟩ (by dsimp only; omega) (hl := ⟨rfl, rfl, rfl, rfl, rfl, rfl, rfl, rfl, trivial⟩)
      ·refine s2 ?_
       refine aV (vCell rfl rfl (by repeat constructor) rfl) ?_
       refine s6 ?_
       refine aW (ow_callB (ec_val rfl rfl rfl Cf.h) rfl rfl (fun w hw => w3_any p u2 u3 u5 u6 w (hw.ok (cellB u2 [.string ⟨(printL p).toArray⟩, .slice none 0 0] 85) (by repeat constructor)).1)) (fun _ _ => ?_)
       refine s4 ?_
       refine kJ [(3, _), (4, _), (11, _), (65, _), (66, _), (67, _), (78, _), (79, _), (80, _)] ?_
       refine s3 ?_
       refine aDecF ?_ (by decide)
       refine s10 ?_
       exact xR (3, gA, gc) ⟨by dsimp only; omega, fun h => by cases h⟩ (by dsimp only; omega) (hl := ⟨rfl, rfl, rfl, rfl, rfl, rfl, rfl, rfl, trivial⟩)
     ·refine s10 ?_
      refine kJ [(3, _), (4, _), (65, _), (66, _), (67, _)] ?_
      refine s4 ?_
      exact xR (k + 1) (by omega) (by omega) (hl := ⟨rfl, rfl, rfl, rfl, (congrArg some (by go_num)), trivial⟩)
    ·refine s10 ?_
     refine kJ [(4, _)] ?_
     refine s1 ?_
     refine aV (vAgg [_, _, _, _, _, _, _, _, _] rfl rfl rfl (by repeat constructor) rfl) ?_
     refine aW0 (wStore (cs := [_, _, _, _, _, _, _, _, _]) rfl rfl rfl rfl rfl rfl rfl (by repeat constructor) rfl rfl) ?_
     refine s5 ?_
     refine JR_three rfl (rr_agg (cs := [_, _, _, _, _, _, _, _, _]) rfl Agg.h (Siz.h (k := 9)) (by repeat constructor) (by rfl)) (rr_tmp rfl) (rr_tmp rfl) ?_
     intro w' hw
     have e : ckF m first card = (rs, -1, 0) := by unfold ckF; rw [← hr]; rw [if_neg h26, if_pos h32]
     rw [e]
     exact ⟨rfl, hw.bel⟩
   ·refine s19 ?_
    refine kJ [(3, _), (4, _)] ?_
    refine s8 ?_
    refine xL (T := Nat) (fun q => q ≤ pos.length) (fun q => [(3, .pointer (some ⟨b3, 0, none⟩)), (4, .pointer (some ⟨b4, 0, none⟩)), (65, .slice A2 pos.length cap2), (66, .int .i64 (pos.length : Nat)), (67, .int .i64 (q : Nat))]) (fun q => [cellB b4 [.int .i64 rs.p0, .int .i64 rs.p1, .int .i64 rs.e, .int .i64 rs.h, .int .i64 rs.w, .bool rs.o, .bool rs.x, .bool rs.w0, .bool rs.w1] 74, cellB b3 [.int .i64 0, .int .i64 1, .int .i64 first, .slice A card.length cap, .int .i64 (-1), .int .i64 0, .int .i64 0, .slice A2 pos.length cap2] 71]) (fun q => pos.length - q) 0 (Nat.zero_le _) ?_
    rintro k hk
    refine s3 ?_
    refine JL_dec (fun h68 => ?_) (fun h68 => ?_)
    ·refine s9 ?_
     have hltp : k < pos.length := by omega
     obtain ⟨bp, qp, rfl, hhp⟩ := hAf (by intro e; subst e; simp at hltp)
     obtain ⟨p, hpx⟩ : ∃ y, pos[k]'hltp = y := ⟨_, rfl⟩
     have hltx : k < card.length := by rw [← hok.len]; exact hltp
     obtain ⟨bx, qx, rfl, hhx⟩ := hAc (by intro e; subst e; simp at hltx)
     obtain ⟨x, hx⟩ : ∃ y, card[k]'hltx = y := ⟨_, rfl⟩
     have hpc : chkB p = true := hok.chk p (by rw [← hpx]; exact List.getElem_mem _)
     have hpn : cntF p = (x.t, x.p, 0) := by have := hok.cnt k hltp hltx; rw [hpx, hx] at this; exact this
     have hp16 := (chk_facts hpc).1
     refine s3 ?_
     refine aV (vHoldA (cs := [.string ⟨(printL p).toArray⟩, .slice none 0 0]) EFn rfl rfl (fun h => h) hhp hltp (by rw [hpx]; rfl)) ?_
     refine aW oA (fun b8 hb8 => ?_)
     refine s5 ?_
     refine kJ [(3, _), (4, _), (7, _), (8, _), (65, _), (66, _), (67, _)] ?_
     refine xD [0, 1, 2, 3, 4, 5, 8, 6, 7] [0, 2, 5] ?_
     refine s5 ?_
     refine dL rfl (vHoldA (cs := [.int .i64 x.t, .int .i64 x.p, .bool x.pw]) ELc rfl rfl (fun h => h) hhx hltx (by rw [hx]; rfl)) ?_
     refine s1 ?_
     refine dW rfl (oR (fun w hw => cwrongs_any p x w)) (fun t78 _ => ?_)
     obtain ⟨u2, u3, u5, u6, u10⟩ := t78
     dsimp only [List.cons_append, List.nil_append]
     refine s4 ?_
     refine J_own0 43 4 ?_
     refine xL (T := Nat × Option Addr × Nat) (fun q => q.1 ≤ 3 ∧ (q.1 = 0 → q.2.1 = none ∧ q.2.2 = 0)) (fun q => [(3, .pointer (some ⟨b3, 0, none⟩)), (4, .pointer (some ⟨b4, 0, none⟩)), (65, .slice (some ⟨bp, qp, none⟩) pos.length cap2), (66, .int .i64 (pos.length : Nat)), (67, .int .i64 (k : Nat)), (78, .slice (some ⟨u10, 0, none⟩) 3 3), (79, .int .i64 3), (80, .int .i64 (q.1 : Nat))]) (fun q => [cellB b4 [.int .i64 rs.p0, .int .i64 rs.p1, .int .i64 rs.e, .int .i64 rs.h, .int .i64 rs.w, .bool rs.o, .bool rs.x, .bool rs.w0, .bool rs.w1] 74, cellB b3 [.int .i64 0, .int .i64 1, .int .i64 first, .slice (some ⟨bx, qx, none⟩) card.length cap, .int .i64 (-1), .int .i64 0, .int .i64 0, .slice (some ⟨bp, qp, none⟩) pos.length cap2] 71, cellB u2 [.string ⟨(printL p).toArray⟩, .slice none 0 0] 85, cellB u3 [.int .i64 x.t, .int .i64 x.p, .bool x.pw] 78, cellB u5 [.slice q.2.1 (if q.1 = 0 then ([] : List St) else p).length q.2.2] 24, cellB u6 [.func (.func 161) #[] #[]] 260, cellB u10 [.func (.func 162) #[] #[.pointer (some ⟨u2, 0, none⟩), .pointer (some ⟨u5, 0, none⟩), .pointer (some ⟨u6, 0, none⟩)], .func (.func 164) #[] #[.pointer (some ⟨u2, 0, none⟩), .pointer (some ⟨u5, 0, none⟩), .pointer (some ⟨u6, 0, none⟩), .pointer (some ⟨u3, 0, none⟩)], .func (.func 166) #[] #[.pointer (some ⟨u2, 0, none⟩), .pointer (some ⟨u5, 0, none⟩), .pointer (some ⟨u6, 0, none⟩), .pointer (some ⟨u3, 0, none⟩)]] 223, ownB 43 4 q.2.1 (if q.1 = 0 then ([] : List St) else p).length q.2.2 ((if q.1 = 0 then ([] : List St) else p).flatMap eT)]) (fun q => 3 - q.1) (0, none, 0) ⟨by decide, fun _ => ⟨rfl, rfl⟩⟩ ?_
     rintro ⟨g, gA, gc⟩ ⟨hg, hg0⟩
     dsimp only at hg hg0 ⊢
     refine s3 ?_
     refine JL_dec (fun h81 => ?_) (fun h81 => ?_)
     ·refine s9 ?_
      rcases (show g = 0 ∨ g = 1 ∨ g = 2 by omega) with rfl | rfl | rfl
      ·obtain ⟨rfl, rfl⟩ := hg0 rfl
       refine s2 ?_
       refine aV (vCell rfl rfl (by repeat constructor) rfl) ?_
       refine s6 ?_
       refine aW (ow_callL [cellB u2 [.string ⟨(printL p).toArray⟩, .slice none 0 0] 85, cellB u5 [.slice none 0 0] 24, cellB u6 [.func (.func 161) #[] #[]] 260] [cellB b4 [.int .i64 rs.p0, .int .i64 rs.p1, .int .i64 rs.e, .int .i64 rs.h, .int .i64 rs.w, .bool rs.o, .bool rs.x, .bool rs.w0, .bool rs.w1] 74, cellB b3 [.int .i64 0, .int .i64 1, .int .i64 first, .slice (some ⟨bx, qx, none⟩) card.length cap, .int .i64 (-1), .int .i64 0, .int .i64 0, .slice (some ⟨bp, qp, none⟩) pos.length cap2] 71, cellB u3 [.int .i64 x.t, .int .i64 x.p, .bool x.pw] 78, cellB u10 [.func (.func 162) #[] #[.pointer (some ⟨u2, 0, none⟩), .pointer (some ⟨u5, 0, none⟩), .pointer (some ⟨u6, 0, none⟩)], .func (.func 164) #[] #[.pointer (some ⟨u2, 0, none⟩), .pointer (some ⟨u5, 0, none⟩), .pointer (some ⟨u6, 0, none⟩), .pointer (some ⟨u3, 0, none⟩)], .func (.func 166) #[] #[.pointer (some ⟨u2, 0, none⟩), .pointer (some ⟨u5, 0, none⟩), .pointer (some ⟨u6, 0, none⟩), .pointer (some ⟨u3, 0, none⟩)]] 223] (ec_val rfl rfl rfl Cf.h) rfl rfl (by repeat constructor) rfl (fun _ => rfl) (fun w hw h0 => w1_any p hpc u2 u5 u6 _ w h0 (fun W hW => ⟨hT.up (hw.belL (HA := [cellB u2 [.string ⟨(printL p).toArray⟩, .slice none 0 0] 85, cellB u5 [.slice none 0 0] 24, cellB u6 [.func (.func 161) #[] #[]] 260]) (by repeat constructor) rfl hW), hM.up (hw.belL (HA := [cellB u2 [.string ⟨(printL p).toArray⟩, .slice none 0 0] 85, cellB u5 [.slice none 0 0] 24, cellB u6 [.func (.func 161) #[] #[]] 260]) (by repeat constructor) rfl hW)⟩))) (fun t85 _ => ?_)
       refine s4 ?_
       refine kJ [(3, _), (4, _), (11, _), (65, _), (66, _), (67, _), (78, _), (79, _), (80, _)] ?_
       refine s3 ?_
       refine aDecF ?_ (by decide)
       refine s10 ?_
       exact xR (1, t85.1, t85.2) ⟨by dsimp only; omega, fun h => by cases h⟩ (by dsimp only; omega) (hl := ⟨rfl, rfl, rfl, rfl, rfl, rfl, rfl, rfl, trivial⟩)
      ·refine s2 ?_
       refine aV (vCell rfl rfl (by repeat constructor) rfl) ?_
       refine s6 ?_
       refine aW (ow_callB (ec_val rfl rfl rfl Cf.h) rfl rfl (fun w hw => w2_any p x gA gc hpn u2 u3 u5 u6 w (hw.ok (cellB u2 [.string ⟨(printL p).toArray⟩, .slice none 0 0] 85) (by repeat constructor)).1 (hw.ok (cellB u5 [.slice gA p.length gc] 24) (by repeat constructor)).1 (hw.ok (cellB u6 [.func (.func 161) #[] #[]] 260) (by repeat constructor)).1 (hw.ok (cellB u3 [.int .i64 x.t, .int .i64 x.p, .bool x.pw] 78) (by repeat constructor)).1 (own_arr (A := gA) (c := gc) (ty := 43) (L := p) ET hw (by repeat constructor) (by omega)))) (fun _ _ => ?_)
       refine s4 ?_
       refine kJ [(3, _), (4, _), (11, _), (65, _), (66, _), (67, _), (78, _), (79, _), (80, _)] ?_
       refine s3 ?_
       refine aDecF ?_ (by decide)
       refine s10 ?_
       exact xR (2, gA, gc) ⟨by dsimp only; omega, fun h => by cases h⟩ (by dsimp only; omega) (hl := ⟨rfl, rfl, rfl, rfl, rfl, rfl, rfl, rfl, trivial⟩)
      ·refine s2 ?_
       refine aV (vCell rfl rfl (by repeat constructor) rfl) ?_
       refine s6 ?_
       refine aW (ow_callB (ec_val rfl rfl rfl Cf.h) rfl rfl (fun w hw => w3_any p u2 u3 u5 u6 w (hw.ok (cellB u2 [.string ⟨(printL p).toArray⟩, .slice none 0 0] 85) (by repeat constructor)).1)) (fun _ _ => ?_)
       refine s4 ?_
       refine kJ [(3, _), (4, _), (11, _), (65, _), (66, _), (67, _), (78, _), (79, _), (80, _)] ?_
       refine s3 ?_
       refine aDecF ?_ (by decide)
       refine s10 ?_
       exact xR (3, gA, gc) ⟨by dsimp only; omega, fun h => by cases h⟩ (by dsimp only; omega) (hl := ⟨rfl, rfl, rfl, rfl, rfl, rfl, rfl, rfl, trivial⟩)
     ·refine s10 ?_
      refine kJ [(3, _), (4, _), (65, _), (66, _), (67, _)] ?_
      refine s4 ?_
      exact xR (k + 1) (by omega) (by omega) (hl := ⟨rfl, rfl, rfl, rfl, (congrArg some (by go_num)), trivial⟩)
    ·refine s10 ?_
     refine kJ [(4, _)] ?_
     refine s1 ?_
     refine aV (vAgg [_, _, _, _, _, _, _, _, _] rfl rfl rfl (by repeat constructor) rfl) ?_
     refine aW0 (wStore (cs := [_, _, _, _, _, _, _, _, _]) rfl rfl rfl rfl rfl rfl rfl (by repeat constructor) rfl rfl) ?_
     refine s5 ?_
     refine JR_three rfl (rr_agg (cs := [_, _, _, _, _, _, _, _, _]) rfl Agg.h (Siz.h (k := 9)) (by repeat constructor) (by rfl)) (rr_tmp rfl) (rr_tmp rfl) ?_
     intro w' hw
     have e : ckF m first card = (rs, -1, 0) := by unfold ckF; rw [← hr]; rw [if_neg h26, if_pos h32]
     rw [e]
     exact ⟨rfl, hw.bel⟩
  ·refine s6 ?_
   refine kJ [(4, _)] ?_
   refine s1 ?_
   refine aP (rp_buildC (fun us => [.int .i64 0, .int .i64 0, .int .i64 0, .int .i64 0, .int .i64 0, .bool false, .bool false, .bool false, .bool false]) rfl rfl (fun w => by kernel_rfl)) ?_
   refine aW0 (wStore (cs := [_, _, _, _, _, _, _, _, _]) rfl rfl rfl rfl rfl rfl rfl (by repeat constructor) rfl rfl) ?_
   refine s7 ?_
   refine JR_three rfl (rr_agg (cs := [_, _, _, _, _, _, _, _, _]) rfl Agg.h (Siz.h (k := 9)) (by repeat constructor) (by rfl)) (rr_tmp rfl) (rr_tmp rfl) ?_
   intro w' hw
   have e : ckF m first card = (zS, -1, 9) := by unfold ckF; rw [← hr]; rw [if_neg h26]; exact if_neg (by rw [h32]; decide)
   rw [e]
   exact ⟨rfl, hw.bel⟩
end Go.Proofs.YtmcpnoailbmkkaaGreatDoor
/- Layer 14: CheckSheet, Outcome. -/
namespace Go.Proofs.YtmcpnoailbmkkaaGreatDoor
open Go Go.RowKit Go.Proofs
attribute [local irreducible] J JQ JL JA JD

set_option maxRecDepth 100000 in
set_option maxHeartbeats 4000000 in
theorem CheckSheet_any (m : Mt) (first : Int) (card : List Lc) (A : Option Addr) (cap : Nat) (pos : List (List St)) (A2 : Option Addr) (cap2 : Nat) (w : World) (hrow : Arr 3 eLc w (.slice A card.length cap) card) (hfin : Arr 2 eFn w (.slice A2 pos.length cap2) pos) (hok : FinOk card pos) (hT : Tab w) (hM : MxL w) : Calls Tryz.prog 21 #[Mtv m, (.agg #[.int .i64 0, .int .i64 1, .int .i64 first, .slice A card.length cap, .int .i64 (-1), .int .i64 0, .int .i64 0, .slice A2 pos.length cap2])] w (Back (.tuple #[.int .i64 (ckF m first card).2.1, .int .i64 (ckF m first card).2.2]) w) := by
 refine J_enter (fun _ => False) (vs := [.agg #[.int .i64 m.e, .int .i64 m.m, .int .i64 m.y, .bool m.ch, .bool m.pw], .agg #[.int .i64 0, .int .i64 1, .int .i64 first, .slice A card.length cap, .int .i64 (-1), .int .i64 0, .int .i64 0, .slice A2 pos.length cap2]]) (k := 13) (l := [(0, .agg #[.int .i64 m.e, .int .i64 m.m, .int .i64 m.y, .bool m.ch, .bool m.pw]), (1, .agg #[.int .i64 0, .int .i64 1, .int .i64 first, .slice A card.length cap, .int .i64 (-1), .int .i64 0, .int .i64 0, .slice A2 pos.length cap2])]) Tryz.func21 rfl rfl Tryz.ntmps21 rfl rfl (Wd.start _) ?_
 refine s2 ?_
 refine aW (oX [_, _, _, _, _]) (fun b2 hb2 => ?_)
 refine aW (oX [_, _, _, _, _, _, _, _]) (fun b3 hb3 => ?_)
 refine s5 ?_
 refine kJ [(2, _), (3, _)] ?_
 refine s3 ?_
 refine aCB (fun w hw => checked_any m first card A cap pos A2 cap2 w (hrow.up ELc hw.bel) (hfin.up EFn hw.bel) hok (hT.up hw.bel) (hM.up hw.bel)) ?_
 refine s9 ?_
 refine kJ [(4, _), (5, _)] ?_
 refine s8 ?_
 refine JR_two rfl (rr_tmp rfl) (rr_tmp rfl) ?_
 intro w' hw
 exact ⟨rfl, hw.bel⟩
/-- The points of an outcome. -/
def otP (s : Sg) : Int × Int := if s.w = 0 then (max s.p0 (s.p1 + 1), s.p1) else (s.p0, max s.p1 (s.p0 + 1))
def otV (r : Sg × Int × Int) : Value := if r.2.2 = 0 then .tuple #[.agg #[.int .i64 0, .int .i64 1, .int .i64 (otP r.1).1, .int .i64 (otP r.1).2, .int .i64 0, .int .i64 0], .int .i64 0] else .tuple #[.agg #[.int .i64 0, .int .i64 0, .int .i64 0, .int .i64 0, .int .i64 0, .int .i64 0], .int .i64 r.2.2]
set_option maxRecDepth 100000 in
set_option maxHeartbeats 4000000 in
theorem Outcome_any (m : Mt) (first : Int) (card : List Lc) (A : Option Addr) (cap : Nat) (pos : List (List St)) (A2 : Option Addr) (cap2 : Nat) (w : World) (hrow : Arr 3 eLc w (.slice A card.length cap) card) (hfin : Arr 2 eFn w (.slice A2 pos.length cap2) pos) (hok : FinOk card pos) (hT : Tab w) (hM : MxL w) (hwn : (ckF m first card).2.2 = 0 → (ckF m first card).1.w = 0 ∨ (ckF m first card).1.w = 1) (hb : (0 ≤ (ckF m first card).1.p0 ∧ (ckF m first card).1.p0 ≤ 1000000) ∧ 0 ≤ (ckF m first card).1.p1 ∧ (ckF m first card).1.p1 ≤ 1000000) : Calls Tryz.prog 22 #[Mtv m, (.agg #[.int .i64 0, .int .i64 1, .int .i64 first, .slice A card.length cap, .int .i64 (-1), .int .i64 0, .int .i64 0, .slice A2 pos.length cap2])] w (Back (otV (ckF m first card)) w) := by
 obtain ⟨⟨⟨p0, p1, pe, ph, pw, po, px, pv0, pv1⟩, ra, re⟩, hr⟩ : ∃ r, r = ckF m first card := ⟨_, rfl⟩
 rw [← hr] at hwn hb ⊢
 dsimp only at hwn hb
 refine J_enter (fun _ => False) (vs := [.agg #[.int .i64 m.e, .int .i64 m.m, .int .i64 m.y, .bool m.ch, .bool m.pw], .agg #[.int .i64 0, .int .i64 1, .int .i64 first, .slice A card.length cap, .int .i64 (-1), .int .i64 0, .int .i64 0, .slice A2 pos.length cap2]]) (k := 46) (l := [(0, .agg #[.int .i64 m.e, .int .i64 m.m, .int .i64 m.y, .bool m.ch, .bool m.pw]), (1, .agg #[.int .i64 0, .int .i64 1, .int .i64 first, .slice A card.length cap, .int .i64 (-1), .int .i64 0, .int .i64 0, .slice A2 pos.length cap2])]) Tryz.func22 rfl rfl Tryz.ntmps22 rfl rfl (Wd.start _) ?_
 refine s2 ?_
 refine aW (oX [_, _, _, _, _]) (fun b2 hb2 => ?_)
 refine aW (oX [_, _, _, _, _, _, _, _]) (fun b3 hb3 => ?_)
 refine aW oA (fun b4 hb4 => ?_)
 refine s7 ?_
 refine aCB (fun w hw => (checked_any m first card A cap pos A2 cap2 w (hrow.up ELc hw.bel) (hfin.up EFn hw.bel) hok (hT.up hw.bel) (hM.up hw.bel)).mono (fun _ _ h => by rw [← hr] at h; dsimp only [Sgv] at h; exact h)) ?_
 refine s4 ?_
 refine aW oA (fun b6 hb6 => ?_)
 refine aW0 (wStore (cs := [_, _, _, _, _, _, _, _, _]) rfl rfl rfl rfl rfl rfl rfl (by repeat constructor) rfl rfl) ?_
 refine s6 ?_
 refine kJ [(3, _), (4, _), (6, _), (8, _)] ?_
 refine s3 ?_
 refine JL_dec (fun h18 => ?_) (fun h18 => ?_)
 ·refine s4 ?_
  refine kJ [(4, _), (8, _)] ?_
  refine s1 ?_
  refine aP (rp_buildC (fun us => [.int .i64 0, .int .i64 0, .int .i64 0, .int .i64 0, .int .i64 0, .int .i64 0]) rfl rfl (fun w => by kernel_rfl)) ?_
  refine s7 ?_
  refine JR_two rfl (rr_agg (cs := [_, _, _, _, _, _]) rfl Agg.h (Siz.h (k := 6)) (by repeat constructor) (by rfl)) (rr_tmp rfl) ?_
  intro w' hw
  exact ⟨congrArg Ending.returned (by unfold otV; rw [if_neg h18]), hw.bel⟩
 ·refine s6 ?_
  rcases hwn (by omega) with rfl | rfl
  ·refine s9 ?_
   refine aP (rp_buildC (fun us => [us.getD 0 undef, us.getD 1 undef, us.getD 2 undef, us.getD 3 undef]) rfl rfl (fun w => by kernel_rfl)) ?_
   refine aW oA (fun b9 hb9 => ?_)
   refine s4 ?_
   refine kJ [(4, _), (6, _), (9, _)] ?_
   refine xD [0, 1, 2, 3, 4, 5, 6, 7, 8, 9, 10, 11, 12, 13, 14, 15, 16, 17] [1, 3, 6, 8, 12] ?_
   refine s5 ?_
   refine dP rfl (rp_arrC rfl rfl rfl ia_68_0 rfl) ?_
   refine s5 ?_
   refine dP rfl (rp_arrC rfl rfl rfl ia_68_1 rfl) ?_
   refine s4 ?_
   refine dP rfl (rp_arrC rfl rfl rfl ia_68_0 rfl) ?_
   refine s4 ?_
   refine kJ [(4, _), (9, _)] ?_
   refine s7 ?_
   refine JR_two rfl (rr_agg (cs := [_, _, _, _, _, _]) rfl Agg.h (Siz.h (k := 6)) (by repeat constructor) (by rfl)) (rr_tmp rfl) ?_
   intro w' hw
   exact ⟨congrArg Ending.returned (by unfold otV otP; rw [if_pos (show re = 0 by omega)]; rfl), hw.bel⟩
  ·refine s9 ?_
   refine aP (rp_buildC (fun us => [us.getD 0 undef, us.getD 1 undef, us.getD 2 undef, us.getD 3 undef]) rfl rfl (fun w => by kernel_rfl)) ?_
   refine aW oA (fun b9 hb9 => ?_)
   refine s4 ?_
   refine kJ [(4, _), (6, _), (9, _)] ?_
   refine xD [0, 1, 2, 3, 4, 5, 6, 7, 8, 9, 10, 11, 12, 13, 14, 15, 16, 17] [1, 3, 6, 8, 12] ?_
   refine s5 ?_
   refine dP rfl (rp_arrC rfl rfl rfl ia_68_1 rfl) ?_
   refine s5 ?_
   refine dP rfl (rp_arrC rfl rfl rfl ia_68_0 rfl) ?_
   refine s4 ?_
   refine dP rfl (rp_arrC rfl rfl rfl ia_68_1 rfl) ?_
   refine s4 ?_
   refine kJ [(4, _), (9, _)] ?_
   refine s7 ?_
   refine JR_two rfl (rr_agg (cs := [_, _, _, _, _, _]) rfl Agg.h (Siz.h (k := 6)) (by repeat constructor) (by rfl)) (rr_tmp rfl) ?_
   intro w' hw
   exact ⟨congrArg Ending.returned (by unfold otV otP; rw [if_pos (show re = 0 by omega)]; rfl), hw.bel⟩
end Go.Proofs.YtmcpnoailbmkkaaGreatDoor
/- Layers 2, 7: Score; Count (document). -/
namespace Go.Proofs.YtmcpnoailbmkkaaGreatDoor
open Go Go.RowKit Go.Proofs
attribute [local irreducible] J JQ JL JA JD

/-- Who counts in an end. -/
def scoF (E : En) : Int × Int × Int := if E.tn = 2 * E.c.e then cntF E.l else (0, 0, 9)
theorem hsA_iff {l : List St} {k : Nat} {x : St} (hk : k < l.length) (hx : l[k]'hk = x) : k ∈ hsA l ↔ InH x.x x.y := by
 unfold hsA hsN
 rw [List.mem_filter, List.mem_range]
 have e : l.getD k ⟨0, 0, 0, 0⟩ = x := by rw [List.getD_eq_getElem?_getD, List.getElem?_eq_getElem hk, hx]; rfl
 rw [e, decide_eq_true_eq]
 exact ⟨fun h => h.2, fun h => ⟨hk, h⟩⟩
set_option maxRecDepth 100000 in
set_option maxHeartbeats 4000000 in
theorem Score_any (b : Nat) (e : EnM) (w : World) (h : EndW w b e) (hok : EnOk e.pl) : Calls Tryz.prog 57 #[.pointer (some ⟨b, 0, none⟩)] w (Back (.tuple #[.int .i64 (scoF e.pl).1, .int .i64 (scoF e.pl).2.1, .int .i64 (scoF e.pl).2.2]) w) := by
 obtain ⟨⟨kf, kt, ks, ke, kp⟩, fr, l, sA, sk, tn, pd⟩ := e
 have hc : (cellB b [.int .i64 kf, .int .i64 kt, .int .i64 ks, .int .i64 ke, .bool kp, .bool true, .int .i64 fr, .slice sA l.length sk, .int .i64 tn, .pointer (pdA pd)] 217).holds w := h.cell
 have he := hok.e
 dsimp only [EnM.pl] at he
 refine J_enter (fun _ => False) (vs := [.pointer (some ⟨b, 0, none⟩)]) (k := 20) (l := [(0, .pointer (some ⟨b, 0, none⟩))]) Tryz.func57 rfl rfl Tryz.ntmps57 rfl rfl (Wd.start _) ?_
 refine s12 ?_
 refine aCB (fun w hw => is_any b kf kt ks ke kp true fr sA l.length sk tn _ w (It.up_cell hc hw.bel)) ?_
 refine aBoolT ?_ rfl
 refine s6 ?_
 refine kJ [(0, _)] ?_
 refine s2 ?_
 refine aCB (fun w hw => over_any b kf kt ks ke kp true fr sA l.length sk tn _ w (It.up_cell hc hw.bel) (by omega)) ?_
 refine JL_dec (fun h11 => ?_) (fun h11 => ?_)
 ·refine s9 ?_
  refine kJ [(0, _)] ?_
  refine s4 ?_
  refine aV (vOld rfl rfl (fun h => h) (cellB_get hc rfl)) ?_
  refine aCB (fun w hw => Count_any l _ w (h.row.up ET hw.bel)) ?_
  refine s9 ?_
  refine JR_three rfl (rr_tmp rfl) (rr_tmp rfl) (rr_tmp rfl) ?_
  intro w' hw
  exact ⟨by unfold scoF EnM.pl; dsimp only; rw [if_pos h11], hw.bel⟩
 ·refine s6 ?_
  refine kJ [] ?_
  refine s9 ?_
  refine JR_three rfl (rr_tmp rfl) (rr_tmp rfl) (rr_tmp rfl) ?_
  intro w' hw
  exact ⟨by unfold scoF EnM.pl; dsimp only; rw [if_neg h11], hw.bel⟩
end Go.Proofs.YtmcpnoailbmkkaaGreatDoor
/- Layer 7, in plain Lean: rulings and ends of mirrored throws, and of throws with the teams exchanged. (Carried over from wip/rules.) -/
namespace Go.Proofs.YtmcpnoailbmkkaaGreatDoor
open Go Go.RowKit Go.Proofs
theorem goodF_iff : ∀ (l pre : List St), goodF pre l = true ↔ (∀ s ∈ l, okSt s) ∧ (∀ a ∈ pre, ∀ b ∈ l, nameB a b = false) ∧ l.Pairwise (fun a b => nameB a b = false)
 | [], pre => by simp [goodF]
 | s :: r, pre => by
  unfold goodF
  rw [Bool.and_eq_true, Bool.and_eq_true, goodF_iff r (pre ++ [s]), List.all_eq_true, List.pairwise_cons]
  simp only [decide_eq_true_eq, List.mem_cons, List.mem_append, List.not_mem_nil, or_false, Bool.not_eq_true']
  constructor
  ·rintro ⟨⟨h1, h2⟩, h3, h4, h5⟩
   refine ⟨?_, ?_, fun b hb => h4 s (.inr rfl) b hb, h5⟩
   ·rintro x (rfl | hx)
    ·exact h1
    ·exact h3 x hx
   ·rintro a ha b (rfl | hb)
    ·exact h2 a ha
    ·exact h4 a (.inl ha) b hb
  ·rintro ⟨h1, h2, h3, h4⟩
   refine ⟨⟨h1 s (.inl rfl), fun a ha => h2 a ha s (.inl rfl)⟩, fun x hx => h1 x (.inr hx), ?_, h4⟩
   rintro a (ha | rfl) b hb
   ·exact h2 a ha b (.inr hb)
   ·exact h3 b hb
theorem fidx_neg {α : Type} (p : α → Bool) (l : List α) : fidx p l < 0 ↔ ∀ x ∈ l, p x = false := by
 unfold fidx
 split
 ·rename_i h
  constructor
  ·intro h1; omega
  ·intro h1
   have := List.findIdx_getElem (w := h)
   rw [h1 _ (List.getElem_mem h)] at this; cases this
 ·rename_i h
  constructor
  ·intro _ x hx
   cases e : p x
   ·rfl
   ·exact absurd (List.findIdx_lt_length_of_exists ⟨x, hx, e⟩) h
  ·intro _; omega
theorem pairF_iff {α : Type} (h : α → α → Bool) : ∀ (l : List α) (i : Nat), (pairF h l i).1 < 0 ↔ l.Pairwise (fun a b => h a b = false)
 | [], i => by simp [pairF]
 | a :: l, i => by
  unfold pairF
  rw [List.pairwise_cons, ← fidx_neg]
  split
  ·rename_i h0
   constructor
   ·intro h1; simp only at h1; omega
   ·rintro ⟨h1, -⟩; omega
  ·rename_i h0
   rw [pairF_iff h l (i + 1)]
   exact ⟨fun h1 => ⟨by omega, h1⟩, fun h1 => h1.2⟩
/-- What a valid position is. -/
theorem chk_iff (l : List St) : chkB l = true ↔ l.length ≤ 16 ∧ (∀ s ∈ l, okSt s) ∧ l.Pairwise (fun a b => nameB a b = false) ∧ l.Pairwise (fun a b => ovB a b = false) := by
 unfold chkB
 rw [Bool.and_eq_true, Bool.and_eq_true, decide_eq_true_eq, decide_eq_true_eq, goodF_iff, pairF_iff]
 constructor
 ·rintro ⟨⟨h1, h2, -, h3⟩, h4⟩; exact ⟨h1, h2, h3, h4⟩
 ·rintro ⟨h1, h2, h3, h4⟩; exact ⟨⟨h1, h2, fun a ha => (by cases ha), h3⟩, h4⟩
/-- A change of stones that keeps what counts for a position. -/
structure Keeps (f : St → St) : Prop where
  ok : ∀ s, okSt (f s) ↔ okSt s
  nm : ∀ a b, okSt a → okSt b → nameB (f a) (f b) = nameB a b
  ov : ∀ a b, ovB (f a) (f b) = ovB a b
/-- A change of stones and teams under which rulings go along. -/
structure Sym (f : St → St) (τ : Int → Int) : Prop where
  keep : Keeps f
  inv : ∀ s, f (f s) = s
  ht : ∀ s, (f s).t = τ s.t
  hn : ∀ s, (f s).n = s.n
  inj : ∀ a b, τ a = τ b ↔ a = b
  rg : ∀ a, (0 ≤ τ a ∧ τ a ≤ 1) ↔ (0 ≤ a ∧ a ≤ 1)
  hzn : ∀ s, zn (f s).x (f s).y = zn s.x s.y
  hce : ∀ s, cen (f s) = cen s
section
variable {f : St → St} {τ : Int → Int} (F : Sym f τ)
include F
end
section
variable {f : St → St} {τ : Int → Int} (F : Sym f τ)
include F
/-- An outcome, changed. -/
def ocF (f : St → St) (q : List St × Bool) : List St × Bool := (srt (q.1.map f), q.2)
end
end Go.Proofs.YtmcpnoailbmkkaaGreatDoor
/- Layer 7, in plain Lean: an end that is played by a list of throws; the changed throws make the changed end. -/
namespace Go.Proofs.YtmcpnoailbmkkaaGreatDoor
open Go Go.RowKit Go.Proofs
/-- What changes with the teams. -/
structure SymT (f : St → St) (τ : Int → Int) : Prop where
 F : Sym f τ
 nx : ∀ fr tn : Int, 0 ≤ fr ∧ fr ≤ 1 → (τ fr + tn) % 2 = τ ((fr + tn) % 2)
/-- A valid end. -/
structure ValE (E : En) : Prop where
 chk : chkB E.l = true
 so : srt E.l = E.l
 fr : 0 ≤ E.fr ∧ E.fr ≤ 1
 outs : ∀ r, E.p = some r → ∀ q ∈ r.2.2, chkB q.1 = true ∧ srt q.1 = q.1
structure SimE (f : St → St) (τ : Int → Int) (E E' : En) : Prop where
 hc : E'.c = E.c
 htn : E'.tn = E.tn
 hfr : E'.fr = τ E.fr
 hl : E'.l = srt (E.l.map f)
 hp : (E.p = none ∧ E'.p = none) ∨ ∃ r h, E.p = some r ∧ E'.p = some (r.1, h, r.2.2.map (ocF f))
variable {f : St → St} {τ : Int → Int}
/-! ### An end that is played -/
/-- What is thrown; the choices that are left. -/
def runE : En → List (Th × List St) → List Int → Int × En × List Int
 | E, [], cs => (0, E, cs)
 | E, y :: r, cs =>
  if thrE E y.2 y.1 ≠ 0 then (thrE E y.2 y.1, E, cs) else
  if (thrN E y.2 y.1).p = none then runE (thrN E y.2 y.1) r cs else
  if chsE (thrN E y.2 y.1) (cs.headD 0) ≠ 0 then (chsE (thrN E y.2 y.1) (cs.headD 0), thrN E y.2 y.1, cs.tail) else runE (chsN (thrN E y.2 y.1) (cs.headD 0)) r cs.tail
end Go.Proofs.YtmcpnoailbmkkaaGreatDoor
/- Layer 2, in plain Lean: the count of changed stones, in another order. -/
namespace Go.Proofs.YtmcpnoailbmkkaaGreatDoor
open Go Go.RowKit Go.Proofs
/-- What the count asks of a change. -/
structure SymC (f : St → St) (τ : Int → Int) : Prop where
 ht : ∀ s, (f s).t = τ s.t
 inj : ∀ a b, τ a = τ b ↔ a = b
 hin : ∀ s, InH (f s).x (f s).y ↔ InH s.x s.y
 hsq : ∀ s, sqd (f s).x (f s).y = sqd s.x s.y
section
variable {f : St → St} {τ : Int → Int}
end
end Go.Proofs.YtmcpnoailbmkkaaGreatDoor
/- In plain Lean: an end of changed throws has the changed position, and the line that goes with it. -/
namespace Go.Proofs.YtmcpnoailbmkkaaGreatDoor
open Go Go.RowKit Go.Proofs
/-- An end that is played: why not, the end. -/
def endE (c : Cd) (first power : Int) (ys : List (Th × List St)) (cs : List Int) : Int :=
 if 100 < ys.length then 3 else if goodR c first power ≠ 0 then goodR c first power else
 if (runE (newE c first power) ys cs).1 ≠ 0 then (runE (newE c first power) ys cs).1 else (scoF (runE (newE c first power) ys cs).2.1).2.2
def endS (c : Cd) (first power : Int) (ys : List (Th × List St)) (cs : List Int) : En := (runE (newE c first power) ys cs).2.1
end Go.Proofs.YtmcpnoailbmkkaaGreatDoor
/- Across layers: throws, far, next, Mirror, lines compared. -/
namespace Go.Proofs.YtmcpnoailbmkkaaGreatDoor
open Go Go.RowKit Go.Proofs
attribute [local irreducible] J JQ JL JA JD

/-- A throw with its stones. -/
structure Tw where
 x : Th
 d : Dv St
def eTw (p : Tw) : List Value := [.int .i64 p.x.team, .int .i64 p.x.n, .bool p.x.late, .bool p.x.short, .int .i64 p.x.how, p.d.v]
theorem ETw : Enc 6 eTw := ⟨fun _ => rfl, fun x v h => by simp [eTw, Dv.v] at h; rcases h with rfl | rfl | rfl | rfl | rfl | rfl <;> rfl⟩
def TwW (w : World) (p : Tw) : Prop := Arr 4 eT w p.d.v p.d.l ∧ p.d.n = p.d.l.length
theorem TwW.up {w w' : World} {p : Tw} (h : TwW w p) (hb : Below w.heap.size w w') : TwW w' p := ⟨h.1.up ET hb, h.2⟩
def twP (p : Tw) : Th × List St := (p.x, p.d.l)
def farT (l : List Tw) : Bool := decide (110 < l.length) || l.any (fun p => decide (20 < p.d.n))
theorem far_y1 {l : List Tw} (h : 110 < l.length) : farT l = true := by unfold farT; rw [decide_eq_true h]; rfl
theorem far_y2 {l : List Tw} {k : Nat} {x : Tw} (hk : k < l.length) (hx : l[k]'hk = x) (h : 20 < x.d.n) : farT l = true := by
 unfold farT
 rw [Bool.or_eq_true, List.any_eq_true]
 exact .inr ⟨x, by rw [← hx]; exact List.getElem_mem _, decide_eq_true h⟩
theorem far_n {l : List Tw} (h1 : ¬ 110 < l.length) (h2 : ∀ j (hj : j < l.length), (l[j]'hj).d.n ≤ 20) : farT l = false := by
 unfold farT
 rw [Bool.or_eq_false_iff, List.any_eq_false]
 refine ⟨decide_eq_false h1, fun x hx => ?_⟩
 obtain ⟨j, hj, rfl⟩ := List.getElem_of_mem hx
 have := h2 j hj
 simp; omega
/-- A line: the team, its points, the power play. -/
abbrev Lnv (a b : Int) (p : Bool) : Value := .agg #[.int .i64 a, .int .i64 b, .bool p]
section
variable {n : Nat} {l : Sl} {o : Oper} {x y : Operand} {ty : TypeId}
end
set_option maxRecDepth 100000 in
set_option maxHeartbeats 4000000 in
theorem far_any (l : List Tw) (A : Option Addr) (cap : Nat) (w : World) (hrow : Arr 6 eTw w (.slice A l.length cap) l) : Calls Tryz.prog 17 #[.slice A l.length cap] w (Back (.bool (farT l)) w) := by
 have hrow0 := hrow
 obtain ⟨A1, cap1, e0, -, ⟨hlhA, -⟩, hA⟩ := hrow
 obtain ⟨rfl, -, rfl⟩ : A = A1 ∧ True ∧ cap = cap1 := by injection e0 with e1 _ e3; exact ⟨e1, trivial, e3⟩
 clear e0
 refine J_enter (fun _ => False) (vs := [.slice A l.length cap]) (k := 19) (l := [(0, .slice A l.length cap)]) Tryz.func17 rfl rfl Tryz.ntmps17 rfl rfl (Wd.start _) ?_
 refine s11 ?_
 refine JL_dec (fun h6 => ?_) (fun h6 => ?_)
 ·refine s4 ?_
  refine kJ [] ?_
  refine s6 ?_
  refine JR_one rfl (rr_tmp rfl) ?_
  intro w' hw
  exact ⟨by rw [far_y1 (by omega)], hw.bel⟩
 ·refine s7 ?_
  refine kJ [(0, _)] ?_
  refine s5 ?_
  refine xL (T := Nat) (fun k => k ≤ l.length ∧ ∀ j (hj : j < l.length), j < k → (l[j]'hj).d.n ≤ 20) (fun k => [(0, .slice A l.length cap), (3, .int .i64 (k : Nat))]) (fun k => []) (fun k => l.length - k) 0 ⟨Nat.zero_le _, fun j _ h => absurd h (Nat.not_lt_zero _)⟩ ?_
  rintro k ⟨hk, hall⟩
  refine s7 ?_
  refine JL_dec (fun h10 => ?_) (fun h10 => ?_)
  ·refine s8 ?_
   have hlt : k < l.length := by omega
   obtain ⟨bk, qx, rfl, hh⟩ := hA (by intro e; subst e; simp at hlt)
   obtain ⟨⟨⟨xteam, xnn, xlate, xshort, xhow⟩, ⟨xA, xn, xk, xl⟩⟩, hx⟩ : ∃ y, l[k]'hlt = y := ⟨_, rfl⟩
   refine kJ [(0, _), (3, _)] ?_
   refine s5 ?_
   refine aV (vHold (i := 5) (v := .slice xA xn xk) rfl rfl (fun h => h) hh hlt (by omega) (by rw [hx]; rfl)) ?_
   refine s2 ?_
   refine JL_dec (fun h19 => ?_) (fun h19 => ?_)
   ·refine s4 ?_
    refine kJ [] ?_
    refine s10 ?_
    refine JR_one rfl (rr_tmp rfl) ?_
    intro w' hw
    exact ⟨by rw [far_y2 hlt hx (by dsimp only; omega)], hw.bel⟩
   ·refine s6 ?_
    refine kJ [(0, _), (3, _)] ?_
    refine s5 ?_
    have hn : ∀ j (hj : j < l.length), j < k + 1 → (l[j]'hj).d.n ≤ 20 := fun j hj hjk => by
     rcases Nat.lt_or_ge j k with h | h
     ·exact hall j hj h
     ·obtain rfl : j = k := by omega
      rw [hx]; dsimp only; omega
    exact xR (k + 1) ⟨by omega, hn⟩ (by omega) (hl := ⟨rfl, (congrArg some (by go_num)), trivial⟩)
  ·refine s9 ?_
   refine kJ [] ?_
   refine s5 ?_
   refine JR_one rfl (rr_tmp rfl) ?_
   intro w' hw
   exact ⟨by rw [far_n (by omega) (fun j hj => hall j hj (by omega))], hw.bel⟩
/-- The choices that are left. -/
def nxA (l : List Int) (A : Option Addr) (c : Nat) : Option Addr × Nat := if l = [] then (A, c) else (if c = 1 then A else A.map (·.add (1 * 1)), c - 1)
theorem nx_arr {l : List Int} {A : Option Addr} {c : Nat} {w : World} (h : Arr 1 eI w (.slice A l.length c) l) : Arr 1 eI w (.slice (nxA l A c).1 l.tail.length (nxA l A c).2) l.tail := by
 unfold nxA
 cases l with
 | nil => exact h
 | cons u l2 => rw [if_neg (by simp)]; exact h.drop (m := 1) (by simp)
theorem arr_lt {l : List Int} {A : Option Addr} {c : Nat} {w : World} (h : Arr 1 eI w (.slice A l.length c) l) (hl : l ≠ []) : ∀ q o, A = some ⟨q, o, none⟩ → q < w.heap.size := by
 obtain ⟨A1, c1, e, -, -, hA⟩ := h
 injection e with e1
 subst e1
 obtain ⟨b, o, e2, hh⟩ := hA hl
 intro q o2 e3
 rw [e2] at e3
 injection e3 with e3
 injection e3 with e4
 subst e4
 have h0 : 0 < l.length := List.length_pos_iff.2 hl
 have := hh 0 h0 0 (by omega)
 exact lt_cell (b := b) (o := o + 0 * 1 + 0) (v := .int .i64 (l[0]'h0)) (by rw [this]; rfl)
set_option maxRecDepth 100000 in
set_option maxHeartbeats 4000000 in
theorem next_any (l : List Int) (A : Option Addr) (c b : Nat) (w : World) (hrow : Arr 1 eI w (.slice A l.length c) l) (hnb : l ≠ [] → ∀ q o, A = some ⟨q, o, none⟩ → q ≠ b) (hA0 : (cellB b [.slice A l.length c] 34).holds w) (hAf : ∀ q, (cellB b [.slice A l.length c] 34).foot q → q < w.heap.size) : Calls Tryz.prog 56 #[.pointer (some ⟨b, 0, none⟩)] w (RetM (cellB b [.slice A l.length c] 34) (fun t : Option Addr × Nat => t = nxA l A c) (fun _ => .int .i64 (l.headD 0)) (fun t => cellB b [.slice t.1 l.tail.length t.2] 34) w) := by
 have hrow0 := hrow
 obtain ⟨A1, cap1, e0, -, ⟨hlhA, -⟩, hA⟩ := hrow
 obtain ⟨rfl, -, rfl⟩ : A = A1 ∧ True ∧ c = cap1 := by injection e0 with e1 _ e3; exact ⟨e1, trivial, e3⟩
 clear e0
 refine J_start (B := ⟨w, (cellB b [.slice A l.length c] 34).foot, none, []⟩) rfl rfl (vs := [.pointer (some ⟨b, 0, none⟩)]) (k := 20) (l := [(0, .pointer (some ⟨b, 0, none⟩))]) Tryz.func56 rfl rfl Tryz.ntmps56 rfl rfl (Wd.startM hA0 hAf) ?_
 refine s13 ?_
 refine JL_dec (fun h8 => ?_) (fun h8 => ?_)
 ·refine s4 ?_
  refine kJ [] ?_
  refine s6 ?_
  refine JR_one rfl (rr_tmp rfl) ?_
  intro w' hw
  obtain rfl : l = [] := List.length_eq_zero_iff.1 (by omega)
  exact ⟨(A, c), rfl, rfl, hw.pick (by repeat constructor)⟩
 ·refine s6 ?_
  obtain ⟨u, l2, rfl⟩ : ∃ u l2, l = u :: l2 := by
   cases l with
   | nil => exact absurd rfl h8
   | cons u l2 => exact ⟨u, l2, rfl⟩
  ·obtain ⟨bk, qx, rfl, hh⟩ := hA (by simp)
   have hnf : ¬ (cellB b [.slice (some ⟨bk, qx, none⟩) (u :: l2).length c] 34).foot bk := fun h => hnb (by simp) bk qx rfl h
   have hlen1 : (u :: l2).length = l2.length + 1 := rfl
   refine kJ [(0, _)] ?_
   refine s4 ?_
   refine aP (pIdxI (0) rfl rfl rfl rfl) ?_
   refine aV (vHold (k := 1) (j := 0) (i := 0) (v := .int .i64 u) rfl rfl hnf hh (Nat.zero_lt_succ _) (by omega) rfl) ?_
   refine s4 ?_
   refine kJ [(0, _), (3, _)] ?_
   refine s5 ?_
   refine aP (rp_sliceFrom (k := 1) rfl rfl rfl Und.h Siz.h rfl (by omega)) ?_
   refine s5 ?_
   refine kJ [(3, _)] ?_
   refine s6 ?_
   refine JR_one rfl (rr_tmp rfl) ?_
   intro w' hw
   exact ⟨(if c = 1 then some ⟨bk, qx, none⟩ else (some (⟨bk, qx, none⟩ : Addr)).map (·.add (1 * 1)), c - 1), by unfold nxA; rw [if_neg (by simp)], rfl, hw.pick (by repeat constructor)⟩
end Go.Proofs.YtmcpnoailbmkkaaGreatDoor
/- Layer 7, in plain Lean: an end keeps its bounds. -/
namespace Go.Proofs.YtmcpnoailbmkkaaGreatDoor
open Go Go.RowKit Go.Proofs
/-! ### The end keeps its bounds -/
theorem dd_memP {y : List St × Bool} : ∀ (L r : List (List St × Bool)), y ∈ L.foldl (fun r o => if r.any (fun p => decide (p = o)) = true then r else r ++ [o]) r → y ∈ r ∨ y ∈ L
 | [], r, h => .inl h
 | o :: L, r, h => by
  rw [List.foldl_cons] at h
  rcases dd_memP L _ h with h1 | h1
  ·split at h1
   ·exact .inl h1
   ·rcases List.mem_append.1 h1 with h2 | h2
    ·exact .inl h2
    ·exact .inr (by rw [List.mem_singleton.1 h2]; exact List.mem_cons_self)
  ·exact .inr (List.mem_cons_of_mem _ h1)
theorem ddP_mem {y : List St × Bool} {L : List (List St × Bool)} (h : y ∈ ddP L) : y ∈ L := by
 rcases dd_memP L [] h with h | h
 ·cases h
 ·exact h
theorem dd_lenP : ∀ (L r : List (List St × Bool)), r.length ≤ (L.foldl (fun r o => if r.any (fun p => decide (p = o)) = true then r else r ++ [o]) r).length
 | [], r => Nat.le_refl _
 | o :: L, r => by
  rw [List.foldl_cons]
  refine Nat.le_trans ?_ (dd_lenP L _)
  split
  ·exact Nat.le_refl _
  ·rw [List.length_append]; omega
theorem ddP_pos (o : List St × Bool) (L : List (List St × Bool)) : 1 ≤ (ddP (o :: L)).length := dd_lenP L [o]
theorem outF_pos (l m : List St) (x : Th) (r : Int) : 1 ≤ (outF l m x r).length := by
 unfold outF
 repeat' split
 all_goals exact ddP_pos _ _
theorem outF_mem {l m : List St} {x : Th} {r : Int} {y : List St × Bool} (h : y ∈ outF l m x r) : y.1 = srt l ∨ y.1 = srt m ∨ y.1 = srt (m.filter (fun s => !isB x.team x.n s)) := by
 unfold outF at h
 repeat' split at h
 all_goals
  have h1 := ddP_mem h
  simp only [List.mem_cons, List.not_mem_nil, or_false] at h1
  rcases h1 with h1 | h1 | h1 <;> (try subst h1) <;> simp_all
theorem outF_16 {l m : List St} {x : Th} {r : Int} {y : List St × Bool} (h : y ∈ outF l m x r) (hl : l.length ≤ 16) (hm : m.length ≤ 16) : y.1.length ≤ 16 := by
 rcases outF_mem h with e | e | e <;> rw [e, srt_len]
 ·exact hl
 ·exact hm
 ·exact Nat.le_trans (List.length_filter_le _ _) hm
theorem took_ok {E : En} (h : EnOk E) (ht : E.tn < 2 * E.c.e) {o : List St × Bool} (ho : o.1.length ≤ 16) : EnOk (tookE E o) := by
 have h1 := h.tn
 refine ⟨h.e, h.fr, ?_, ho, fun r hr => (by cases hr)⟩
 unfold tookE
 dsimp only
 split <;> omega
theorem thr_ok {E : En} {m : List St} {x : Th} (h : EnOk E) (hq : thrE E m x = 0) : EnOk (thrN E m x) := by
 obtain ⟨z0, z1, z2, z3⟩ := thr_0 hq
 obtain ⟨z4, z5⟩ := next_iff.1 z0
 have h1 := h.tn
 have hm := (chk_facts (thr_parts z3).2.1).1
 have h16 : ∀ y ∈ outE E m x, y.1.length ≤ 16 := fun y hy => outF_16 hy h.l hm
 have hp := outF_pos E.l m x (rulE E m x)
 have hl := outF_len E.l m x (rulE E m x)
 by_cases hn : (outE E m x).length = 1
 ·obtain ⟨q, hq2⟩ := List.length_eq_one_iff.1 hn
  rw [thr_one hq2]
  exact took_ok h (by omega) (h16 q (by rw [hq2]; exact List.mem_cons_self))
 ·rw [thr_many hn]
  refine ⟨h.e, h.fr, h.tn, h.l, fun r hr => ?_⟩
  cases hr
  have hn2 : (outF E.l m x (rulE E m x)).length ≠ 1 := hn
  exact ⟨by show E.tn < 2 * E.c.e; omega, ⟨by show 1 < (outF E.l m x (rulE E m x)).length; omega, hl⟩, h16⟩
theorem chs_ok {E : En} {i : Int} (h : EnOk E) (hq : chsE E i = 0) : EnOk (chsN E i) := by
 cases hp : E.p with
 | none => unfold chsE at hq; rw [hp] at hq; cases hq
 | some r =>
  have h1 := h.p r hp
  have h2 : 0 ≤ i ∧ i ≤ (r.2.2.length : Int) - 1 := by
   unfold chsE at hq
   rw [hp] at hq
   dsimp only at hq
   split at hq
   ·assumption
   ·cases hq
  have h3 : i.toNat < r.2.2.length := by omega
  have h4 : chsN E i = tookE E (r.2.2[i.toNat]'h3) := by
   unfold chsN
   rw [hp]
   dsimp only
   rw [List.getD_eq_getElem?_getD, List.getElem?_eq_getElem h3]
   rfl
  rw [h4]
  exact took_ok h h1.1 (h1.2.2 _ (List.getElem_mem _))
theorem new_ok {c : Cd} {first power : Int} (h : goodR c first power = 0) : EnOk (newE c first power) ∧ ccB c = true := by
 unfold goodR at h
 split at h
 ·rename_i h1
  have h2 := h1.1
  have h3 : 1 ≤ c.e ∧ c.e ≤ 8 := by
   unfold ccB at h2
   simp only [Bool.and_eq_true, decide_eq_true_eq] at h2
   exact h2.1.2
  have h4 : (newE c first power).l.length ≤ 16 := by
   unfold newE
   dsimp only
   split
   ·rw [srt_len]; exact Nat.le_of_ble_eq_true rfl
   ·exact Nat.zero_le _
  exact ⟨⟨h3, h1.2, ⟨Int.le_refl _, by show (0 : Int) ≤ 2 * c.e; omega⟩, h4, fun r hr => (by cases hr)⟩, h2⟩
 ·cases h
end Go.Proofs.YtmcpnoailbmkkaaGreatDoor
/- Across layers: an end is played. -/
namespace Go.Proofs.YtmcpnoailbmkkaaGreatDoor
open Go Go.RowKit Go.Proofs
attribute [local irreducible] J JQ JL JA JD

theorem New_grp (c : Cd) (first power : Int) (w : World) (hg : goodR c first power = 0) : Calls Tryz.prog 52 #[Cdv c, .int .i64 first, .int .i64 power] w (Ret w (fun t : Nat × EnM => EnP (newE c first power) t.2) (fun t => .tuple #[.pointer (some ⟨t.1, 0, none⟩), .int .i64 0]) (fun t => [grpB (endI t.1 t.2)])) := (New_any c first power w).mono (fun _ _ h => by
 unfold RetNew at h
 rw [if_pos hg] at h
 obtain ⟨t, h1, h2, h3⟩ := h
 exact ⟨t, h1, h2, h3.close (HA := endI t.1 t.2) (H1 := []) (by rw [List.append_nil]; exact Pk.refl _) (endI_nro _ _)⟩)
def RetEn (c : Cd) (first power : Int) (ys : List (Th × List St)) (cs : List Int) (w : World) (e : Ending) (w' : World) : Prop :=
 if endE c first power ys cs = 0 then Ret w (fun _ : Option Addr × Nat => True) (fun t => .tuple #[Lnv (scoF (endS c first power ys cs)).1 (scoF (endS c first power ys cs)).2.1 (decide (power ≠ 0)), .slice t.1 (endS c first power ys cs).l.length t.2, .int .i64 0]) (fun t => [ownB 43 4 t.1 (endS c first power ys cs).l.length t.2 ((endS c first power ys cs).l.flatMap eT)]) e w'
 else Back (.tuple #[Lnv 0 0 false, .slice none 0 0, .int .i64 (endE c first power ys cs)]) w e w'
theorem en_no {c : Cd} {first power : Int} {ys : List (Th × List St)} {cs : List Int} {w : World} {e : Ending} {w' : World} {q : Int} (hq : endE c first power ys cs = q) (h0 : q ≠ 0) (h : Back (.tuple #[Lnv 0 0 false, .slice none 0 0, .int .i64 q]) w e w') : RetEn c first power ys cs w e w' := by
 unfold RetEn
 rw [hq, if_neg h0]
 exact h
theorem run_step {E : En} {YS : List (Th × List St)} {k : Nat} {cs : List Int} {y : Th × List St} (hk : k < YS.length) (hy : YS[k]'hk = y) : runE E (YS.drop k) cs = if thrE E y.2 y.1 ≠ 0 then (thrE E y.2 y.1, E, cs) else
  if (thrN E y.2 y.1).p = none then runE (thrN E y.2 y.1) (YS.drop (k + 1)) cs else
  if chsE (thrN E y.2 y.1) (cs.headD 0) ≠ 0 then (chsE (thrN E y.2 y.1) (cs.headD 0), thrN E y.2 y.1, cs.tail) else runE (chsN (thrN E y.2 y.1) (cs.headD 0)) (YS.drop (k + 1)) cs.tail := by
 rw [List.drop_eq_getElem_cons hk, hy]
 conv => lhs; unfold runE
theorem en_1 {c : Cd} {first power : Int} {ys : List (Th × List St)} {cs : List Int} (h : 100 < ys.length) : endE c first power ys cs = 3 := by unfold endE; rw [if_pos h]
theorem en_2 {c : Cd} {first power : Int} {ys : List (Th × List St)} {cs : List Int} (h : ¬ 100 < ys.length) (h2 : goodR c first power ≠ 0) : endE c first power ys cs = goodR c first power := by unfold endE; rw [if_neg h, if_pos h2]
theorem en_3 {c : Cd} {first power : Int} {ys : List (Th × List St)} {cs : List Int} {r : Int × En × List Int} (h : ¬ 100 < ys.length) (h2 : goodR c first power = 0) (hr : runE (newE c first power) ys cs = r) (h3 : r.1 ≠ 0) : endE c first power ys cs = r.1 := by
 unfold endE; rw [if_neg h, if_neg (show ¬ (goodR c first power ≠ 0) from fun h => h h2), hr, if_pos h3]
theorem en_4 {c : Cd} {first power : Int} {ys : List (Th × List St)} {cs : List Int} {E : En} {cs2 : List Int} (h : ¬ 100 < ys.length) (h2 : goodR c first power = 0) (hr : runE (newE c first power) ys cs = (0, E, cs2)) : endE c first power ys cs = (scoF E).2.2 ∧ endS c first power ys cs = E := by
 unfold endE endS; rw [if_neg h, if_neg (show ¬ (goodR c first power ≠ 0) from fun h => h h2), hr, if_neg (show ¬ ((0 : Int) ≠ 0) from fun h => h rfl)]; exact ⟨rfl, rfl⟩
set_option maxRecDepth 100000 in
set_option maxHeartbeats 4000000 in
theorem End_any (c : Cd) (first power : Int) (l : List Tw) (A : Option Addr) (cap : Nat) (cs0 : List Int) (cA : Option Addr) (cc : Nat) (w : World) (hrow : Arr 6 eTw w (.slice A l.length cap) l) (hT : ∀ p ∈ l, TwW w p) (hcs0 : Arr 1 eI w (.slice cA cs0.length cc) cs0) : Calls Tryz.prog 19 #[Cdv c, .int .i64 first, .int .i64 power, .slice A l.length cap, .slice cA cs0.length cc] w (RetEn c first power (l.map twP) cs0 w) := by
 obtain ⟨kf, kt, ks, ke, kp⟩ := c
 have hrow0 := hrow
 obtain ⟨A1, cap1, e0, -, ⟨hlhA, -⟩, hA⟩ := hrow
 obtain ⟨rfl, -, rfl⟩ : A = A1 ∧ True ∧ cap = cap1 := by injection e0 with e1 _ e3; exact ⟨e1, trivial, e3⟩
 clear e0
 refine J_enter (fun _ => False) (vs := [.agg #[.int .i64 kf, .int .i64 kt, .int .i64 ks, .int .i64 ke, .bool kp], .int .i64 first, .int .i64 power, .slice A l.length cap, .slice cA cs0.length cc]) (k := 81) (l := [(0, .agg #[.int .i64 kf, .int .i64 kt, .int .i64 ks, .int .i64 ke, .bool kp]), (1, .int .i64 first), (2, .int .i64 power), (3, .slice A l.length cap), (4, .slice cA cs0.length cc)]) Tryz.func19 rfl rfl Tryz.ntmps19 rfl rfl (Wd.start _) ?_
 refine s2 ?_
 refine aW (oX [_, _, _, _, _]) (fun b5 hb5 => ?_)
 refine aW (oX [_]) (fun b9 hb9 => ?_)
 refine aW oA (fun b10 hb10 => ?_)
 refine s6 ?_
 refine kJ [(1, _), (2, _), (3, _), (5, _), (9, _), (10, _)] ?_
 refine s4 ?_
 refine JL_dec (fun h25 => ?_) (fun h25 => ?_)
 ·refine s4 ?_
  refine kJ [(10, _)] ?_
  refine s1 ?_
  refine aP (rp_buildC (fun us => [.int .i64 0, .int .i64 0, .bool false]) rfl rfl (fun w => by kernel_rfl)) ?_
  refine s7 ?_
  refine JR_three rfl (rr_agg (cs := [_, _, _]) rfl Agg.h (Siz.h (k := 3)) (by repeat constructor) (by rfl)) (rr_tmp rfl) (rr_tmp rfl) ?_
  intro w' hw
  exact en_no (en_1 (by rw [List.length_map]; omega)) (by decide) ⟨rfl, hw.bel⟩
 ·refine s6 ?_
  by_cases hg : goodR (⟨kf, kt, ks, ke, kp⟩ : Cd) first power = 0
  ·have hok00 := (new_ok hg).1
   refine s4 ?_
   refine aW (oR (fun w hw => New_grp (⟨kf, kt, ks, ke, kp⟩ : Cd) first power w hg)) (fun t27 ht27 => ?_)
   obtain ⟨b27, e0⟩ := t27
   dsimp only at ht27 ⊢
   have hok0 : EnOk e0.pl := by rw [ht27.1]; exact hok00
   have hn0 := ht27.2
   refine s9 ?_
   refine kJ [(2, _), (3, _), (9, _), (10, _), (12, _), (13, _)] ?_
   refine s3 ?_
   refine aDecF ?_ (fun h => h rfl)
   refine s14 ?_
   refine xL (T := Nat × EnM × List Int × Option Addr × Nat) (fun q => q.1 ≤ l.length ∧ EnOk q.2.1.pl ∧ (∀ m, q.2.1.p = some m → ∀ p ∈ m.t.L, p.d.n = p.d.l.length ∧ p.d.l.length ≤ 16) ∧ runE (newE (⟨kf, kt, ks, ke, kp⟩ : Cd) first power) (l.map twP) cs0 = runE q.2.1.pl ((l.map twP).drop q.1) q.2.2.1 ∧ Arr 1 eI w (.slice q.2.2.2.1 q.2.2.1.length q.2.2.2.2) q.2.2.1) (fun q => [(2, .int .i64 power), (9, .pointer (some ⟨b9, 0, none⟩)), (10, .pointer (some ⟨b10, 0, none⟩)), (13, .pointer (some ⟨b27, 0, none⟩)), (38, .slice A l.length cap), (39, .int .i64 (l.length : Nat)), (40, .int .i64 (q.1 : Nat))]) (fun q => [cellB b9 [.slice q.2.2.2.1 q.2.2.1.length q.2.2.2.2] 34, cellB b10 [.int .i64 0, .int .i64 0, .bool false] 78, grpB (endI b27 q.2.1)]) (fun q => l.length - q.1) (0, e0, cs0, cA, cc) ⟨Nat.zero_le _, hok0, hn0, by dsimp only; rw [ht27.1, List.drop_zero], hcs0⟩ ?_
   rintro ⟨k, e, cs, dA, dc⟩ ⟨hk, hok, hn, hrun, hcs⟩
   dsimp only at hk hok hn hrun hcs ⊢
   refine s3 ?_
   refine JL_dec (fun h41 => ?_) (fun h41 => ?_)
   ·refine s9 ?_
    have hlt : k < l.length := by omega
    obtain ⟨bk, qx, rfl, hh⟩ := hA (by intro e; subst e; simp at hlt)
    obtain ⟨⟨⟨xteam, xnn, xlate, xshort, xhow⟩, ⟨xA, xn, xk, xl⟩⟩, hx⟩ : ∃ y, l[k]'hlt = y := ⟨_, rfl⟩
    obtain ⟨hxa, hxn⟩ := hT _ (show (⟨⟨xteam, xnn, xlate, xshort, xhow⟩, ⟨xA, xn, xk, xl⟩⟩ : Tw) ∈ l by rw [← hx]; exact List.getElem_mem _)
    dsimp only at hxa hxn
    subst hxn
    have hrun2 := run_step (E := e.pl) (YS := (l.map twP)) (k := k) (cs := cs) (y := ((⟨xteam, xnn, xlate, xshort, xhow⟩ : Th), xl)) (by rw [List.length_map]; exact hlt) (by rw [List.getElem_map, hx]; rfl)
    rw [← hrun] at hrun2
    dsimp only at hrun2
    refine s2 ?_
    refine aV (vHoldA (cs := [.int .i64 xteam, .int .i64 xnn, .bool xlate, .bool xshort, .int .i64 xhow, .slice xA xl.length xk]) ETw rfl rfl (fun h => h) hh hlt (by rw [hx]; rfl)) ?_
    refine aW oA (fun b15 hb15 => ?_)
    refine s5 ?_
    by_cases hq : thrE e.pl xl (⟨xteam, xnn, xlate, xshort, xhow⟩ : Th) = 0
    ·rw [if_neg (show ¬ (thrE e.pl xl (⟨xteam, xnn, xlate, xshort, xhow⟩ : Th) ≠ 0) from fun h => h hq)] at hrun2
     refine s3 ?_
     refine aW (oL [grpB (endI b27 e)] [cellB b9 [.slice dA cs.length dc] 34, cellB b10 [.int .i64 0, .int .i64 0, .bool false] 78, cellB b15 [.int .i64 xteam, .int .i64 xnn, .bool xlate, .bool xshort, .int .i64 xhow, .slice xA xl.length xk] 26] (fun w hw h0 => Throw_yes b27 e xl (⟨xteam, xnn, xlate, xshort, xhow⟩ : Th) xA xk w h0.startL hok (fun W hW => hxa.up ET (hw.belL (HA := [grpB (endI b27 e)]) (by repeat constructor) rfl hW)) hq)) (fun t47 ht47 => ?_)
     obtain ⟨e1, ⟨jA, jc, jL⟩⟩ := t47
     obtain ⟨hEP1, hO⟩ := ht47
     dsimp only [ocI, Ruv, List.cons_append, List.nil_append] at hEP1 hO ⊢
     have ok1 : EnOk e1.pl := by rw [hEP1.1]; exact thr_ok hok hq
     refine s3 ?_
     refine aW oA (fun b16 hb16 => ?_)
     refine s5 ?_
     refine kJ [(2, _), (9, _), (10, _), (13, _), (17, _), (38, _), (39, _), (40, _)] ?_
     refine s3 ?_
     refine aDecF ?_ (fun h => h rfl)
     refine s6 ?_
     rcases hp : e1.p with _ | pm
     ·refine s2 ?_
      refine aCB (fun w hw => (Pending_any b27 e1 w (EndW.of (hw.ok (grpB (endI b27 e1)) (by repeat constructor)).1.1 ⟨rfl, hEP1.2⟩ ok1) ok1 hEP1.2).mono (fun _ _ h => by unfold RetPe at h; rw [hp] at h; exact h)) ?_
      refine s3 ?_
      refine aW oA (fun b18 hb18 => ?_)
      refine s5 ?_
      refine kJ [(2, _), (9, _), (10, _), (13, _), (19, _), (38, _), (39, _), (40, _)] ?_
      refine s3 ?_
      refine aDecF ?_ (show ¬ (9 : Int) = 0 by decide)
      refine s10 ?_
      have hp1 : (thrN e.pl xl (⟨xteam, xnn, xlate, xshort, xhow⟩ : Th)).p = none := by rw [← hEP1.1]; unfold EnM.pl; rw [hp]; rfl
      rw [if_pos hp1] at hrun2
      exact xR (k + 1, e1, cs, dA, dc) ⟨by dsimp only; omega, ok1, hEP1.2, by dsimp only; rw [hEP1.1]; exact hrun2, hcs⟩ (by dsimp only; omega) (hl := ⟨rfl, rfl, rfl, rfl, rfl, rfl, (congrArg some (by go_num)), trivial⟩)
     ·have hp1 : ¬ (thrN e.pl xl (⟨xteam, xnn, xlate, xshort, xhow⟩ : Th)).p = none := fun h => by
       rw [← hEP1.1] at h
       unfold EnM.pl at h
       rw [hp] at h
       cases h
      have hrun3 := hrun2
      rw [if_neg hp1] at hrun3
      refine s2 ?_
      refine aW (oR (fun w hw => (Pending_any b27 e1 w (EndW.of (hw.ok (grpB (endI b27 e1)) (by repeat constructor)).1.1 ⟨rfl, hEP1.2⟩ ok1) ok1 hEP1.2).mono (fun _ _ h => by unfold RetPe at h; rw [hp] at h; exact h))) (fun t56 ht56 => ?_)
      dsimp only [ocI, Ruv, List.cons_append, List.nil_append]
      refine s3 ?_
      refine aW oA (fun b18 hb18 => ?_)
      refine s5 ?_
      refine kJ [(2, _), (9, _), (10, _), (13, _), (19, _), (38, _), (39, _), (40, _)] ?_
      refine s3 ?_
      refine aDecT ?_ rfl
      refine s4 ?_
      by_cases hch : chsE e1.pl (cs.headD 0) = 0
      ·refine s2 ?_
       refine aW (oM (fun w hw => next_any cs dA dc b9 w (hcs.up EI hw.bel) (fun hne q o h => Nat.ne_of_lt (Nat.lt_of_lt_of_le (arr_lt hcs hne q o h) hb9)) (hw.ok (cellB b9 [.slice dA cs.length dc] 34) (by repeat constructor)).1 (fun q hq => ((hw.ok (cellB b9 [.slice dA cs.length dc] 34) (by repeat constructor)).2 q hq).2))) (fun t62 ht62 => ?_)
       refine aW (oM (fun w hw => (Choose_yes b27 e1 (cs.headD 0) w (hw.stL (HA := [grpB (endI b27 e1)]) (by repeat constructor)) ok1 hEP1.2 hch).mono (fun _ _ h => h.toM))) (fun t63 ht63 => ?_)
       refine s4 ?_
       refine kJ [(2, _), (9, _), (10, _), (13, _), (20, _), (38, _), (39, _), (40, _)] ?_
       refine s3 ?_
       refine aDecF ?_ (fun h => h rfl)
       refine s10 ?_
       rw [if_neg (show ¬ (chsE (thrN e.pl xl (⟨xteam, xnn, xlate, xshort, xhow⟩ : Th)) (cs.headD 0) ≠ 0) from fun h => h (by rw [← hEP1.1]; exact hch))] at hrun3
       exact xR (k + 1, t63, cs.tail, t62.1, t62.2) ⟨by dsimp only; omega, by rw [ht63.1]; exact chs_ok ok1 hch, ht63.2, by dsimp only; rw [ht63.1, hEP1.1]; exact hrun3, by dsimp only; rw [ht62]; exact nx_arr hcs⟩ (by dsimp only; omega) (hl := ⟨rfl, rfl, rfl, rfl, rfl, rfl, (congrArg some (by go_num)), trivial⟩)
      ·refine s2 ?_
       refine aW (oM (fun w hw => next_any cs dA dc b9 w (hcs.up EI hw.bel) (fun hne q o h => Nat.ne_of_lt (Nat.lt_of_lt_of_le (arr_lt hcs hne q o h) hb9)) (hw.ok (cellB b9 [.slice dA cs.length dc] 34) (by repeat constructor)).1 (fun q hq => ((hw.ok (cellB b9 [.slice dA cs.length dc] 34) (by repeat constructor)).2 q hq).2))) (fun t62 ht62 => ?_)
       refine aCB (fun w hw => Choose_no b27 e1 (cs.headD 0) w (EndW.of (hw.ok (grpB (endI b27 e1)) (by repeat constructor)).1.1 ⟨rfl, hEP1.2⟩ ok1) ok1 hch) ?_
       refine s4 ?_
       refine kJ [(2, _), (9, _), (10, _), (13, _), (20, _), (38, _), (39, _), (40, _)] ?_
       refine s3 ?_
       refine aDecT ?_ hch
       refine s4 ?_
       refine kJ [(10, _), (20, _)] ?_
       refine s1 ?_
       refine aP (rp_buildC (fun us => [.int .i64 0, .int .i64 0, .bool false]) rfl rfl (fun w => by kernel_rfl)) ?_
       refine s12 ?_
       refine JR_three rfl (rr_agg (cs := [_, _, _]) rfl Agg.h (Siz.h (k := 3)) (by repeat constructor) (by rfl)) (rr_tmp rfl) (rr_tmp rfl) ?_
       intro w' hw
       rw [if_pos (show chsE (thrN e.pl xl (⟨xteam, xnn, xlate, xshort, xhow⟩ : Th)) (cs.headD 0) ≠ 0 from fun h => hch (by rw [hEP1.1]; exact h))] at hrun3
       rw [hEP1.1] at hch
       exact en_no (en_3 (by rw [List.length_map]; omega) hg hrun3 hch) hch ⟨by rw [hEP1.1], hw.bel⟩
    ·refine s3 ?_
     refine aCB (fun w hw => Throw_no b27 e xl (⟨xteam, xnn, xlate, xshort, xhow⟩ : Th) xA xk w (EndW.of (hw.ok (grpB (endI b27 e)) (by repeat constructor)).1.1 ⟨rfl, hn⟩ hok) hok (hxa.up ET hw.bel) hq) ?_
     refine s3 ?_
     refine aW oA (fun b16 hb16 => ?_)
     refine s5 ?_
     refine kJ [(2, _), (9, _), (10, _), (13, _), (17, _), (38, _), (39, _), (40, _)] ?_
     refine s3 ?_
     refine aDecT ?_ hq
     refine s4 ?_
     refine kJ [(10, _), (17, _)] ?_
     refine s1 ?_
     refine aP (rp_buildC (fun us => [.int .i64 0, .int .i64 0, .bool false]) rfl rfl (fun w => by kernel_rfl)) ?_
     refine s13 ?_
     refine JR_three rfl (rr_agg (cs := [_, _, _]) rfl Agg.h (Siz.h (k := 3)) (by repeat constructor) (by rfl)) (rr_tmp rfl) (rr_tmp rfl) ?_
     intro w' hw
     rw [if_pos hq] at hrun2
     exact en_no (en_3 (by rw [List.length_map]; omega) hg hrun2 hq) hq ⟨rfl, hw.bel⟩
   ·refine s10 ?_
    obtain rfl : k = l.length := by omega
    rw [List.drop_of_length_le (by rw [List.length_map]; exact Nat.le_refl _)] at hrun
    have hen := en_4 (by rw [List.length_map]; omega) hg hrun
    refine kJ [(2, _), (10, _), (13, _)] ?_
    refine s2 ?_
    refine aCB (fun w hw => Score_any b27 e w (EndW.of (hw.ok (grpB (endI b27 e)) (by repeat constructor)).1.1 ⟨rfl, hn⟩ hok) hok) ?_
    refine s11 ?_
    refine kJ [(2, _), (10, _), (12, _), (13, _), (21, _), (22, _)] ?_
    refine s3 ?_
    refine JL_dec (fun h76 => ?_) (fun h76 => ?_)
    ·refine s4 ?_
     refine kJ [(10, _), (12, _)] ?_
     refine s1 ?_
     refine aP (rp_buildC (fun us => [.int .i64 0, .int .i64 0, .bool false]) rfl rfl (fun w => by kernel_rfl)) ?_
     refine s8 ?_
     refine JR_three rfl (rr_agg (cs := [_, _, _]) rfl Agg.h (Siz.h (k := 3)) (by repeat constructor) (by rfl)) (rr_tmp rfl) (rr_tmp rfl) ?_
     intro w' hw
     exact en_no hen.1 h76 ⟨rfl, hw.bel⟩
    ·refine s11 ?_
     refine aP (rp_buildC (fun us => [us.getD 0 undef, us.getD 1 undef, us.getD 2 undef]) rfl rfl (fun w => by kernel_rfl)) ?_
     refine s1 ?_
     refine aS (oS (fun w hw => Position_any b27 e.c.f e.c.t e.c.s e.c.e e.c.p e.fr e.sA e.l e.sk e.tn (pdA e.p) w (EndW.of (hw.ok (grpB (endI b27 e)) (by repeat constructor)).1.1 ⟨rfl, hn⟩ hok).cell (EndW.of (hw.ok (grpB (endI b27 e)) (by repeat constructor)).1.1 ⟨rfl, hn⟩ hok).row (by have := hok.l; dsimp only [EnM.pl] at this; omega))) (fun A85 c85 => ?_)
     refine s6 ?_
     refine JR_three rfl (rr_agg (cs := [_, _, _]) rfl Agg.h (Siz.h (k := 3)) (by repeat constructor) (by rfl)) (rr_tmp rfl) (rr_tmp rfl) ?_
     intro w' hw
     unfold RetEn
     rw [hen.1, hen.2, if_pos (show (scoF e.pl).2.2 = 0 by omega)]
     exact ⟨(A85, c85), trivial, rfl, hw.pick (by repeat constructor)⟩
  ·refine s4 ?_
   refine aCB (fun w hw => (New_any (⟨kf, kt, ks, ke, kp⟩ : Cd) first power w).mono (fun _ _ h => by unfold RetNew at h; rw [if_neg hg] at h; exact h)) ?_
   refine s9 ?_
   refine kJ [(2, _), (3, _), (9, _), (10, _), (12, _), (13, _)] ?_
   refine s3 ?_
   refine aDecT ?_ hg
   refine s4 ?_
   refine kJ [(10, _), (12, _)] ?_
   refine s1 ?_
   refine aP (rp_buildC (fun us => [.int .i64 0, .int .i64 0, .bool false]) rfl rfl (fun w => by kernel_rfl)) ?_
   refine s8 ?_
   refine JR_three rfl (rr_agg (cs := [_, _, _]) rfl Agg.h (Siz.h (k := 3)) (by repeat constructor) (by rfl)) (rr_tmp rfl) (rr_tmp rfl) ?_
   intro w' hw
   exact en_no (en_2 (by rw [List.length_map]; omega) hg) hg ⟨rfl, hw.bel⟩
end Go.Proofs.YtmcpnoailbmkkaaGreatDoor
