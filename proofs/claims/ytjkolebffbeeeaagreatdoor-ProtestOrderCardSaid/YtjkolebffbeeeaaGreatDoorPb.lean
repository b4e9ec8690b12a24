import Derived.Test.YtjkolebffbeeeaaGreatDoorXi
/- Plain law: levels; what holds is closed and is derived. -/
namespace Go.Proofs.YtjkolebffbeeeaaGreatDoor
open Go Go.RowKit Go.Proofs
attribute [local irreducible] J JQ JL JA JD

/-- Levels that fit a book. -/
structure Strat (f : ByteArray → Int) (Bk : List Cl) : Prop where
 pos : ∀ x, 0 ≤ f x
 le : ∀ c ∈ Bk, ∀ x ∈ c.fs.l, f x ≤ f c.th
 lt : ∀ c ∈ Bk, ∀ x ∈ c.us.l, f x + 1 ≤ f c.th
theorem mxF_ge (m : LM) : ∀ (l : List ByteArray) (n : Int), n ≤ mxF m n l ∧ ∀ x ∈ l, gM m x ≤ mxF m n l
 | [], n => ⟨Int.le_refl _, fun _ h => (by cases h)⟩
 | y :: l, n => by
  obtain ⟨h1, h2⟩ := mxF_ge m l (max n (gM m y))
  refine ⟨?_, fun x hx => ?_⟩
  ·show n ≤ mxF m (max n (gM m y)) l; omega
  ·show gM m x ≤ mxF m (max n (gM m y)) l
   rcases List.mem_cons.1 hx with rfl | hx
   ·omega
   ·exact h2 x hx
theorem mxU_ge (m : LM) : ∀ (l : List ByteArray) (n : Int), n ≤ mxU m n l ∧ ∀ x ∈ l, gM m x + 1 ≤ mxU m n l
 | [], n => ⟨Int.le_refl _, fun _ h => (by cases h)⟩
 | y :: l, n => by
  obtain ⟨h1, h2⟩ := mxU_ge m l (max n (gM m y + 1))
  refine ⟨?_, fun x hx => ?_⟩
  ·show n ≤ mxU m (max n (gM m y + 1)) l; omega
  ·show gM m x + 1 ≤ mxU m (max n (gM m y + 1)) l
   rcases List.mem_cons.1 hx with rfl | hx
   ·omega
   ·exact h2 x hx
theorem mxF_lub (m : LM) {v : Int} : ∀ (l : List ByteArray) (n : Int), n ≤ v → (∀ x ∈ l, gM m x ≤ v) → mxF m n l ≤ v
 | [], _, h, _ => h
 | y :: l, n, h, h2 => mxF_lub m l (max n (gM m y)) (by have := h2 y List.mem_cons_self; omega) (fun x hx => h2 x (List.mem_cons_of_mem _ hx))
theorem mxU_lub (m : LM) {v : Int} : ∀ (l : List ByteArray) (n : Int), n ≤ v → (∀ x ∈ l, gM m x + 1 ≤ v) → mxU m n l ≤ v
 | [], _, h, _ => h
 | y :: l, n, h, h2 => mxU_lub m l (max n (gM m y + 1)) (by have := h2 y List.mem_cons_self; omega) (fun x hx => h2 x (List.mem_cons_of_mem _ hx))
theorem lvC_ge (m : LM) (c : Cl) : gM m c.th ≤ lvC m c ∧ (∀ x ∈ c.fs.l, gM m x ≤ lvC m c) ∧ ∀ x ∈ c.us.l, gM m x + 1 ≤ lvC m c := by
 unfold lvC
 obtain ⟨h1, h2⟩ := mxF_ge m c.fs.l (gM m c.th)
 obtain ⟨h3, h4⟩ := mxU_ge m c.us.l (mxF m (gM m c.th) c.fs.l)
 exact ⟨by omega, fun x hx => by have := h2 x hx; omega, h4⟩
/-- A round. -/
theorem rdF_true (N : Int) : ∀ (B : List Cl) (m : LM), ∀ r, rdF N B m true = some r → r.2 = true
 | [], m, r, h => by cases h; rfl
 | c :: B, m, r, h => by
  unfold rdF at h
  split at h
  ·rw [show (if gM m c.th < lvC m c then true else true) = true by split <;> rfl] at h
   exact rdF_true N B _ r h
  ·cases h
theorem rdF_out {N : Int} : ∀ (B : List Cl) (m : LM) (b : Bool) (r : LM × Bool), rdF N B m b = some r → (∀ x, gM m x ≤ gM r.1 x) ∧ (r.2 = false → b = false ∧ r.1 = m ∧ ∀ c ∈ B, lvC m c ≤ gM m c.th)
 | [], m, b, r, h => by cases h; exact ⟨fun _ => Int.le_refl _, fun h => ⟨h, rfl, fun _ h => (by cases h)⟩⟩
 | c :: B, m, b, r, h => by
  unfold rdF at h
  split at h
  ·by_cases hc : gM m c.th < lvC m c
   ·rw [if_pos hc, if_pos hc] at h
    obtain ⟨h1, -⟩ := rdF_out B _ _ r h
    refine ⟨fun x => Int.le_trans ?_ (h1 x), fun hr => ?_⟩
    ·rw [gM_upd]; split
     ·rename_i e; subst e; omega
     ·exact Int.le_refl _
    ·rw [rdF_true N B _ r h] at hr; cases hr
   ·rw [if_neg hc, if_neg hc] at h
    obtain ⟨h1, h2⟩ := rdF_out B _ _ r h
    refine ⟨h1, fun hr => ?_⟩
    obtain ⟨h3, h4, h5⟩ := h2 hr
    refine ⟨h3, h4, fun d hd => ?_⟩
    rcases List.mem_cons.1 hd with rfl | hd
    ·omega
    ·exact h5 d hd
  ·cases h
theorem rdF_mea {N : Int} {B0 : List Cl} : ∀ (B : List Cl) (m : LM) (b : Bool) (r : LM × Bool), (∀ c ∈ B, c ∈ B0) → rdF N B m b = some r → mea N B0 r.1 ≤ mea N B0 m ∧ (b = false → r.2 = true → mea N B0 r.1 < mea N B0 m)
 | [], m, b, r, _, h => by cases h; exact ⟨Nat.le_refl _, fun h1 h2 => by rw [h1] at h2; cases h2⟩
 | c :: B, m, b, r, hB, h => by
  unfold rdF at h
  split at h
  ·rename_i hN
   by_cases hc : gM m c.th < lvC m c
   ·rw [if_pos hc, if_pos hc] at h
    obtain ⟨h1, -⟩ := rdF_mea B _ _ r (fun d hd => hB d (List.mem_cons_of_mem _ hd)) h
    have := mea_upd hc hN B0 ⟨c, hB c List.mem_cons_self, rfl⟩
    exact ⟨by omega, fun _ _ => by omega⟩
   ·rw [if_neg hc, if_neg hc] at h
    exact rdF_mea B _ _ r (fun d hd => hB d (List.mem_cons_of_mem _ hd)) h
  ·cases h
theorem lvF_fix {N : Int} {B : List Cl} : ∀ (k : Nat) (m r : LM), mea N B m < k → lvF N B k m = some r → (∀ x, gM m x ≤ gM r x) ∧ ∀ c ∈ B, lvC r c ≤ gM r c.th
 | 0, _, _, h, _ => absurd h (Nat.not_lt_zero _)
 | k + 1, m, r, h, hr => by
  unfold lvF at hr
  cases hd : rdF N B m false with
  | none => rw [hd] at hr; cases hr
  | some q =>
   obtain ⟨m', b⟩ := q
   rw [hd] at hr; dsimp only at hr
   obtain ⟨h1, h2⟩ := rdF_out B m false _ hd
   obtain ⟨h3, h4⟩ := rdF_mea B m false _ (fun _ h => h) hd
   cases b with
   | true =>
    rw [if_pos rfl] at hr
    obtain ⟨h5, h6⟩ := lvF_fix k m' r (by have h7 := h4 rfl rfl; dsimp only at h7; omega) hr
    exact ⟨fun x => Int.le_trans (h1 x) (h5 x), h6⟩
   | false =>
    rw [if_neg (by decide)] at hr
    cases hr
    obtain ⟨-, h6, h7⟩ := h2 rfl
    dsimp only at h6
    subst h6
    exact ⟨h1, h7⟩
theorem lvl_strat {Bk : List Cl} {lv : LM} (h : lvl Bk = some lv) : Strat (gM lv) Bk := by
 have h0 := mea_0 (Bk.length : Nat) Bk
 obtain ⟨h1, h2⟩ := lvF_fix _ _ _ (by rw [Int.toNat_natCast] at h0; exact Nat.lt_succ_of_le h0) h
 refine ⟨fun x => Int.le_trans (Int.le_refl 0) (h1 x), fun c hc x hx => ?_, fun c hc x hx => ?_⟩
 ·exact Int.le_trans ((lvC_ge lv c).2.1 x hx) (h2 c hc)
 ·exact Int.le_trans ((lvC_ge lv c).2.2 x hx) (h2 c hc)
/-- Levels that fit bound those that are found. -/
theorem rdF_le {f : ByteArray → Int} {N : Int} {B0 : List Cl} (hf : Strat f B0) (hN : ∀ c ∈ B0, f c.th ≤ N) : ∀ (B : List Cl) (m : LM) (b : Bool), (∀ c ∈ B, c ∈ B0) → (∀ x, gM m x ≤ f x) → ∃ r, rdF N B m b = some r ∧ ∀ x, gM r.1 x ≤ f x
 | [], m, b, _, h => ⟨_, rfl, h⟩
 | c :: B, m, b, hB, h => by
  have hc := hB c List.mem_cons_self
  have hle : lvC m c ≤ f c.th := mxU_lub m _ _ (mxF_lub m _ _ (h _) (fun x hx => Int.le_trans (h x) (hf.le c hc x hx))) (fun x hx => by have := h x; have := hf.lt c hc x hx; omega)
  have hlN := hN c hc
  unfold rdF
  rw [if_pos (by omega)]
  refine rdF_le hf hN B _ _ (fun d hd => hB d (List.mem_cons_of_mem _ hd)) (fun x => ?_)
  split
  ·rw [gM_upd]; split
   ·rename_i e; subst e; exact hle
   ·exact h x
  ·exact h x
theorem lvF_le {f : ByteArray → Int} {N : Int} {B : List Cl} (hf : Strat f B) (hN : ∀ c ∈ B, f c.th ≤ N) : ∀ (k : Nat) (m : LM), (∀ x, gM m x ≤ f x) → ∃ r, lvF N B k m = some r ∧ ∀ x, gM r x ≤ f x
 | 0, m, h => ⟨m, rfl, h⟩
 | k + 1, m, h => by
  obtain ⟨⟨m', b⟩, h1, h2⟩ := rdF_le hf hN B m false (fun _ h => h) h
  unfold lvF; rw [h1]
  cases b with
  | true => exact lvF_le hf hN k m' h2
  | false => exact ⟨m', rfl, h2⟩
theorem lvl_some {f : ByteArray → Int} {Bk : List Cl} (hf : Strat f Bk) (hN : ∀ c ∈ Bk, f c.th ≤ (Bk.length : Nat)) : ∃ lv, lvl Bk = some lv := by
 obtain ⟨r, h, -⟩ := lvF_le hf hN (Bk.length * Bk.length + 1) (fun _ => none) (fun x => hf.pos x)
 exact ⟨r, h⟩
/-- Levels made small: as many as there are levels of clauses below. -/
def cmpL (f : ByteArray → Int) (Bk : List Cl) (x : ByteArray) : Int := ((Bk.filter (fun c => decide (0 < f c.th ∧ f c.th ≤ f x))).length : Nat)
theorem filt_leC {p q : Cl → Bool} (h : ∀ j, p j = true → q j = true) : ∀ l : List Cl, (l.filter p).length ≤ (l.filter q).length
 | [] => Nat.le_refl _
 | c :: l => by
  have ih := filt_leC h l
  rw [List.filter_cons, List.filter_cons]
  cases hp : p c with
  | true => rw [if_pos rfl, if_pos (h c hp), List.length_cons, List.length_cons]; omega
  | false => rw [if_neg (by decide)]; split
             ·rw [List.length_cons]; omega
             ·exact ih
theorem filt_ltC {p q : Cl → Bool} (h : ∀ j, p j = true → q j = true) {i : Cl} (h1 : p i = false) (h2 : q i = true) : ∀ l : List Cl, i ∈ l → (l.filter p).length < (l.filter q).length
 | c :: l, hm => by
  have hle := filt_leC h l
  rw [List.filter_cons, List.filter_cons]
  rcases List.mem_cons.1 hm with rfl | hm'
  ·rw [h1, h2, if_neg (by decide), if_pos rfl, List.length_cons]; omega
  ·have ih := filt_ltC h h1 h2 l hm'
   cases hp : p c with
   | true => rw [if_pos rfl, if_pos (h c hp), List.length_cons, List.length_cons]; omega
   | false => rw [if_neg (by decide)]; split
              ·rw [List.length_cons]; omega
              ·exact ih
theorem cmp_strat {f : ByteArray → Int} {Bk : List Cl} (hf : Strat f Bk) : Strat (cmpL f Bk) Bk ∧ ∀ x, cmpL f Bk x ≤ (Bk.length : Nat) := by
 refine ⟨⟨fun x => Int.natCast_nonneg _, fun c hc x hx => ?_, fun c hc x hx => ?_⟩, fun x => Int.ofNat_le.2 (List.length_filter_le _ _)⟩
 ·have h1 := hf.le c hc x hx
  refine Int.ofNat_le.2 (filt_leC (fun d hd => ?_) Bk)
  rw [decide_eq_true_eq] at hd ⊢; omega
 ·have h1 := hf.lt c hc x hx
  have h0 := hf.pos x
  have := filt_ltC (p := fun d => decide (0 < f d.th ∧ f d.th ≤ f x)) (q := fun d => decide (0 < f d.th ∧ f d.th ≤ f c.th)) (fun d hd => by rw [decide_eq_true_eq] at hd ⊢; omega) (i := c) (decide_eq_false (by omega)) (decide_eq_true (by omega)) Bk hc
  unfold cmpL; omega
theorem lvl_top {Bk : List Cl} {lv : LM} (h : lvl Bk = some lv) (x : ByteArray) : gM lv x ≤ (Bk.length : Nat) := by
 obtain ⟨r, h1, h2⟩ := lvF_le (cmp_strat (lvl_strat h)).1 (fun c _ => (cmp_strat (lvl_strat h)).2 c.th) (Bk.length * Bk.length + 1) (fun _ => none) (fun x => (cmp_strat (lvl_strat h)).1.pos x)
 unfold lvl at h
 rw [h1] at h; cases h
 exact Int.le_trans (h2 x) ((cmp_strat (lvl_strat (by unfold lvl; exact h1))).2 x)
theorem Strat.sub {f : ByteArray → Int} {Bk B' : List Cl} (h : Strat f Bk) (hs : ∀ c ∈ B', c ∈ Bk) : Strat f B' := ⟨h.pos, fun c hc => h.le c (hs c hc), fun c hc => h.lt c (hs c hc)⟩
theorem lvl_of_strat {f : ByteArray → Int} {Bk : List Cl} (hf : Strat f Bk) : ∃ lv, lvl Bk = some lv := lvl_some (cmp_strat hf).1 (fun c _ => (cmp_strat hf).2 c.th)
/-- Books with some of the clauses of a sound one, in any order, are sound. -/
theorem fst_none : ∀ {l : List Cl} {k : Nat}, (∀ c ∈ l, clB c = true) → fstBad l k = none
 | [], _, _ => rfl
 | c :: l, k, h => by unfold fstBad; rw [h c List.mem_cons_self, if_pos rfl]; exact fst_none (fun d hd => h d (List.mem_cons_of_mem _ hd))
theorem bnd_sub {Bk B' : List Cl} (hb : bndF Bk = none) (hs : ∀ c ∈ B', c ∈ Bk) (hl : B'.length ≤ Bk.length) : bndF B' = none := by
 have h64 := bnd_64 hb
 have hcl := bnd_cl hb
 obtain ⟨lv, hlv⟩ := bnd_lv hb
 obtain ⟨lv', hlv'⟩ := lvl_of_strat ((lvl_strat hlv).sub hs)
 unfold bndF
 rw [if_neg (by omega), fst_none (fun c hc => hcl c (hs c hc)), hlv']
/-! What holds. -/
theorem rndF_sub (Bk : List Cl) (lv : LM) (n ed : Int) : ∀ (k : Nat) (m : MS), ∀ x ∈ m.S, x ∈ (rndF Bk lv n ed k m).S
 | 0, _, _, h => h
 | k + 1, m, x, h => by
  unfold rndF; split
  ·exact h
  ·exact rndF_sub Bk lv n ed k _ x (mkL_sub Bk _ m x h)
theorem levF_sub (Bk : List Cl) (lv : LM) (ed : Int) (m : MS) (n : Nat) : ∀ x ∈ m.S, x ∈ (levF Bk lv ed m n).S := rndF_sub _ _ _ _ _ _
theorem madF_sub (Bk : List Cl) (lv : LM) (ed : Int) (m : MS) {a : Nat} : ∀ {b : Nat}, a ≤ b → ∀ x ∈ (madF Bk lv ed a m).S, x ∈ (madF Bk lv ed b m).S
 | 0, h, x, hx => by obtain rfl : a = 0 := by omega
                     exact hx
 | b + 1, h, x, hx => by
  by_cases e : a = b + 1
  ·subst e; exact hx
  ·rw [madF_s]; exact levF_sub _ _ _ _ _ x (madF_sub Bk lv ed m (by omega) x hx)
theorem mkC_new {Bk : List Cl} {m : MS} {i : Nat} {x : ByteArray} (h : x ∈ (mkC Bk m i).S) : x ∈ m.S ∨ ∃ c, Bk[i]? = some c ∧ c.th = x := by
 unfold mkC at h
 split at h
 ·exact .inl h
 ·rename_i c hc
  split at h
  ·exact .inl h
  ·rcases List.mem_cons.1 h with rfl | h
   ·exact .inr ⟨c, hc, rfl⟩
   ·exact .inl h
theorem mkL_new {Bk : List Cl} {x : ByteArray} : ∀ (l : List Nat) (m : MS), x ∈ (mkL Bk m l).S → x ∈ m.S ∨ ∃ i ∈ l, ∃ c, Bk[i]? = some c ∧ c.th = x
 | [], _, h => .inl h
 | i :: l, m, h => by
  rcases mkL_new l (mkC Bk m i) h with h | ⟨j, hj, h⟩
  ·rcases mkC_new h with h | h
   ·exact .inl h
   ·exact .inr ⟨i, List.mem_cons_self, h⟩
  ·exact .inr ⟨j, List.mem_cons_of_mem _ hj, h⟩
theorem rndF_new {Bk : List Cl} {lv : LM} {n ed : Int} {x : ByteArray} : ∀ (k : Nat) (m : MS), x ∈ (rndF Bk lv n ed k m).S → x ∈ m.S ∨ gM lv x = n
 | 0, _, h => .inl h
 | k + 1, m, h => by
  unfold rndF at h; split at h
  ·exact .inl h
  ·rcases rndF_new k _ h with h | h
   ·rcases mkL_new _ _ h with h | ⟨i, hi, c, hc, rfl⟩
    ·exact .inl h
    ·obtain ⟨-, c', hc', h1, -⟩ := firL_mem hi
     rw [hc] at hc'; cases hc'
     exact .inr h1
   ·exact .inr h
theorem madF_new {Bk : List Cl} {lv : LM} {ed : Int} {m : MS} {a : Nat} {x : ByteArray} : ∀ {b : Nat}, x ∈ (madF Bk lv ed b m).S → x ∉ (madF Bk lv ed a m).S → (a : Int) ≤ gM lv x
 | 0, h, h2 => absurd (madF_sub Bk lv ed m (Nat.zero_le a) x h) h2
 | b + 1, h, h2 => by
  rw [madF_s] at h
  rcases rndF_new _ _ h with h | h
  ·exact madF_new h h2
  ·rw [h]
   rcases Nat.lt_or_ge b a with hab | hab
   ·exfalso
    refine h2 (madF_sub Bk lv ed m (show b + 1 ≤ a by omega) x ?_)
    rw [madF_s]; assumption
   ·omega
theorem rndF_end {Bk : List Cl} {lv : LM} {n ed : Int} : ∀ (k : Nat) (m : MS), muS Bk m.S < k → firL Bk lv n ed (rndF Bk lv n ed k m).S Bk.length = []
 | 0, _, h => absurd h (Nat.not_lt_zero _)
 | k + 1, m, h => by
  unfold rndF
  split
  ·assumption
  ·rename_i hne
   have := mkL_dec hne
   exact rndF_end k _ (by omega)
theorem firB_of {ed : Int} {S : List ByteArray} {c : Cl} (h1 : firR ed S c = true) (h2 : c.th ∉ S) : firB ed S c = true := by rw [firB_firR, h1, decide_eq_false h2]; rfl
/-- After a level nothing of it fires. -/
theorem lev_end {Bk : List Cl} {lv : LM} {ed : Int} {m : MS} {n : Nat} {c : Cl} (hc : c ∈ Bk) (hn : gM lv c.th = (n : Nat)) (hf : firR ed (levF Bk lv ed m n).S c = true) : c.th ∈ (levF Bk lv ed m n).S := by
 by_cases h : c.th ∈ (levF Bk lv ed m n).S
 ·exact h
 ·exfalso
  have he := rndF_end (lv := lv) (n := (n : Nat)) (ed := ed) (Bk.length + 1) m (Nat.lt_succ_of_le (muS_0 Bk m.S))
  obtain ⟨i, hi, rfl⟩ := List.getElem_of_mem hc
  have : i ∈ firL Bk lv (n : Nat) ed (levF Bk lv ed m n).S Bk.length := by
   unfold firL
   rw [List.mem_filter, List.mem_range]
   refine ⟨hi, ?_⟩
   unfold fiB; rw [List.getElem?_eq_getElem hi]; dsimp only
   rw [hn, decide_eq_true rfl, firB_of hf h]; rfl
  have he' : firL Bk lv (n : Nat) ed (levF Bk lv ed m n).S Bk.length = [] := he
  rw [he'] at this; cases this
theorem firR_iff {ed : Int} {S : List ByteArray} {c : Cl} : firR ed S c = true ↔ (c.f ≤ ed ∧ ed ≤ c.t) ∧ (∀ x ∈ c.fs.l, x ∈ S) ∧ ∀ x ∈ c.us.l, x ∉ S := by
 unfold firR
 simp only [Bool.and_eq_true, List.all_eq_true, decide_eq_true_eq, Bool.not_eq_true', List.any_eq_false]
 constructor
 ·rintro ⟨⟨h1, h2⟩, h3⟩; exact ⟨h3, h1, h2⟩
 ·rintro ⟨h3, h1, h2⟩; exact ⟨⟨h1, h2⟩, h3⟩
section
variable {Bk : List Cl} {ed : Int} {fl0 : List ByteArray}
abbrev M0L (fl0 : List ByteArray) : MS := ⟨fl0.reverse, fun _ => none, []⟩
theorem hld_eq {lv : LM} (hlv : lvl Bk = some lv) : hldM Bk ed fl0 = madF Bk lv ed (Bk.length + 1) (M0L fl0) := by unfold hldM lvOf; rw [hlv]; rfl
theorem lvl_in {lv : LM} (hlv : lvl Bk = some lv) (c : Cl) : ∃ n : Nat, n ≤ Bk.length ∧ gM lv c.th = n := by
 have h0 := (lvl_strat hlv).pos c.th
 have h1 := lvl_top hlv c.th
 exact ⟨(gM lv c.th).toNat, by omega, by omega⟩
/-- What holds is closed. -/
theorem hld_closed (hb : bndF Bk = none) {c : Cl} (hc : c ∈ Bk) (hf : firR ed (hldM Bk ed fl0).S c = true) : c.th ∈ (hldM Bk ed fl0).S := by
 obtain ⟨lv, hlv⟩ := bnd_lv hb
 have hst := lvl_strat hlv
 rw [hld_eq hlv] at hf ⊢
 obtain ⟨n, hn, hg⟩ := lvl_in hlv c
 obtain ⟨h1, h2, h3⟩ := firR_iff.1 hf
 refine madF_sub Bk lv ed _ (show n + 1 ≤ Bk.length + 1 by omega) _ ?_
 rw [madF_s]
 refine lev_end hc hg ?_
 rw [← madF_s]
 refine firR_iff.2 ⟨h1, fun x hx => ?_, fun x hx h => h3 x hx (madF_sub Bk lv ed _ (show n + 1 ≤ Bk.length + 1 by omega) _ h)⟩
 by_cases h : x ∈ (madF Bk lv ed (n + 1) (M0L fl0)).S
 ·exact h
 ·have h4 := madF_new (h2 x hx) h
  have h5 := hst.le c hc x hx
  omega
/-- What is derived, where some facts do not hold. -/
inductive Der (Bk : List Cl) (ed : Int) (fl0 N : List ByteArray) : ByteArray → Prop
 | given (x : ByteArray) : x ∈ fl0 → Der Bk ed fl0 N x
 | step (c : Cl) : c ∈ Bk → (c.f ≤ ed ∧ ed ≤ c.t) → (∀ x ∈ c.fs.l, Der Bk ed fl0 N x) → (∀ x ∈ c.us.l, x ∉ N) → Der Bk ed fl0 N c.th
theorem rnd_der {lv : LM} (hst : Strat (gM lv) Bk) {N : List ByteArray} {n : Nat} (hN : ∀ x ∈ N, x ∉ (madF Bk lv ed n (M0L fl0)).S → (n : Int) ≤ gM lv x) : ∀ (k : Nat) (m : MS), (∀ x ∈ (madF Bk lv ed n (M0L fl0)).S, x ∈ m.S) → (∀ x ∈ m.S, Der Bk ed fl0 N x) → ∀ x ∈ (rndF Bk lv (n : Nat) ed k m).S, Der Bk ed fl0 N x
 | 0, _, _, h => h
 | k + 1, m, hs, h => by
  unfold rndF; split
  ·exact h
  ·refine rnd_der hst hN k _ (fun x hx => mkL_sub Bk _ m x (hs x hx)) (fun x hx => ?_)
   rcases mkL_new _ _ hx with hx | ⟨i, hi, c, hc, rfl⟩
   ·exact h x hx
   ·obtain ⟨-, c', hc', h1, h2⟩ := firL_mem hi
    rw [hc] at hc'; cases hc'
    rw [firB_firR, Bool.and_eq_true] at h2
    obtain ⟨h3, h4, h5⟩ := firR_iff.1 h2.1
    have hcm : c ∈ Bk := List.mem_of_getElem? hc
    refine .step c hcm h3 (fun x hx => h x (h4 x hx)) (fun x hx hxN => ?_)
    have h6 := hN x hxN (fun h => h5 x hx (hs x h))
    have h7 := hst.lt c hcm x hx
    omega
/-- What holds is just what is derived, where what does not hold does not hold. -/
theorem hld_der (hb : bndF Bk = none) (x : ByteArray) : x ∈ (hldM Bk ed fl0).S ↔ Der Bk ed fl0 (hldM Bk ed fl0).S x := by
 constructor
 ·obtain ⟨lv, hlv⟩ := bnd_lv hb
  have hst := lvl_strat hlv
  have key : ∀ k, k ≤ Bk.length + 1 → ∀ x ∈ (madF Bk lv ed k (M0L fl0)).S, Der Bk ed fl0 (madF Bk lv ed (Bk.length + 1) (M0L fl0)).S x := by
   intro k
   induction k with
   | zero => intro _ x hx; exact .given x (List.mem_reverse.1 hx)
   | succ k ih =>
    intro hk
    rw [madF_s]
    exact rnd_der hst (fun x hx hn => madF_new hx hn) _ _ (fun _ h => h) (ih (by omega))
  rw [hld_eq hlv]
  exact key _ (Nat.le_refl _) x
 ·intro h
  induction h with
  | given x hx =>
   obtain ⟨lv, hlv⟩ := bnd_lv hb
   rw [hld_eq hlv]
   exact madF_sub Bk lv ed _ (Nat.zero_le _) x (List.mem_reverse.2 hx)
  | step c hc h1 _ h3 ih => exact hld_closed hb hc (firR_iff.2 ⟨h1, ih, h3⟩)
end
/-- There is one such set alone. -/
theorem der_uniq {f : ByteArray → Int} {Bk : List Cl} {ed : Int} {fl0 S T : List ByteArray} (hf : Strat f Bk) (hS : ∀ x, x ∈ S ↔ Der Bk ed fl0 S x) (hT : ∀ x, x ∈ T ↔ Der Bk ed fl0 T x) (x : ByteArray) : x ∈ S ↔ x ∈ T := by
 have one : ∀ (n : Nat) (S T : List ByteArray), (∀ x, f x < n → (x ∈ S ↔ x ∈ T)) → ∀ x, Der Bk ed fl0 S x → f x ≤ n → Der Bk ed fl0 T x := by
  intro n S T h x hx
  induction hx with
  | given x hx => intro _; exact .given x hx
  | step c hc h1 _ h3 ih =>
   intro hle
   refine .step c hc h1 (fun y hy => ih y hy (Int.le_trans (hf.le c hc y hy) hle)) (fun y hy hyT => h3 y hy ((h y (by have := hf.lt c hc y hy; omega)).2 hyT))
 have key : ∀ (n : Nat) (x : ByteArray), f x < n → (x ∈ S ↔ x ∈ T) := by
  intro n
  induction n with
  | zero => intro x hx; have := hf.pos x; omega
  | succ n ih =>
   intro x hx
   rw [hS, hT]
   exact ⟨fun h => one n S T ih x h (by omega), fun h => one n T S (fun x hx => (ih x hx).symm) x h (by omega)⟩
 have h0 := hf.pos x
 exact key ((f x).toNat + 1) x (by omega)

end Go.Proofs.YtjkolebffbeeeaaGreatDoor

/- Plain law: derivations. -/
namespace Go.Proofs.YtjkolebffbeeeaaGreatDoor
open Go Go.RowKit Go.Proofs
attribute [local irreducible] J JQ JL JA JD

section
variable {Bk : List Cl} {ed : Int} {fl0 : List ByteArray}
/-- What a reason makes hold. -/
def thO (Bk : List Cl) (i : Int) : ByteArray := match Bk[i.toNat]? with | some c => c.th | none => ⟨#[]⟩
/-- What is known by reasons (the last first). -/
def knO (Bk : List Cl) (fl0 : List ByteArray) (P : List Int) : List ByteArray := P.map (thO Bk) ++ fl0.reverse
/-- Reasons (the last first), each by what is known ahead of it. -/
def Tr (Bk : List Cl) (ed : Int) (fl0 : List ByteArray) : List Int → Prop
 | [] => True
 | i :: P => Tr Bk ed fl0 P ∧ ∃ j : Nat, ∃ c, i = j ∧ Bk[j]? = some c ∧ (c.f ≤ ed ∧ ed ≤ c.t) ∧ (∀ x ∈ c.fs.l, x ∈ knO Bk fl0 P) ∧ c.th ∉ knO Bk fl0 P
/-- What a state of the making comes to. -/
structure MI (Bk : List Cl) (ed : Int) (fl0 : List ByteArray) (P : List Int) (m : MS) : Prop where
 o : m.O = P.reverse
 s : m.S = knO Bk fl0 P
 tr : Tr Bk ed fl0 P
 r : ∀ x i, m.R x = some i ↔ i ∈ P ∧ thO Bk i = x
theorem thO_j {j : Nat} {c : Cl} (h : Bk[j]? = some c) : thO Bk (j : Nat) = c.th := by unfold thO; rw [Int.toNat_natCast, h]
theorem fsO_j {j : Nat} {c : Cl} (h : Bk[j]? = some c) : fsOf Bk (j : Nat) = c.fs.l := by unfold fsOf; rw [Int.toNat_natCast, h]
theorem MI.nil : MI Bk ed fl0 [] ⟨fl0.reverse, fun _ => none, []⟩ := ⟨rfl, rfl, trivial, fun x i => ⟨fun h => (by cases h), fun h => (by cases h.1)⟩⟩
theorem MI.mkC {P : List Int} {m : MS} (h : MI Bk ed fl0 P m) {i : Nat} {c : Cl} (hc : Bk[i]? = some c) (h1 : c.f ≤ ed ∧ ed ≤ c.t) (h2 : ∀ x ∈ c.fs.l, x ∈ m.S) : ∃ P', MI Bk ed fl0 P' (mkC Bk m i) := by
 unfold Go.Proofs.YtjkolebffbeeeaaGreatDoor.mkC
 rw [hc]; dsimp only
 split
 ·exact ⟨P, h⟩
 ·rename_i hn
  rw [h.s] at hn h2
  refine ⟨(i : Int) :: P, by rw [List.reverse_cons, h.o], by rw [h.s]; unfold knO; rw [List.map_cons, thO_j hc]; rfl, ⟨h.tr, i, c, rfl, hc, h1, h2, hn⟩, fun x k => ?_⟩
  dsimp only [upd]
  split
  ·rename_i e; subst e
   constructor
   ·intro hk; injection hk with hk; subst hk
    exact ⟨List.mem_cons_self, thO_j hc⟩
   ·rintro ⟨hk, e⟩
    rcases List.mem_cons.1 hk with rfl | hk
    ·rfl
    ·exact absurd (List.mem_append_left _ (List.mem_map.2 ⟨k, hk, e⟩)) hn
  ·rename_i e
   rw [h.r]
   constructor
   ·rintro ⟨hk, e2⟩; exact ⟨List.mem_cons_of_mem _ hk, e2⟩
   ·rintro ⟨hk, e2⟩
    rcases List.mem_cons.1 hk with rfl | hk
    ·rw [thO_j hc] at e2; exact absurd e2.symm e
    ·exact ⟨hk, e2⟩
theorem MI.mkL {S0 : List ByteArray} : ∀ (l : List Nat) {P : List Int} {m : MS}, MI Bk ed fl0 P m → (∀ x ∈ S0, x ∈ m.S) → (∀ i ∈ l, ∃ c, Bk[i]? = some c ∧ firB ed S0 c = true) → ∃ P', MI Bk ed fl0 P' (mkL Bk m l)
 | [], P, m, h, _, _ => ⟨P, h⟩
 | i :: l, P, m, h, hs, hf => by
  obtain ⟨c, hc, h1⟩ := hf i List.mem_cons_self
  rw [firB_firR, Bool.and_eq_true] at h1
  obtain ⟨h3, h4, -⟩ := firR_iff.1 h1.1
  obtain ⟨P', h'⟩ := h.mkC hc h3 (fun x hx => hs x (h4 x hx))
  exact MI.mkL l h' (fun x hx => mkC_sub Bk m i x (hs x hx)) (fun j hj => hf j (List.mem_cons_of_mem _ hj))
theorem MI.rnd {lv : LM} {n : Int} : ∀ (k : Nat) {P : List Int} {m : MS}, MI Bk ed fl0 P m → ∃ P', MI Bk ed fl0 P' (rndF Bk lv n ed k m)
 | 0, P, _, h => ⟨P, h⟩
 | k + 1, P, m, h => by
  unfold rndF; split
  ·exact ⟨P, h⟩
  ·obtain ⟨P', h'⟩ := MI.mkL (S0 := m.S) (firL Bk lv n ed m.S Bk.length) h (fun _ h => h) (fun i hi => by obtain ⟨-, c, hc, -, hf⟩ := firL_mem hi; exact ⟨c, hc, hf⟩)
   exact MI.rnd k h'
theorem hld_MI : ∃ P, MI Bk ed fl0 P (hldM Bk ed fl0) := by
 have key : ∀ k, ∃ P, MI Bk ed fl0 P (madF Bk (lvOf Bk) ed k ⟨fl0.reverse, fun _ => none, []⟩) := by
  intro k
  induction k with
  | zero => exact ⟨[], MI.nil⟩
  | succ k ih =>
   obtain ⟨P, h⟩ := ih
   rw [madF_s]
   exact MI.rnd _ h
 exact key _
/-! Reasons are different, and make different facts hold. -/
theorem Tr.tail {A P : List Int} : Tr Bk ed fl0 (A ++ P) → Tr Bk ed fl0 P := by
 induction A with
 | nil => exact id
 | cons i A ih => exact fun h => ih h.1
theorem knO_app (A P : List Int) : ∀ x, x ∈ knO Bk fl0 P → x ∈ knO Bk fl0 (A ++ P) := fun x h => by
 unfold knO at h ⊢
 rw [List.map_append, List.append_assoc]
 exact List.mem_append_right _ h
theorem knO_mem {P : List Int} {x : ByteArray} : x ∈ knO Bk fl0 P ↔ (∃ i ∈ P, thO Bk i = x) ∨ x ∈ fl0 := by
 unfold knO; rw [List.mem_append, List.mem_map, List.mem_reverse]
theorem Tr.fresh {i : Int} {P : List Int} (h : Tr Bk ed fl0 (i :: P)) : thO Bk i ∉ knO Bk fl0 P := by
 obtain ⟨-, j, c, rfl, hc, -, -, hn⟩ := h
 rw [thO_j hc]; exact hn
theorem Tr.ifs {i : Int} {P : List Int} (h : Tr Bk ed fl0 (i :: P)) : ∀ x ∈ fsOf Bk i, x ∈ knO Bk fl0 P := by
 obtain ⟨-, j, c, rfl, hc, -, h2, -⟩ := h
 rw [fsO_j hc]; exact h2
theorem Tr.inj : ∀ {P : List Int}, Tr Bk ed fl0 P → ∀ {i j : Int}, i ∈ P → j ∈ P → thO Bk i = thO Bk j → i = j
 | k :: P, h, i, j, hi, hj, e => by
  rcases List.mem_cons.1 hi with hi2 | hi2
  ·rcases List.mem_cons.1 hj with hj2 | hj2
   ·rw [hi2, hj2]
   ·exact absurd (knO_mem.2 (.inl ⟨j, hj2, by rw [← e, hi2]⟩)) h.fresh
  ·rcases List.mem_cons.1 hj with hj2 | hj2
   ·exact absurd (knO_mem.2 (.inl ⟨i, hi2, by rw [e, hj2]⟩)) h.fresh
   ·exact Tr.inj h.1 hi2 hj2 e
theorem Tr.nodup : ∀ {P : List Int}, Tr Bk ed fl0 P → P.Nodup
 | [], _ => List.nodup_nil
 | i :: _, h => List.nodup_cons.2 ⟨fun hm => Tr.fresh h (knO_mem.2 (.inl ⟨i, hm, rfl⟩)), Tr.nodup h.1⟩
theorem Tr.nofact : ∀ {P : List Int}, Tr Bk ed fl0 P → ∀ {i : Int}, i ∈ P → thO Bk i ∉ fl0
 | _ :: _, h, i, hi, hf => by
  rcases List.mem_cons.1 hi with rfl | hi
  ·exact h.fresh (knO_mem.2 (.inr hf))
  ·exact Tr.nofact h.1 hi hf
/-! What the program's search finds. -/
theorem wan_foldS (Bk : List Cl) (R : LM) : ∀ (k : Nat) (l : List ByteArray) (W : List Int), ∀ z ∈ W, z ∈ l.foldl (wanF Bk R k) W := by
 have key : ∀ (k : Nat), (∀ (W : List Int) (x : ByteArray), ∀ z ∈ W, z ∈ wanF Bk R k W x) → ∀ (l : List ByteArray) (W : List Int), ∀ z ∈ W, z ∈ l.foldl (wanF Bk R k) W := by
  intro k h l
  induction l with
  | nil => intro W z hz; exact hz
  | cons y l ih => intro W z hz; exact ih _ z (h W y z hz)
 intro k
 refine key k ?_
 induction k with
 | zero => intro W x z hz; exact hz
 | succ k ih =>
  intro W x z hz
  unfold wanF
  split
  ·exact hz
  ·split
   ·exact hz
   ·exact key k ih _ _ z (List.mem_cons_of_mem _ hz)
theorem wan_has {R : LM} {k : Nat} {W : List Int} {x : ByteArray} {i : Int} (hR : RixP Bk R) (hk : 0 < k) (h : R x = some i) : i ∈ wanF Bk R k W x := by
 obtain ⟨k, rfl⟩ : ∃ j, k = j + 1 := ⟨k - 1, by omega⟩
 unfold wanF; rw [h]; dsimp only
 split
 ·assumption
 ·exact (wan_fold hR k _ _).1 i List.mem_cons_self
/-- Where it comes from. -/
theorem wan_from {R : LM} : ∀ (k : Nat) (W : List Int) (x : ByteArray), ∀ i ∈ wanF Bk R k W x, i ∈ W ∨ R x = some i ∨ ∃ j ∈ wanF Bk R k W x, ∃ y ∈ fsOf Bk j, R y = some i
 | 0, W, x, i, h => .inl h
 | k + 1, W, x, i, h => by
  unfold wanF at h ⊢
  cases hx : R x with
  | none => rw [hx] at h; exact .inl h
  | some r =>
   rw [hx] at h
   dsimp only at h ⊢
   split at h
   ·exact .inl h
   ·rename_i hr
    rw [if_neg hr]
    have key : ∀ (l : List ByteArray) (W0 : List Int), (∀ y ∈ l, y ∈ fsOf Bk r) → ∀ (Wf : List Int), (∀ z ∈ l.foldl (wanF Bk R k) W0, z ∈ Wf) → r ∈ Wf → (∀ z ∈ W0, z ∈ r :: W ∨ ∃ j ∈ Wf, ∃ y ∈ fsOf Bk j, R y = some z) → ∀ z ∈ l.foldl (wanF Bk R k) W0, z ∈ r :: W ∨ ∃ j ∈ Wf, ∃ y ∈ fsOf Bk j, R y = some z := by
     intro l
     induction l with
     | nil => intro W0 _ Wf _ _ h; exact h
     | cons y l ih =>
      intro W0 hl Wf hWf hrW h0 z hz
      refine ih (wanF Bk R k W0 y) (fun y hy => hl y (List.mem_cons_of_mem _ hy)) Wf hWf hrW (fun z hz => ?_) z hz
      have hsub : ∀ z ∈ wanF Bk R k W0 y, z ∈ Wf := fun z hz => hWf z (wan_foldS Bk R k l _ z hz)
      rcases wan_from k W0 y z hz with h1 | h1 | ⟨j, hj, y', hy', h1⟩
      ·exact h0 z h1
      ·exact .inr ⟨r, hrW, y, hl y List.mem_cons_self, h1⟩
      ·exact .inr ⟨j, hsub j hj, y', hy', h1⟩
    have hr0 : r ∈ (fsOf Bk r).foldl (wanF Bk R k) (r :: W) := wan_foldS Bk R k _ _ r List.mem_cons_self
    rcases key (fsOf Bk r) (r :: W) (fun _ h => h) _ (fun _ h => h) hr0 (fun z hz => .inl hz) i h with h1 | h1
    ·rcases List.mem_cons.1 h1 with rfl | h1
     ·exact .inr (.inl rfl)
     ·exact .inl h1
    ·exact .inr (.inr h1)
/-- It is closed. -/
theorem wan_cl {R : LM} (hR : RixP Bk R) : ∀ (k : Nat) (W : List Int) (x : ByteArray), muW Bk W < k → ∀ j ∈ wanF Bk R k W x, j ∉ W → ∀ y ∈ fsOf Bk j, ∀ i, R y = some i → i ∈ wanF Bk R k W x
 | 0, _, _, h => absurd h (Nat.not_lt_zero _)
 | k + 1, W, x, hk => by
  unfold wanF
  cases hx : R x with
  | none => intro j hj hn; exact absurd hj hn
  | some r =>
   dsimp only
   split
   ·intro j hj hn; exact absurd hj hn
   ·rename_i hr
    obtain ⟨r', hr', rfl⟩ := hR x r hx
    have hlt := muW_lt hr' hr
    have key : ∀ (l : List ByteArray) (W0 : List Int), muW Bk W0 < k → (∀ y ∈ l, ∀ i, R y = some i → i ∈ l.foldl (wanF Bk R k) W0) ∧ ∀ j ∈ l.foldl (wanF Bk R k) W0, j ∉ W0 → ∀ y ∈ fsOf Bk j, ∀ i, R y = some i → i ∈ l.foldl (wanF Bk R k) W0 := by
     intro l
     induction l with
     | nil => intro W0 _; exact ⟨fun y h => (by cases h), fun j hj hn => absurd hj hn⟩
     | cons y l ih =>
      intro W0 h0
      have hsub := (wan_cnt hR k W0 y).1
      have hmu := muW_le hsub Bk
      obtain ⟨h1, h2⟩ := ih (wanF Bk R k W0 y) (by omega)
      have hs2 := (wan_fold hR k l (wanF Bk R k W0 y)).1
      refine ⟨fun z hz i hi => ?_, fun j hj hn z hz i hi => ?_⟩
      ·rcases List.mem_cons.1 hz with rfl | hz
       ·exact hs2 i (wan_has hR (by omega) hi)
       ·exact h1 z hz i hi
      ·by_cases hj2 : j ∈ wanF Bk R k W0 y
       ·exact hs2 i (wan_cl hR k W0 y h0 j hj2 hn z hz i hi)
       ·exact h2 j hj hj2 z hz i hi
    obtain ⟨h1, h2⟩ := key (fsOf Bk ((r' : Nat) : Int)) (((r' : Nat) : Int) :: W) (by omega)
    intro j hj hn y hy i hi
    by_cases e : j = ((r' : Nat) : Int)
    ·subst e; exact h1 y hy i hi
    ·exact h2 j hj (fun h => by rcases List.mem_cons.1 h with h | h; exact e h; exact hn h) y hy i hi

/-- The reasons that a claim wants. -/
abbrev wanC (Bk : List Cl) (m : MS) (x : ByteArray) : List Int := wanF Bk m.R (Bk.length + 1) [] x
theorem wanC_in {P : List Int} {m : MS} (h : MI Bk ed fl0 P m) (x : ByteArray) {i : Int} (hi : i ∈ wanC Bk m x) : i ∈ P ∧ (thO Bk i = x ∨ ∃ j ∈ wanC Bk m x, thO Bk i ∈ fsOf Bk j) := by
 rcases wan_from _ _ _ i hi with h1 | h1 | ⟨j, hj, y, hy, h1⟩
 ·cases h1
 ·exact ⟨((h.r x i).1 h1).1, .inl ((h.r x i).1 h1).2⟩
 ·obtain ⟨h2, rfl⟩ := (h.r y i).1 h1
  exact ⟨h2, .inr ⟨j, hj, hy⟩⟩
theorem wanC_cl {P : List Int} {m : MS} (h : MI Bk ed fl0 P m) (hR : RixP Bk m.R) (x : ByteArray) {i : Int} (hi : i ∈ P) (hx : thO Bk i = x ∨ ∃ j ∈ wanC Bk m x, thO Bk i ∈ fsOf Bk j) : i ∈ wanC Bk m x := by
 rcases hx with hx | ⟨j, hj, hx⟩
 ·exact wan_has hR (Nat.succ_pos _) ((h.r x i).2 ⟨hi, hx⟩)
 ·exact wan_cl hR _ _ _ (Nat.lt_succ_of_le (muW_0 Bk [])) j hj (fun h => (by cases h)) _ hx i ((h.r _ i).2 ⟨hi, rfl⟩)
/-- Backwards over the reasons one finds the same. -/
theorem why_eq (x : ByteArray) : (bwF Bk x (hldM Bk ed fl0).O).2 = whyP Bk (hldM Bk ed fl0) x := by
 obtain ⟨P, h⟩ := hld_MI (Bk := Bk) (ed := ed) (fl0 := fl0)
 have hR := hld_R Bk ed fl0
 have key : ∀ (Q A : List Int), P = A ++ Q → ∀ (w : List ByteArray) (o : List Int), (∀ y, y ∈ w ↔ y = x ∨ ∃ j ∈ A, j ∈ wanC Bk (hldM Bk ed fl0) x ∧ y ∈ fsOf Bk j) → (Q.foldl (bwC Bk) (w, o)).2 = (Q.filter (fun i => decide (i ∈ wanC Bk (hldM Bk ed fl0) x))).reverse ++ o := by
  intro Q
  induction Q with
  | nil => intro A _ w o _; rfl
  | cons i Q ih =>
   intro A hP w o hw
   have htr : Tr Bk ed fl0 (i :: Q) := Tr.tail (A := A) (by rw [← hP]; exact h.tr)
   have hiP : i ∈ P := by rw [hP]; simp
   obtain ⟨-, j, c, rfl, hc, -, -, -⟩ := id htr
   have hstep : c.th ∈ w ↔ ((j : Nat) : Int) ∈ wanC Bk (hldM Bk ed fl0) x := by
    rw [hw, ← thO_j hc]
    constructor
    ·rintro (h1 | ⟨k, -, hk, h1⟩)
     ·exact wanC_cl h hR x hiP (.inl h1)
     ·exact wanC_cl h hR x hiP (.inr ⟨k, hk, h1⟩)
    ·intro hj
     rcases (wanC_in h x hj).2 with h1 | ⟨k, hk, h1⟩
     ·exact .inl h1
     ·refine .inr ⟨k, ?_, hk, h1⟩
      have hkP := (wanC_in h x hk).1
      rw [hP] at hkP
      rcases List.mem_append.1 hkP with hkA | hkQ
      ·exact hkA
      ·exfalso
       obtain ⟨A', Q', e⟩ := List.append_of_mem hkQ
       have htk : Tr Bk ed fl0 (k :: Q') := Tr.tail (A := A') (by rw [← e]; exact htr)
       rcases knO_mem.1 (htk.ifs _ h1) with ⟨i', hi', e2⟩ | hf
       ·have hi'Q : i' ∈ ((j : Nat) : Int) :: Q := by rw [e]; exact List.mem_append_right _ (List.mem_cons_of_mem _ hi')
        have e3 := Tr.inj htr hi'Q List.mem_cons_self e2
        subst e3
        have hnd := Tr.nodup htr
        cases A' with
        | nil =>
         injection e with e4 e5
         subst e4 e5
         exact (List.nodup_cons.1 hnd).1 hi'
        | cons a A' =>
         injection e with e4 e5
         refine (List.nodup_cons.1 hnd).1 ?_
         rw [e5]; exact List.mem_append_right _ (List.mem_cons_of_mem _ hi')
       ·exact Tr.nofact htr List.mem_cons_self hf
   rw [List.foldl_cons]
   have hb : bwC Bk (w, o) ((j : Nat) : Int) = if c.th ∈ w then (w ++ c.fs.l, [((j : Nat) : Int)] ++ o) else (w, o) := by unfold bwC; rw [Int.toNat_natCast, hc]
   rw [hb]
   by_cases hcw : c.th ∈ w
   ·rw [if_pos hcw, List.filter_cons, if_pos (decide_eq_true (hstep.1 hcw)), List.reverse_cons, List.append_assoc]
    refine ih (A ++ [((j : Nat) : Int)]) (by rw [hP]; simp) _ _ (fun y => ?_)
    rw [List.mem_append, hw]
    constructor
    ·rintro ((h1 | ⟨k, hk, h1⟩) | h1)
     ·exact .inl h1
     ·exact .inr ⟨k, List.mem_append_left _ hk, h1⟩
     ·exact .inr ⟨_, List.mem_append_right _ (List.mem_singleton.2 rfl), hstep.1 hcw, by rw [fsO_j hc]; exact h1⟩
    ·rintro (h1 | ⟨k, hk, h1, h2⟩)
     ·exact .inl (.inl h1)
     ·rcases List.mem_append.1 hk with hk | hk
      ·exact .inl (.inr ⟨k, hk, h1, h2⟩)
      ·rw [List.mem_singleton.1 hk, fsO_j hc] at h2; exact .inr h2
   ·rw [if_neg hcw, List.filter_cons, if_neg (by rw [decide_eq_false (fun h => hcw (hstep.2 h))]; decide)]
    refine ih (A ++ [((j : Nat) : Int)]) (by rw [hP]; simp) _ _ (fun y => ?_)
    rw [hw]
    constructor
    ·rintro (h1 | ⟨k, hk, h1⟩)
     ·exact .inl h1
     ·exact .inr ⟨k, List.mem_append_left _ hk, h1⟩
    ·rintro (h1 | ⟨k, hk, h1, h2⟩)
     ·exact .inl h1
     ·rcases List.mem_append.1 hk with hk | hk
      ·exact .inr ⟨k, hk, h1, h2⟩
      ·rw [List.mem_singleton.1 hk] at h1; exact absurd (hstep.2 h1) hcw
 have := key P [] rfl [x] [] (fun y => by simp)
 unfold whyP whF bwF
 rw [h.o, List.reverse_reverse, this, List.append_nil, List.filter_reverse]
end
end Go.Proofs.YtjkolebffbeeeaaGreatDoor

/- Plain law: proofs; orders of clauses. -/
namespace Go.Proofs.YtjkolebffbeeeaaGreatDoor
open Go Go.RowKit Go.Proofs
attribute [local irreducible] J JQ JL JA JD

section
variable {Bk : List Cl} {ed : Int} {fl0 : List ByteArray}
/-! Each reason fires where all holds that holds at the end. -/
theorem mkC_O2 {p : Int → Prop} {m : MS} {i : Nat} (h : ∀ x ∈ m.O, p x) (hi : p (i : Nat)) : ∀ x ∈ (mkC Bk m i).O, p x := by
 intro x hx
 unfold mkC at hx
 split at hx
 ·exact h x hx
 ·split at hx
  ·exact h x hx
  ·rcases List.mem_append.1 hx with hx | hx
   ·exact h x hx
   ·rw [List.mem_singleton.1 hx]; exact hi
theorem mkL_O2 {p : Int → Prop} : ∀ (l : List Nat) (m : MS), (∀ i ∈ l, p (i : Nat)) → (∀ x ∈ m.O, p x) → ∀ x ∈ (mkL Bk m l).O, p x
 | [], _, _, h => h
 | i :: l, m, hl, h => mkL_O2 l (mkC Bk m i) (fun j hj => hl j (List.mem_cons_of_mem _ hj)) (mkC_O2 h (hl i List.mem_cons_self))
def FirI (Bk : List Cl) (ed : Int) (S : List ByteArray) (i : Int) : Prop := ∃ j : Nat, ∃ c, i = j ∧ Bk[j]? = some c ∧ firR ed S c = true
theorem rnd_fir {lv : LM} (hst : Strat (gM lv) Bk) {N : List ByteArray} {n : Nat} (hN : ∀ x ∈ N, x ∉ (madF Bk lv ed n (M0L fl0)).S → (n : Int) ≤ gM lv x) : ∀ (k : Nat) (m : MS), (∀ x ∈ (madF Bk lv ed n (M0L fl0)).S, x ∈ m.S) → (∀ x ∈ (rndF Bk lv (n : Nat) ed k m).S, x ∈ N) → (∀ i ∈ m.O, FirI Bk ed N i) → ∀ i ∈ (rndF Bk lv (n : Nat) ed k m).O, FirI Bk ed N i
 | 0, _, _, _, h => h
 | k + 1, m, hs, hN2, h => by
  unfold rndF at hN2 ⊢; split
  ·exact h
  ·rename_i hne
   rw [if_neg hne] at hN2
   refine rnd_fir hst hN k _ (fun x hx => mkL_sub Bk _ m x (hs x hx)) hN2 (mkL_O2 _ _ (fun i hi => ?_) h)
   obtain ⟨-, c, hc, h1, h2⟩ := firL_mem hi
   rw [firB_firR, Bool.and_eq_true] at h2
   obtain ⟨h3, h4, h5⟩ := firR_iff.1 h2.1
   have hcm : c ∈ Bk := List.mem_of_getElem? hc
   refine ⟨i, c, rfl, hc, firR_iff.2 ⟨h3, fun x hx => hN2 x (rndF_sub _ _ _ _ _ _ x (mkL_sub Bk _ m x (h4 x hx))), fun x hx hxN => ?_⟩⟩
   have h6 := hN x hxN (fun h => h5 x hx (hs x h))
   have h7 := hst.lt c hcm x hx
   omega
theorem hld_fir (hb : bndF Bk = none) : ∀ i ∈ (hldM Bk ed fl0).O, FirI Bk ed (hldM Bk ed fl0).S i := by
 obtain ⟨lv, hlv⟩ := bnd_lv hb
 have hst := lvl_strat hlv
 have key : ∀ k, k ≤ Bk.length + 1 → ∀ i ∈ (madF Bk lv ed k (M0L fl0)).O, FirI Bk ed (madF Bk lv ed (Bk.length + 1) (M0L fl0)).S i := by
  intro k
  induction k with
  | zero => intro _ i hi; cases hi
  | succ k ih =>
   intro hk
   have hN2 := fun x h => madF_sub Bk lv ed (M0L fl0) hk x h
   rw [madF_s] at hN2 ⊢
   exact rnd_fir hst (fun x hx hn => madF_new hx hn) _ _ (fun _ h => h) hN2 (ih (by omega))
 rw [hld_eq hlv]
 exact key _ (Nat.le_refl _)
/-! Steps that are a proof. -/
def knL (Bk : List Cl) (l : List Int) (K : List ByteArray) : List ByteArray := (l.map (thO Bk)).reverse ++ K
theorem okC_of {S K : List ByteArray} {c : Cl} (h : firR ed S c = true) (hK : ∀ x ∈ c.fs.l, x ∈ K) : okC ed S K c = true := by
 obtain ⟨h1, -, h3⟩ := firR_iff.1 h
 unfold okC
 simp only [Bool.and_eq_true, List.all_eq_true, decide_eq_true_eq, Bool.not_eq_true', decide_eq_false_iff_not]
 exact ⟨⟨h1, hK⟩, h3⟩
theorem okC_ifs {S K : List ByteArray} {c : Cl} (h : okC ed S K c = true) : (c.f ≤ ed ∧ ed ≤ c.t) ∧ (∀ x ∈ c.fs.l, x ∈ K) ∧ ∀ x ∈ c.us.l, x ∉ S := by
 unfold okC at h
 simp only [Bool.and_eq_true, List.all_eq_true, decide_eq_true_eq, Bool.not_eq_true', decide_eq_false_iff_not] at h
 exact ⟨h.1.1, h.1.2, h.2⟩
theorem prv_app {S : List ByteArray} : ∀ (l : List Int) (k : Nat) (K K1 : List ByteArray) (i : Int), (∀ j ∈ l, ∃ n : Nat, n < Bk.length ∧ j = n) → prv Bk ed S l k K = (none, K1) → prv Bk ed S (l ++ [i]) k K = prv Bk ed S [i] (k + l.length) K1
 | [], k, K, K1, i, _, h => by cases h; rfl
 | j :: l, k, K, K1, i, hl, h => by
  obtain ⟨n, hn, rfl⟩ := hl j List.mem_cons_self
  have e : ∀ l', prv Bk ed S (((n : Nat) : Int) :: l') k K = if okC ed S K (Bk[n]'hn) = true then prv Bk ed S l' (k + 1) ((Bk[n]'hn).th :: K) else (some k, K) := fun l' => by
   show (match Bk[((n : Nat) : Int).toNat]? with | none => _ | some c => _) = _
   rw [Int.toNat_natCast, List.getElem?_eq_getElem hn]
  rw [e] at h
  rw [List.cons_append, e]
  split at h
  ·rename_i ho
   rw [if_pos ho, prv_app l (k + 1) _ K1 i (fun j hj => hl j (List.mem_cons_of_mem _ hj)) h, List.length_cons]
   congr 1; omega
  ·cases h
theorem prv_run {S : List ByteArray} : ∀ {P : List Int}, Tr Bk ed fl0 P → (∀ i ∈ P, FirI Bk ed S i) → ∀ (p : Int → Bool), (∀ i ∈ P, p i = true → ∀ y ∈ fsOf Bk i, y ∈ fl0 ∨ ∃ j ∈ P, p j = true ∧ thO Bk j = y) → prv Bk ed S (P.reverse.filter p) 0 fl0.reverse = (none, knL Bk (P.reverse.filter p) fl0.reverse)
 | [], _, _, _, _ => rfl
 | i :: P, h, hf, p, hc => by
  have ih := prv_run h.1 (fun j hj => hf j (List.mem_cons_of_mem _ hj)) p (fun j hj hp y hy => by
   rcases hc j (List.mem_cons_of_mem _ hj) hp y hy with h1 | ⟨r, hr, h2, h3⟩
   ·exact .inl h1
   ·rcases List.mem_cons.1 hr with e | hr
    ·exfalso
     subst e
     obtain ⟨A, B, e⟩ := List.append_of_mem hj
     have h4 : Tr Bk ed fl0 (j :: B) := Tr.tail (A := A) (by rw [← e]; exact h.1)
     refine h.fresh ?_
     rw [h3, e]
     exact knO_app (A ++ [j]) B y (h4.ifs y hy) |> fun h => by rwa [List.append_assoc] at h
    ·exact .inr ⟨r, hr, h2, h3⟩)
  rw [List.reverse_cons, List.filter_append]
  cases hp : p i with
  | false => rw [List.filter_cons, hp, if_neg (by decide), List.filter_nil, List.append_nil]; exact ih
  | true =>
   rw [List.filter_cons, hp, if_pos rfl, List.filter_nil]
   obtain ⟨j, c, rfl, hcj, hfr⟩ := hf i List.mem_cons_self
   have hj : j < Bk.length := (List.getElem?_eq_some_iff.1 hcj).1
   rw [prv_app _ _ _ _ _ (fun r hr => by
    obtain ⟨n, d, e, hd, -⟩ := hf r (List.mem_cons_of_mem _ (List.mem_reverse.1 (List.mem_filter.1 hr).1))
    exact ⟨n, (List.getElem?_eq_some_iff.1 hd).1, e⟩) ih]
   have hok : okC ed S (knL Bk (P.reverse.filter p) fl0.reverse) c = true := okC_of hfr (fun y hy => by
    have hy' : y ∈ fsOf Bk ((j : Nat) : Int) := by rw [fsO_j hcj]; exact hy
    unfold knL
    rw [List.mem_append, List.mem_reverse, List.mem_map, List.mem_reverse]
    rcases hc _ List.mem_cons_self hp y hy' with h1 | ⟨r, hr, h2, h3⟩
    ·exact .inr h1
    ·rcases List.mem_cons.1 hr with e | hr
     ·subst e; exact absurd (by rw [h3]; exact h.ifs y hy') h.fresh
     ·exact .inl ⟨r, List.mem_filter.2 ⟨List.mem_reverse.2 hr, h2⟩, h3⟩)
   show (match Bk[((j : Nat) : Int).toNat]? with | none => _ | some c => if okC ed S _ c = true then _ else _) = _
   rw [Int.toNat_natCast, hcj]; dsimp only
   rw [if_pos hok]
   show (none, c.th :: knL Bk _ _) = _
   unfold knL
   rw [List.map_append, List.reverse_append, List.map_cons, thO_j hcj]
   rfl
theorem prv_inv {S : List ByteArray} : ∀ (l : List Int) (k : Nat) (K K1 : List ByteArray), (∀ j ∈ l, ∃ n : Nat, n < Bk.length ∧ j = n) → prv Bk ed S l k K = (none, K1) → (∀ x, x ∈ K1 ↔ x ∈ K ∨ ∃ j ∈ l, thO Bk j = x) ∧ (∀ j ∈ l, ∀ x ∈ fsOf Bk j, x ∈ K1) ∧ ((∀ x ∈ K, x ∈ S) → (∀ c ∈ Bk, firR ed S c = true → c.th ∈ S) → ∀ x ∈ K1, x ∈ S)
 | [], k, K, K1, _, h => by cases h; exact ⟨fun x => ⟨.inl, fun h => h.elim id (fun ⟨_, h, _⟩ => by cases h)⟩, fun j h => (by cases h), fun h _ => h⟩
 | j :: l, k, K, K1, hl, h => by
  obtain ⟨n, hn, rfl⟩ := hl j List.mem_cons_self
  have hg : Bk[n]? = some (Bk[n]'hn) := List.getElem?_eq_getElem hn
  have e : prv Bk ed S (((n : Nat) : Int) :: l) k K = if okC ed S K (Bk[n]'hn) = true then prv Bk ed S l (k + 1) ((Bk[n]'hn).th :: K) else (some k, K) := by
   show (match Bk[((n : Nat) : Int).toNat]? with | none => _ | some c => _) = _
   rw [Int.toNat_natCast, hg]
  rw [e] at h
  split at h
  ·rename_i ho
   obtain ⟨h1, h2, h3⟩ := prv_inv l (k + 1) _ K1 (fun j hj => hl j (List.mem_cons_of_mem _ hj)) h
   refine ⟨fun x => ?_, fun j hj x hx => ?_, fun hK hcl => h3 (fun x hx => ?_) hcl⟩
   ·rw [h1, List.mem_cons]
    constructor
    ·rintro ((rfl | h4) | ⟨r, hr, h4⟩)
     ·exact .inr ⟨_, List.mem_cons_self, thO_j hg⟩
     ·exact .inl h4
     ·exact .inr ⟨r, List.mem_cons_of_mem _ hr, h4⟩
    ·rintro (h4 | ⟨r, hr, h4⟩)
     ·exact .inl (.inr h4)
     ·rcases List.mem_cons.1 hr with rfl | hr
      ·rw [thO_j hg] at h4; exact .inl (.inl h4.symm)
      ·exact .inr ⟨r, hr, h4⟩
   ·rcases List.mem_cons.1 hj with rfl | hj
    ·rw [fsO_j hg] at hx
     exact (h1 x).2 (.inl (List.mem_cons_of_mem _ ((okC_ifs ho).2.1 x hx)))
    ·exact h2 j hj x hx
   ·obtain ⟨h4, h5, h6⟩ := okC_ifs ho
    rcases List.mem_cons.1 hx with rfl | hx
    ·exact hcl _ (List.getElem_mem _) (firR_iff.2 ⟨h4, fun x hx => hK x (h5 x hx), h6⟩)
    ·exact hK x hx
  ·cases h
/-- The derivation of what holds is a proof of it. -/
theorem why_prv (hb : bndF Bk = none) {x : ByteArray} (hx : x ∈ (hldM Bk ed fl0).S) : ∃ K, prv Bk ed (hldM Bk ed fl0).S (whyP Bk (hldM Bk ed fl0) x) 0 fl0.reverse = (none, K) ∧ x ∈ K := by
 obtain ⟨P, h⟩ := hld_MI (Bk := Bk) (ed := ed) (fl0 := fl0)
 have hR := hld_R Bk ed fl0
 have hf := hld_fir (ed := ed) (fl0 := fl0) hb
 rw [h.o] at hf
 have e : whyP Bk (hldM Bk ed fl0) x = P.reverse.filter (fun i => decide (i ∈ wanC Bk (hldM Bk ed fl0) x)) := by unfold whyP whF; rw [h.o]
 have hcl : ∀ i ∈ P, decide (i ∈ wanC Bk (hldM Bk ed fl0) x) = true → ∀ y ∈ fsOf Bk i, y ∈ fl0 ∨ ∃ j ∈ P, decide (j ∈ wanC Bk (hldM Bk ed fl0) x) = true ∧ thO Bk j = y := by
  intro i hi hp y hy
  obtain ⟨A, B, eP⟩ := List.append_of_mem hi
  have h4 : Tr Bk ed fl0 (i :: B) := Tr.tail (A := A) (by rw [← eP]; exact h.tr)
  rcases knO_mem.1 (h4.ifs y hy) with ⟨j, hj, e2⟩ | h1
  ·have hjP : j ∈ P := by rw [eP]; exact List.mem_append_right _ (List.mem_cons_of_mem _ hj)
   exact .inr ⟨j, hjP, decide_eq_true (wanC_cl h hR x hjP (.inr ⟨i, of_decide_eq_true hp, by rw [e2]; exact hy⟩)), e2⟩
  ·exact .inl h1
 refine ⟨_, by rw [e]; exact prv_run h.tr (fun i hi => hf i (List.mem_reverse.2 hi)) _ hcl, ?_⟩
 ·rw [h.s] at hx
  unfold knL
  rw [List.mem_append, List.mem_reverse, List.mem_map]
  rcases knO_mem.1 hx with ⟨j, hj, e2⟩ | h1
  ·exact .inl ⟨j, List.mem_filter.2 ⟨List.mem_reverse.2 hj, decide_eq_true (wanC_cl h hR x hj (.inl e2))⟩, e2⟩
  ·exact .inr (List.mem_reverse.2 h1)
theorem why_nil {x : ByteArray} (hx : x ∈ (hldM Bk ed fl0).S) : whyP Bk (hldM Bk ed fl0) x = [] ↔ x ∈ fl0 := by
 obtain ⟨P, h⟩ := hld_MI (Bk := Bk) (ed := ed) (fl0 := fl0)
 have hR := hld_R Bk ed fl0
 constructor
 ·intro e
  rw [h.s] at hx
  rcases knO_mem.1 hx with ⟨j, hj, e2⟩ | h1
  ·exfalso
   have : j ∈ whyP Bk (hldM Bk ed fl0) x := List.mem_filter.2 ⟨by rw [h.o]; exact List.mem_reverse.2 hj, decide_eq_true (wanC_cl h hR x hj (.inl e2))⟩
   rw [e] at this; cases this
  ·exact h1
 ·intro hxf
  have hn : (hldM Bk ed fl0).R x = none := by
   cases hr : (hldM Bk ed fl0).R x with
   | none => rfl
   | some i =>
    obtain ⟨h1, rfl⟩ := (h.r x i).1 hr
    exact absurd hxf (Tr.nofact h.tr h1)
  have hw : wanC Bk (hldM Bk ed fl0) x = [] := by unfold wanC wanF; rw [hn]
  unfold whyP whF
  rw [List.filter_eq_nil_iff]
  intro i _ hi
  rw [show wanF Bk (hldM Bk ed fl0).R (Bk.length + 1) [] x = [] from hw] at hi
  simp at hi
/-- No step can be left out. -/
theorem why_min {x : ByteArray} {k : Nat} (hk : k < (whyP Bk (hldM Bk ed fl0) x).length) {S K : List ByteArray} (hp : prv Bk ed S ((whyP Bk (hldM Bk ed fl0) x).take k ++ (whyP Bk (hldM Bk ed fl0) x).drop (k + 1)) 0 fl0.reverse = (none, K)) : x ∉ K := by
 obtain ⟨P, h⟩ := hld_MI (Bk := Bk) (ed := ed) (fl0 := fl0)
 have hR := hld_R Bk ed fl0
 have hst : ∀ i, i ∈ whyP Bk (hldM Bk ed fl0) x ↔ i ∈ wanC Bk (hldM Bk ed fl0) x := fun i => by
  unfold whyP whF
  rw [List.mem_filter, h.o, List.mem_reverse]
  exact ⟨fun h => of_decide_eq_true h.2, fun hi => ⟨(wanC_in h x hi).1, decide_eq_true hi⟩⟩
 have hnd : (whyP Bk (hldM Bk ed fl0) x).Nodup := by
  unfold whyP whF
  rw [h.o]
  exact (List.pairwise_reverse.2 ((Tr.nodup h.tr).imp (fun h e => h e.symm))).filter _
 have hall : ∀ i ∈ whyP Bk (hldM Bk ed fl0) x, ∃ n : Nat, n < Bk.length ∧ i = n := fun i hi => hld_O Bk ed fl0 i (List.mem_filter.1 hi).1
 generalize whyP Bk (hldM Bk ed fl0) x = L at hk hp hst hnd hall
 obtain ⟨i0, hi0⟩ : ∃ i, L[k]'hk = i := ⟨_, rfl⟩
 have hspl : L = L.take k ++ i0 :: L.drop (k + 1) := by rw [← hi0, ← List.drop_eq_getElem_cons hk, List.take_append_drop]
 have hmem : ∀ i, i ∈ L ↔ i ∈ L.take k ++ L.drop (k + 1) ∨ i = i0 := fun i => by
  conv => lhs; rw [hspl]
  rw [List.mem_append, List.mem_cons, List.mem_append]
  constructor
  ·rintro (h | h | h)
   ·exact .inl (.inl h)
   ·exact .inr h
   ·exact .inl (.inr h)
  ·rintro ((h | h) | h)
   ·exact .inl h
   ·exact .inr (.inr h)
   ·exact .inr (.inl h)
 have hni : i0 ∉ L.take k ++ L.drop (k + 1) := fun hm => by
  rw [hspl] at hnd
  obtain ⟨-, h2, h3⟩ := List.nodup_append.1 hnd
  rcases List.mem_append.1 hm with h4 | h4
  ·exact h3 i0 h4 i0 List.mem_cons_self rfl
  ·exact (List.nodup_cons.1 h2).1 h4
 obtain ⟨h1, h2, -⟩ := prv_inv _ _ _ _ (fun j hj => hall j ((hmem j).2 (.inl hj))) hp
 have hi0W : i0 ∈ wanC Bk (hldM Bk ed fl0) x := (hst i0).1 ((hmem i0).2 (.inr rfl))
 obtain ⟨hi0P, hor⟩ := wanC_in h x hi0W
 have hno : thO Bk i0 ∉ K := fun hm => by
  rcases (h1 _).1 hm with h3 | ⟨j, hj, e⟩
  ·exact Tr.nofact h.tr hi0P (List.mem_reverse.1 h3)
  ·have hjP := (wanC_in h x ((hst j).1 ((hmem j).2 (.inl hj)))).1
   have := Tr.inj h.tr hjP hi0P e
   subst this
   exact hni hj
 rcases hor with e | ⟨j, hj, hjf⟩
 ·rw [← e]; exact hno
 ·intro _
  rcases (hmem j).1 ((hst j).2 hj) with hj2 | e
  ·exact hno (h2 j hj2 _ hjf)
  ·subst e
   obtain ⟨A, B, eP⟩ := List.append_of_mem hi0P
   have h4 : Tr Bk ed fl0 (j :: B) := Tr.tail (A := A) (by rw [← eP]; exact h.tr)
   exact h4.fresh (h4.ifs _ hjf)
/-- What steps prove holds. -/
theorem prv_sound (hb : bndF Bk = none) {l : List Int} {K : List ByteArray} (hl : l.all (inB Bk) = true) (h : prv Bk ed (hldM Bk ed fl0).S l 0 fl0.reverse = (none, K)) : ∀ x ∈ K, x ∈ (hldM Bk ed fl0).S := by
 obtain ⟨-, -, h3⟩ := prv_inv _ _ _ _ (fun j hj => in_k hl hj) h
 refine h3 (fun x hx => ?_) (fun c hc hf => hld_closed hb hc hf)
 exact (hld_der hb x).2 (.given x (List.mem_reverse.1 hx))
end
/-! Orders of clauses. -/
theorem Der.mono {Bk B' : List Cl} {ed : Int} {fl0 fl1 N : List ByteArray} (hB : ∀ c ∈ Bk, (c.f ≤ ed ∧ ed ≤ c.t) → c ∈ B') (hf : ∀ x ∈ fl0, x ∈ fl1) {x : ByteArray} (h : Der Bk ed fl0 N x) : Der B' ed fl1 N x := by
 induction h with
 | given x hx => exact .given x (hf x hx)
 | step c hc h1 _ h3 ih => exact .step c (hB c hc h1) h1 ih h3
/-- Clauses in another order, or those alone that stand. -/
theorem hld_same {Bk B' : List Cl} {ed : Int} {fl0 : List ByteArray} (hb : bndF Bk = none) (hb' : bndF B' = none) (h1 : ∀ c ∈ Bk, (c.f ≤ ed ∧ ed ≤ c.t) → c ∈ B') (h2 : ∀ c ∈ B', c ∈ Bk) (x : ByteArray) : x ∈ (hldM B' ed fl0).S ↔ x ∈ (hldM Bk ed fl0).S := by
 obtain ⟨lv, hlv⟩ := bnd_lv hb
 refine der_uniq (f := gM lv) (Bk := Bk) (lvl_strat hlv) (fun x => ?_) (fun x => hld_der hb x) x
 rw [hld_der hb' x]
 exact ⟨Der.mono (fun c hc _ => h2 c hc) (fun _ h => h), Der.mono h1 (fun _ h => h)⟩
/-- Without any Unless more facts make no fewer hold. -/
theorem hld_firm {Bk : List Cl} {ed : Int} {fl0 fl1 : List ByteArray} (hb : bndF Bk = none) (hu : ∀ c ∈ Bk, c.us.l = []) (hf : ∀ x ∈ fl0, x ∈ fl1) (x : ByteArray) (hx : x ∈ (hldM Bk ed fl0).S) : x ∈ (hldM Bk ed fl1).S := by
 have h := (hld_der hb x).1 hx
 clear hx
 induction h with
 | given y hy => exact (hld_der hb y).2 (.given y (hf y hy))
 | step c hc h1 _ _ ih => exact hld_closed hb hc (firR_iff.2 ⟨h1, fun y hy => ih y hy, fun y hy => by rw [hu c hc] at hy; cases hy⟩)

end Go.Proofs.YtjkolebffbeeeaaGreatDoor
