/- RulesEnds: the row: for every input, the law answers true and its input reads as it did. No condition. -/
import Derived.Test.YtomcpgdpjpjioaaGreatPk5
import Derived.ChangeMaps5
/- Plain: what a valid position is; an end keeps its position valid, throw by throw. -/
namespace Go.Proofs.YtomcpgdpjpjioaaGreat
open Go Go.RowKit Go.Proofs
theorem goodF_iff : ∀ (l pre : List St), goodF pre l = true ↔ (∀ s ∈ l, okSt s) ∧ (∀ a ∈ pre, ∀ b ∈ l, nameB a b = false) ∧ l.Pairwise (fun a b => nameB a b = false)
 | [], pre => by simp [goodF]
 | s :: r, pre => by
  unfold goodF
  rw [Bool.and_eq_true, Bool.and_eq_true, goodF_iff r (pre ++ [s]), List.all_eq_true, List.pairwise_cons]
  simp only [decide_eq_true_eq, List.mem_cons, List.mem_append, List.not_mem_nil, or_false, Bool.not_eq_true']
  constructor
  ·rintro ⟨⟨h1, h2⟩, h3, h4, h5⟩
   refine ⟨?_, ?_, fun b hb => h4 s (.inr rfl) b hb, h5⟩
   ·rintro x (rfl | hx)
    ·exact h1
    ·exact h3 x hx
   ·rintro a ha b (rfl | hb)
    ·exact h2 a ha
    ·exact h4 a (.inl ha) b hb
  ·rintro ⟨h1, h2, h3, h4⟩
   refine ⟨⟨h1 s (.inl rfl), fun a ha => h2 a ha s (.inl rfl)⟩, fun x hx => h1 x (.inr hx), ?_, h4⟩
   rintro a (ha | rfl) b hb
   ·exact h2 a ha b (.inr hb)
   ·exact h3 b hb
theorem fidx_neg {α : Type} (p : α → Bool) (l : List α) : fidx p l < 0 ↔ ∀ x ∈ l, p x = false := by
 unfold fidx
 split
 ·rename_i h
  constructor
  ·intro h1; omega
  ·intro h1
   have := List.findIdx_getElem (w := h)
   rw [h1 _ (List.getElem_mem h)] at this; cases this
 ·rename_i h
  constructor
  ·intro _ x hx
   cases e : p x
   ·rfl
   ·exact absurd (List.findIdx_lt_length_of_exists ⟨x, hx, e⟩) h
  ·intro _; omega
theorem pairF_iff {α : Type} (h : α → α → Bool) : ∀ (l : List α) (i : Nat), (pairF h l i).1 < 0 ↔ l.Pairwise (fun a b => h a b = false)
 | [], i => by simp [pairF]
 | a :: l, i => by
  unfold pairF
  rw [List.pairwise_cons, ← fidx_neg]
  split
  ·rename_i h0
   constructor
   ·intro h1; simp only at h1; omega
   ·rintro ⟨h1, -⟩; omega
  ·rename_i h0
   rw [pairF_iff h l (i + 1)]
   exact ⟨fun h1 => ⟨by omega, h1⟩, fun h1 => h1.2⟩
/-- What a valid position is. -/
theorem chk_iff (l : List St) : chkB l = true ↔ l.length ≤ 16 ∧ (∀ s ∈ l, okSt s) ∧ l.Pairwise (fun a b => nameB a b = false) ∧ l.Pairwise (fun a b => ovB a b = false) := by
 unfold chkB
 rw [Bool.and_eq_true, Bool.and_eq_true, decide_eq_true_eq, decide_eq_true_eq, goodF_iff, pairF_iff]
 constructor
 ·rintro ⟨⟨h1, h2, -, h3⟩, h4⟩; exact ⟨h1, h2, h3, h4⟩
 ·rintro ⟨h1, h2, h3, h4⟩; exact ⟨⟨h1, h2, fun a ha => (by cases ha), h3⟩, h4⟩
theorem nameB_comm (a b : St) : nameB a b = nameB b a := by unfold nameB; rw [Bool.eq_iff_iff]; simp only [Bool.and_eq_true, beq_iff_eq]; omega
theorem ovB_comm (a b : St) : ovB a b = ovB b a := by
 unfold ovB
 rw [touZ_comm, Bool.eq_iff_iff]
 simp only [decide_eq_true_eq]
 exact ⟨fun ⟨h1, h2, h3⟩ => ⟨h2, h1, h3⟩, fun ⟨h1, h2, h3⟩ => ⟨h2, h1, h3⟩⟩
theorem chk_perm {l m : List St} (hp : l.Perm m) (h : chkB l = true) : chkB m = true := by
 rw [chk_iff] at h ⊢
 obtain ⟨h1, h2, h3, h4⟩ := h
 refine ⟨by rw [← hp.length_eq]; exact h1, fun s hs => h2 s (hp.mem_iff.2 hs), hp.pairwise h3 (fun {a b} h => by rw [nameB_comm]; exact h), hp.pairwise h4 (fun {a b} h => by rw [ovB_comm]; exact h)⟩
theorem chk_filter {l : List St} (p : St → Bool) (h : chkB l = true) : chkB (l.filter p) = true := by
 rw [chk_iff] at h ⊢
 obtain ⟨h1, h2, h3, h4⟩ := h
 exact ⟨Nat.le_trans (List.length_filter_le _ _) h1, fun s hs => h2 s (List.mem_filter.1 hs).1, h3.filter _, h4.filter _⟩
theorem chk_srt {l : List St} (h : chkB l = true) : chkB (srt l) = true := chk_perm (srt_perm l).symm h
/-! ### An end, throw by throw -/
def plN (c : Cd) : Nat := if c.p = true then 2 else 0
/-- An end behind t throws, with nothing that waits. -/
structure EnI (c : Cd) (fr : Int) (t : Nat) (E : En) : Prop where
 hc : E.c = c
 hfr : E.fr = fr
 hp : E.p = none
 htn : E.tn = (t : Nat)
 chk : chkB E.l = true
 len : E.l.length ≤ t + plN c
 nm : ∀ s ∈ E.l, (s.n = 7 ∧ c.p = true) ∨ ∃ k : Nat, k < t ∧ s.t = (fr + (k : Nat)) % 2 ∧ s.n = ((k : Nat) : Int) / 2
theorem new_two2 (first power : Int) (hf : 0 ≤ first ∧ first ≤ 1) (hp : -1 ≤ power ∧ power ≤ 1) : chkB [(⟨first, 7, power * 72089600, -229376000⟩ : St), ⟨1 - first, 7, power * 72089600, 39976960⟩] = true := by
 have h1 : first = 0 ∨ first = 1 := by omega
 have h2 : power = -1 ∨ power = 0 ∨ power = 1 := by omega
 rcases h1 with rfl | rfl <;> rcases h2 with rfl | rfl | rfl <;> decide +kernel
theorem new_I {c : Cd} {first power : Int} (h : goodR c first power = 0) : EnI c first 0 (newE c first power) := by
 unfold goodR at h
 split at h
 ·rename_i h1
  split at h
  ·rename_i h2
   refine ⟨rfl, rfl, rfl, rfl, ?_, ?_, ?_⟩
   ·unfold newE
    dsimp only
    split
    ·exact chk_srt (new_two2 _ _ h1.2 h2.1)
    ·decide +kernel
   ·unfold newE plN
    dsimp only
    split
    ·rw [srt_len]; exact Nat.le_refl _
    ·exact Nat.le_refl _
   ·intro s hs
    unfold newE at hs
    dsimp only at hs
    split at hs
    ·rename_i h3
     have := (srt_perm _).mem_iff.1 hs
     simp only [List.mem_cons, List.not_mem_nil, or_false] at this
     rcases this with rfl | rfl <;> exact .inl ⟨rfl, h3⟩
    ·cases hs
  ·cases h
 ·cases h
/-- What such an end is told. -/
structure ThX (fr : Int) (t : Nat) (E : En) (x : Th) (m : List St) : Prop where
 team : x.team = (fr + (t : Nat)) % 2
 n : x.n = ((t : Nat) : Int) / 2
 short : x.short = false
 how : x.how = 0 ∨ x.how = 2 ∨ (x.how = 3 ∧ x.late = false)
 chk : chkB m = true
 hm : m = E.l ∨ ∃ px py : Int, m = E.l ++ [⟨x.team, x.n, px, py⟩]
theorem ci_next {c : Cd} {fr : Int} {t : Nat} {E : En} (h : EnI c fr t E) (ht : (t : Int) < 2 * c.e) : nextF E = ((fr + (t : Nat)) % 2, ((t : Nat) : Int) / 2, 0) := by
 unfold nextF
 rw [if_neg, h.hfr, h.htn]
 rintro (h1 | h1)
 ·rw [h.hp] at h1; cases h1
 ·rw [h.htn, h.hc] at h1; omega
theorem ci_over {c : Cd} {fr : Int} {t : Nat} {E : En} (h : EnI c fr t E) (ht : (t : Int) = 2 * c.e) : (nextF E).2.2 = 9 := by
 unfold nextF
 rw [if_pos]
 exact .inr (by rw [h.htn, h.hc]; exact ht)
theorem ci_sco {c : Cd} {fr : Int} {t : Nat} {E : En} (h : EnI c fr t E) : (scoF E).2.2 = if (t : Int) = 2 * c.e then 0 else 9 := by
 unfold scoF
 rw [h.htn, h.hc]
 split
 ·unfold cntF; rw [if_pos h.chk]
 ·rfl
theorem ci_thr {c : Cd} {fr : Int} {t : Nat} {E : En} {x : Th} {m : List St} (hc : ccB c = true) (h : EnI c fr t E) (ht : (t : Int) < 2 * c.e) (hx : ThX fr t E x m) : thrE E m x = 0 := by
 have he : (1 ≤ c.e ∧ c.e ≤ 8) ∧ (c.p = true → c.e ≤ 7) := by
  unfold ccB at hc
  simp only [Bool.and_eq_true, decide_eq_true_eq, Bool.or_eq_true, Bool.not_eq_true'] at hc
  exact ⟨hc.1.2, fun h => hc.2.elim (fun h2 => by rw [h] at h2; cases h2) id⟩
 have hx1 := hx.team
 have hx2 := hx.n
 unfold thrE
 rw [ci_next h ht, if_neg (fun h => h rfl), if_pos]
 refine ⟨hx.team, hx.n, ?_⟩
 have hno : (lookT E.l x.team x.n).isSome = false := by
  rw [lookT_some, List.any_eq_false]
  intro s hs he2
  obtain ⟨e1, e2⟩ := (eqK_iff _ _ _ _).1 he2
  rcases h.nm s hs with ⟨h1, h2⟩ | ⟨k, h1, h2, h3⟩
  ·have := he.2 h2; omega
  ·omega
 have hall : (m.all (fun s => (lookT E.l s.t s.n).isSome || eqK s.t s.n x.team x.n)) = true := by
  rw [List.all_eq_true]
  intro s hs
  have hin : s ∈ E.l → ((lookT E.l s.t s.n).isSome || eqK s.t s.n x.team x.n) = true := fun hs => by
   rw [Bool.or_eq_true, lookT_some, List.any_eq_true]
   exact .inl ⟨s, hs, (eqK_iff _ _ _ _).2 ⟨rfl, rfl⟩⟩
  rcases hx.hm with e | ⟨px, py, e⟩
  ·rw [e] at hs; exact hin hs
  ·rw [e] at hs
   rcases List.mem_append.1 hs with hs | hs
   ·exact hin hs
   ·rw [List.mem_singleton.1 hs, Bool.or_eq_true]
    exact .inr ((eqK_iff _ _ _ _).2 ⟨rfl, rfl⟩)
 unfold thrB thrA
 rw [h.chk, hx.chk, hno, hall, hx.short]
 have h1 : (0 ≤ x.team ∧ x.team ≤ 1) := by omega
 have h2 : (0 ≤ x.n ∧ x.n ≤ 7) := by omega
 have h3 : (0 ≤ x.how ∧ x.how ≤ 4) := by rcases hx.how with h | h | h <;> omega
 rw [decide_eq_true h1, decide_eq_true h2, decide_eq_true h3]
 rfl
theorem outF_again {l m : List St} {x : Th} {r : Int} {y : List St × Bool} (h : y ∈ outF l m x r) (hr : r ≠ 6) : y.2 = decide (r = 4) ∧ (y.2 = true → y.1 = srt l) := by
 unfold outF at h
 repeat' split at h
 all_goals
  have h1 := ddP_mem h
  simp only [List.mem_cons, List.not_mem_nil, or_false] at h1
  rcases h1 with h1 | h1 | h1 <;> (try subst h1) <;> simp_all
theorem rul_how {x : Th} {rm mv sf : Bool} (h2 : x.short = false) (h3 : x.how = 0 ∨ x.how = 2 ∨ (x.how = 3 ∧ x.late = false)) : rulF x rm mv sf ≠ 6 ∧ (rulF x rm mv sf = 4 ↔ x.how = 3) := by
 obtain ⟨team, n, late, short, how⟩ := x
 dsimp only at h2 h3
 subst h2
 unfold rulF
 rcases h3 with rfl | rfl | ⟨rfl, rfl⟩
 ·cases late <;> cases rm <;> cases mv <;> cases sf <;> simp [rulG, askB]
 ·cases late <;> cases rm <;> cases mv <;> cases sf <;> simp [rulG, askB]
 ·cases rm <;> cases mv <;> cases sf <;> simp [rulG, askB]
/-- The outcome of such a throw. -/
theorem ci_out {c : Cd} {fr : Int} {t : Nat} {E : En} {x : Th} {m : List St} (h : EnI c fr t E) (hx : ThX fr t E x m) {y : List St × Bool} (hy : y ∈ outE E m x) : EnI c fr (if x.how = 3 then t else t + 1) (tookE E y) := by
 obtain ⟨r1, r2⟩ := rul_how (rm := remB E.c E.tn x.team m E.l) (mv := movB E.c E.tn x.team m E.l) (sf := decide (E.tn < E.c.s)) hx.short hx.how
 obtain ⟨o1, o2⟩ := outF_again hy r1
 have hag : y.2 = decide (x.how = 3) := by
  rw [o1]
  by_cases e : x.how = 3
  ·rw [decide_eq_true e]; exact decide_eq_true (r2.2 e)
  ·rw [decide_eq_false e]; exact decide_eq_false (fun h => e (r2.1 h))
 have hml : m.length ≤ E.l.length + 1 := by
  rcases hx.hm with e | ⟨px, py, e⟩ <;> rw [e]
  ·omega
  ·rw [List.length_append]; exact Nat.le_refl _
 have hlen := h.len
 have hmm : ∀ s ∈ m, s ∈ E.l ∨ (s.t = x.team ∧ s.n = x.n) := by
  intro s hs
  rcases hx.hm with e | ⟨px, py, e⟩
  ·rw [e] at hs; exact .inl hs
  ·rw [e] at hs
   rcases List.mem_append.1 hs with hs | hs
   ·exact .inl hs
   ·rw [List.mem_singleton.1 hs]; exact .inr ⟨rfl, rfl⟩
 have hy2 : chkB y.1 = true ∧ y.1.length ≤ E.l.length + 1 ∧ ∀ s ∈ y.1, s ∈ E.l ∨ (s.t = x.team ∧ s.n = x.n) := by
  rcases outF_mem hy with e | e | e <;> rw [e]
  ·exact ⟨chk_srt h.chk, by rw [srt_len]; omega, fun s hs => .inl ((srt_perm _).mem_iff.1 hs)⟩
  ·exact ⟨chk_srt hx.chk, by rw [srt_len]; omega, fun s hs => hmm s ((srt_perm _).mem_iff.1 hs)⟩
  ·refine ⟨chk_srt (chk_filter _ hx.chk), ?_, fun s hs => hmm s (List.mem_filter.1 ((srt_perm _).mem_iff.1 hs)).1⟩
   rw [srt_len]
   exact Nat.le_trans (List.length_filter_le _ _) hml
 by_cases e : x.how = 3
 ·rw [if_pos e]
  have hg : y.2 = true := by rw [hag]; exact decide_eq_true e
  have hl := o2 hg
  refine ⟨h.hc, h.hfr, rfl, ?_, by show chkB y.1 = true; exact hy2.1, ?_, ?_⟩
  ·show (if y.2 = true then E.tn else E.tn + 1) = _
   rw [if_pos hg]; exact h.htn
  ·show y.1.length ≤ _
   rw [hl, srt_len]; exact h.len
  ·intro s hs
   have hs2 : s ∈ y.1 := hs
   rw [hl] at hs2
   exact h.nm s ((srt_perm _).mem_iff.1 hs2)
 ·rw [if_neg e]
  have hg : y.2 = false := by rw [hag]; exact decide_eq_false e
  refine ⟨h.hc, h.hfr, rfl, ?_, by show chkB y.1 = true; exact hy2.1, ?_, ?_⟩
  ·show (if y.2 = true then E.tn else E.tn + 1) = _
   rw [hg, if_neg (by decide), h.htn]; rfl
  ·show y.1.length ≤ _
   omega
  ·intro s hs
   rcases hy2.2.2 s hs with h1 | ⟨h1, h2⟩
   ·rcases h.nm s h1 with h3 | ⟨k, h3, h4⟩
    ·exact .inl h3
    ·exact .inr ⟨k, by omega, h4⟩
   ·exact .inr ⟨t, by omega, by rw [h1, hx.team], by rw [h2, hx.n]⟩
/-- Behind the throw: nothing waits, or something is to be chosen. -/
theorem ci_one {c : Cd} {fr : Int} {t : Nat} {E : En} {x : Th} {m : List St} (h : EnI c fr t E) (hx : ThX fr t E x m) (hl : (outE E m x).length ≤ 1) : EnI c fr (if x.how = 3 then t else t + 1) (thrN E m x) := by
 have hp := outF_pos E.l m x (rulE E m x)
 have hl2 : (outE E m x).length = 1 := by
  have : (outF E.l m x (rulE E m x)).length = (outE E m x).length := rfl
  omega
 obtain ⟨q, hq⟩ := List.length_eq_one_iff.1 hl2
 rw [thr_one hq]
 exact ci_out h hx (by rw [hq]; exact List.mem_cons_self)
theorem ci_many {c : Cd} {fr : Int} {t : Nat} {E : En} {x : Th} {m : List St} (h : EnI c fr t E) (hx : ThX fr t E x m) (hl : 1 < (outE E m x).length) : (nextF (thrN E m x)).2.2 = 9 ∧ chsE (thrN E m x) ((outE E m x).length : Nat) = 7 ∧ ∀ i : Int, 0 ≤ i → i < (outE E m x).length → chsE (thrN E m x) i = 0 ∧ EnI c fr (if x.how = 3 then t else t + 1) (chsN (thrN E m x) i) := by
 rw [thr_many (by omega)]
 refine ⟨?_, ?_, fun i h0 h1 => ⟨?_, ?_⟩⟩
 ·unfold nextF; rw [if_pos (.inl rfl)]
 ·unfold chsE; dsimp only; rw [if_neg (by omega)]
 ·unfold chsE; dsimp only; rw [if_pos (by omega)]
 ·have h3 : i.toNat < (outE E m x).length := by omega
  have := ci_out h hx (List.getElem_mem h3)
  unfold chsN
  dsimp only
  rw [List.getD_eq_getElem?_getD, List.getElem?_eq_getElem h3]
  exact ⟨this.hc, this.hfr, this.hp, this.htn, this.chk, this.len, this.nm⟩
end Go.Proofs.YtomcpgdpjpjioaaGreat
/- Layer 7, the law: RulesEnds. -/
namespace Go.Proofs.YtomcpgdpjpjioaaGreat
open Go Go.RowKit Go.Proofs
attribute [local irreducible] J JQ JL JA JD

theorem EnP.none {e : EnM} (h : e.pl.p = none) : EnP e.pl e := ⟨rfl, fun m hm => by unfold EnM.pl at h; rw [hm] at h; cases h⟩
theorem pl_none {e : EnM} (h : e.pl.p = none) : e.p = none := by
 unfold EnM.pl at h
 cases hp : e.p with
 | none => rfl
 | some m => rw [hp] at h; cases h
theorem ci_le {c : Cd} {fr : Int} {t : Nat} {E : En} (h : EnI c fr t E) (hok : EnOk E) : (t : Int) ≤ 2 * c.e := by
 have h1 := hok.tn
 rw [h.htn, h.hc] at h1
 exact h1.2
set_option maxRecDepth 100000 in
set_option maxHeartbeats 4000000 in
theorem Ends_law (c : Cd) (first power : Int) (ul : List Int) (uA : Option Addr) (uc : Nat) (pl : List (Int × Int)) (pA : Option Addr) (pc : Nat) (w : World) (hrU : Arr 1 eU w (.slice uA ul.length uc) ul) (hU : ∀ u ∈ ul, U8 u) (hrP : Arr 2 eP w (.slice pA pl.length pc) pl) : Calls Tryz.prog 3 #[Cdv c, .int .i64 first, .int .i64 power, .slice uA ul.length uc, .slice pA pl.length pc] w (Back (.bool true) w) := by
 obtain ⟨kf, kt, ks, ke, kp⟩ := c
 have hrU0 := hrU
 obtain ⟨A1, cap1, e1, -, ⟨hlu, -⟩, hUA⟩ := hrU
 obtain ⟨rfl, -, rfl⟩ : uA = A1 ∧ True ∧ uc = cap1 := by injection e1 with e1 _ e3; exact ⟨e1, trivial, e3⟩
 clear e1
 have hrP0 := hrP
 obtain ⟨A1, cap1, e1, -, ⟨hlp, -⟩, hPA⟩ := hrP
 obtain ⟨rfl, -, rfl⟩ : pA = A1 ∧ True ∧ pc = cap1 := by injection e1 with e1 _ e3; exact ⟨e1, trivial, e3⟩
 clear e1
 refine J_enter (fun _ => False) (vs := [.agg #[.int .i64 kf, .int .i64 kt, .int .i64 ks, .int .i64 ke, .bool kp], .int .i64 first, .int .i64 power, .slice uA ul.length uc, .slice pA pl.length pc]) (k := 233) (l := [(0, .agg #[.int .i64 kf, .int .i64 kt, .int .i64 ks, .int .i64 ke, .bool kp]), (1, .int .i64 first), (2, .int .i64 power), (3, .slice uA ul.length uc), (4, .slice pA pl.length pc)]) Tryz.func3 rfl rfl Tryz.ntmps3 rfl rfl (Wd.start _) ?_
 refine s2 ?_
 refine aW (oX [_, _, _, _, _]) (fun b5 hb5 => ?_)
 refine s9 ?_
 refine JL_dec (fun h36 => ?_) (fun h36 => ?_)
 ·refine s9 ?_
  refine kJ [] ?_
  refine s1 ?_
  refine aCB (fun w hw => awake_any w) ?_
  refine s5 ?_
  refine JR_one rfl (rr_tmp rfl) ?_
  intro w' hw
  exact ⟨rfl, hw.bel⟩
 ·refine s4 ?_
  refine JL_dec (fun h40 => ?_) (fun h40 => ?_)
  ·refine s5 ?_
   refine kJ [] ?_
   refine s1 ?_
   refine aCB (fun w hw => awake_any w) ?_
   refine s5 ?_
   refine JR_one rfl (rr_tmp rfl) ?_
   intro w' hw
   exact ⟨rfl, hw.bel⟩
  ·refine s7 ?_
   by_cases hg : goodR (⟨kf, kt, ks, ke, kp⟩ : Cd) first power = 0
   ·obtain ⟨hok00, hcc⟩ := new_ok hg
    have hI00 := new_I hg
    have hfr := hok00.fr
    dsimp only [newE] at hfr
    refine kJ [(1, _), (2, _), (3, _), (4, _), (5, _)] ?_
    refine s4 ?_
    refine aW (oR (fun w hw => New_grp (⟨kf, kt, ks, ke, kp⟩ : Cd) first power w hg)) (fun t47 ht47 => ?_)
    obtain ⟨b47, e0⟩ := t47
    obtain ⟨hpl0, -⟩ := ht47
    dsimp only at hpl0 ⊢
    have hI0 : EnI (⟨kf, kt, ks, ke, kp⟩ : Cd) first 0 e0.pl := by rw [hpl0]; exact hI00
    have hok0 : EnOk e0.pl := by rw [hpl0]; exact hok00
    refine s9 ?_
    refine kJ [(1, _), (2, _), (3, _), (4, _), (5, _), (11, _), (12, _)] ?_
    refine s3 ?_
    refine aDecF ?_ (fun h => h rfl)
    refine s2 ?_
    refine aP (pEqlP (by kernel_rfl) rfl rfl) ?_
    refine aBoolF ?_ rfl
    refine s7 ?_
    refine kJ [(1, _), (3, _), (4, _), (5, _), (11, _)] ?_
    refine s11 ?_
    refine xL (T := Nat × Nat × EnM) (fun q => q.1 ≤ ul.length ∧ EnI (⟨kf, kt, ks, ke, kp⟩ : Cd) first q.2.1 q.2.2.pl ∧ EnOk q.2.2.pl) (fun q => [(1, .int .i64 first), (3, .slice uA ul.length uc), (4, .slice pA pl.length pc), (5, .pointer (some ⟨b5, 0, none⟩)), (11, .pointer (some ⟨b47, 0, none⟩)), (13, .int .i64 (q.2.1 : Nat)), (14, .int .i64 (q.1 : Nat))]) (fun q => [cellB b5 [.int .i64 kf, .int .i64 kt, .int .i64 ks, .int .i64 ke, .bool kp] 23, grpB (endI b47 q.2.2)]) (fun q => ul.length - q.1) (0, 0, e0) ⟨Nat.zero_le _, hI0, hok0⟩ ?_
    rintro ⟨i, t, e⟩ ⟨hi, hI, hok⟩
    dsimp only at hi hI hok ⊢
    have hEP : EnP e.pl e := EnP.none hI.hp
    have htle := ci_le hI hok
    have hke := hok.e
    rw [hI.hc] at hke
    have hl16 := hok.l
    dsimp only at htle hke hl16
    refine s7 ?_
    refine JL_dec (fun h67 => ?_) (fun h67 => ?_)
    ·refine s6 ?_
     refine JL_dec (fun h73 => ?_) (fun h73 => ?_)
     ·refine s9 ?_
      have hlt : i < ul.length := by omega
      have hlt2 : ((t : Nat) : Int) < 2 * ((⟨kf, kt, ks, ke, kp⟩ : Cd)).e := by dsimp only; omega
      obtain ⟨bu, qu, rfl, hhu⟩ := hUA (by intro e; subst e; simp at hlt)
      obtain ⟨u, hxu⟩ : ∃ u, ul[i]'hlt = u := ⟨_, rfl⟩
      have hu8 : U8 u := hU u (by rw [← hxu]; exact List.getElem_mem _)
      refine kJ [(1, _), (3, _), (4, _), (5, _), (11, _), (13, _), (14, _)] ?_
      refine s2 ?_
      refine aCB (fun w hw => (Next_any b47 e w (EndW.of (hw.ok (grpB (endI b47 e)) (by repeat constructor)).1.1 hEP hok) hok).mono (fun _ _ h => by rw [ci_next hI hlt2] at h; exact h)) ?_
      refine s11 ?_
      refine kJ [(1, _), (3, _), (4, _), (5, _), (11, _), (13, _), (14, _), (15, _), (16, _), (17, _)] ?_
      refine s3 ?_
      refine aDecF ?_ (fun h => h rfl)
      refine s7 ?_
      refine aDecF ?_ (fun h => h rfl)
      refine s6 ?_
      refine aDecF ?_ (fun h => h rfl)
      refine s3 ?_
      refine aCB (fun w hw => (Thrown_any b47 e.c.f e.c.t e.c.s e.c.e e.c.p true e.fr e.sA e.l.length e.sk e.tn (pdA e.p) w (EndW.of (hw.ok (grpB (endI b47 e)) (by repeat constructor)).1.1 hEP hok).cell).mono (fun _ _ h => by rw [if_pos rfl, show e.tn = (t : Nat) from hI.htn] at h; exact h)) ?_
      refine s2 ?_
      refine aDecF ?_ (fun h => h rfl)
      refine s7 ?_
      refine kJ [(1, _), (3, _), (4, _), (5, _), (11, _), (13, _), (14, _), (15, _), (16, _)] ?_
      refine s4 ?_
      refine aS (oS (fun w hw => (Position_any b47 e.c.f e.c.t e.c.s e.c.e e.c.p e.fr e.sA e.l e.sk e.tn (pdA e.p) w (EndW.of (hw.ok (grpB (endI b47 e)) (by repeat constructor)).1.1 hEP hok).cell (EndW.of (hw.ok (grpB (endI b47 e)) (by repeat constructor)).1.1 hEP hok).row (by have := hok.l; dsimp only [EnM.pl] at this; omega)))) (fun A108 c108 => ?_)
      refine aP (rp_buildC (fun us => [us.getD 0 undef, us.getD 1 undef, .bool false, .bool false, .int .i64 0, us.getD 2 undef]) rfl rfl (fun w => by kernel_rfl)) ?_
      refine aW oA (fun b18 hb18 => ?_)
      refine s3 ?_
      refine xC (T := List St × Option Addr × Nat) (fun q => chkB q.1 = true ∧ (q.1 = e.l ∨ ∃ px py : Int, q.1 = e.l ++ [⟨((first + (t : Nat)) % 2), (((t : Nat) : Int) / 2), px, py⟩])) (fun q => [(1, .int .i64 first), (3, .slice (some ⟨bu, qu, none⟩) ul.length uc), (4, .slice pA pl.length pc), (5, .pointer (some ⟨b5, 0, none⟩)), (11, .pointer (some ⟨b47, 0, none⟩)), (13, .int .i64 (t : Nat)), (14, .int .i64 (i : Nat)), (18, .pointer (some ⟨b18, 0, none⟩))]) (fun q => [cellB b5 [.int .i64 kf, .int .i64 kt, .int .i64 ks, .int .i64 ke, .bool kp] 23, grpB (endI b47 e), cellB b18 [.int .i64 ((first + (t : Nat)) % 2), .int .i64 (((t : Nat) : Int) / 2), .bool false, .bool false, .int .i64 0, .slice q.2.1 q.1.length q.2.2] 38, ownB 43 4 q.2.1 q.1.length q.2.2 (q.1.flatMap eT)]) ?_ ?_
      ·refine s1 ?_
       refine kJ [(1, _), (3, _), (4, _), (5, _), (11, _), (13, _), (14, _), (15, _), (16, _), (18, _)] ?_
       refine s4 ?_
       refine JL_dec (fun h112 => ?_) (fun h112 => ?_)
       ·refine s4 ?_
        obtain ⟨bp, qp, rfl, hhp⟩ := hPA (by intro e; subst e; simp at h112)
        obtain ⟨j, hj, hjm⟩ : ∃ j : Nat, ((i : Nat) : Int) % ((pl.length : Nat) : Int) = ((j : Nat) : Int) ∧ j < pl.length := ⟨i % pl.length, (Int.natCast_emod _ _).symm, Nat.mod_lt _ (by omega)⟩
        obtain ⟨⟨px, py⟩, hxp⟩ : ∃ y, pl[j]'hjm = y := ⟨_, rfl⟩
        refine xDx [1, 2, 4, 5, 6, 7, 8, 9, 10, 11, 12, 13] [] [2, 12] [cellB b18 [.int .i64 ((first + (t : Nat)) % 2), .int .i64 (((t : Nat) : Int) / 2), .bool false, .bool false, .int .i64 0, .slice A108 e.l.length c108] 38] ?_
        refine s9 ?_
        refine dP rfl (pIdxI (j) rfl rfl rfl hj) ?_
        refine dX rfl (vHoldA (cs := [.int .i64 px, .int .i64 py]) EP rfl rfl (fun h => h) hhp hjm (by rw [hxp]; rfl)) ?_
        refine dP rfl (rp_buildC (fun us => [us.getD 0 undef, us.getD 1 undef, us.getD 2 undef]) rfl rfl (fun w => by kernel_rfl)) ?_
        refine dPair (i := 0) (j := 14) (by kernel_rfl) ?_ ?_
        ·refine St1_mk rfl wAny (ow_slice0 (k := 4) (ty := 43) rfl rfl rfl (fun _ => by kernel_rfl)) (by first | exact trivial | exact ⟨by kernel_rfl, .inl (rfl : waitsB _ [] _ = true)⟩ | exact ⟨by kernel_rfl, .inr ⟨rfl, by repeat constructor⟩⟩) (fun b113 hb113 => ?_)
         refine dOA [] ?_
         refine dPair (i := 3) (j := 14) (by kernel_rfl) ?_ ?_
         ·refine St1_mk rfl wAny (oAppG (sl := 35) ET ([] : List St) e.l (fun w hw => own_arr (A := A108) (c := c108) (ty := 43) ET hw (by repeat constructor) (by dsimp only [EnM.pl] at hl16; omega)) rfl (Nat.le_refl _) (hl := by rw [List.length_nil]; dsimp only [EnM.pl] at hl16; omega)) (by first | exact trivial | exact ⟨by kernel_rfl, .inl (rfl : waitsB _ [] _ = true)⟩ | exact ⟨by kernel_rfl, .inr ⟨rfl, by repeat constructor⟩⟩) (fun t116 _ => ?_)
          obtain ⟨g116, c116⟩ := t116
          dsimp only [List.cons_append, List.nil_append]
          first | refine JD_fact (fun hw => ?_) | refine JA_fact (fun hw => ?_)
          obtain ⟨⟨hc116, -⟩, -⟩ := own_cn hw (ty := 43) (k := 4) (A := some ⟨g116, 0, none⟩) (m := e.l.length) (c := c116) (xs := e.l.flatMap eT) (by repeat constructor)
          clear hw
          refine dOA [14, 15, 16] ?_
          refine dW rfl (ow_sliceC (vs := [_, _, _, _]) (ty := 43) rfl rfl (by rfl) rfl rfl (fun _ => by kernel_rfl)) (fun b127 hb127 => ?_)
          refine dW rfl (oAppG (sl := 35) ET e.l [⟨((first + (t : Nat)) % 2), (((t : Nat) : Int) / 2), px, py⟩] (fun w hw => cell_arr ET [⟨((first + (t : Nat)) % 2), (((t : Nat) : Int) / 2), px, py⟩] (hw.ok (cellB b127 [.int .i64 ((first + (t : Nat)) % 2), .int .i64 (((t : Nat) : Int) / 2), .int .i64 px, .int .i64 py] 43) (by repeat constructor)).1 rfl (Nat.le_of_ble_eq_true rfl)) rfl hc116 (hl := by rw [List.length_singleton]; dsimp only [EnM.pl] at hl16; omega)) (fun t128 _ => ?_)
          obtain ⟨g128, c128⟩ := t128
          dsimp only [List.cons_append, List.nil_append]
          obtain ⟨m9, hm9⟩ : ∃ m9, m9 = e.l ++ [⟨((first + (t : Nat)) % 2), (((t : Nat) : Int) / 2), px, py⟩] := ⟨_, rfl⟩
          rw [← hm9]
          have hl9 : m9.length = e.l.length + 1 := by rw [hm9, List.length_append]; rfl
          refine s4 ?_
          refine kJ [(1, _), (3, _), (4, _), (5, _), (11, _), (13, _), (14, _), (18, _), (19, _)] ?_
          refine s2 ?_
          refine aCB (fun w hw => refCheck m9 _ w (own_arr (A := some ⟨g128, 0, none⟩) (c := c128) (ty := 43) ET hw (by repeat constructor) (by dsimp only [EnM.pl] at hl16; omega))) ?_
          refine JL_bool (fun h130 => ?_) (fun h130 => ?_)
          ·refine s8 ?_
           exact xE (m9, some ⟨g128, 0, none⟩, c128) ⟨h130, .inr ⟨px, py, hm9⟩⟩
          ·refine s4 ?_
           exact xE (e.l, A108, c108) ⟨hI.chk, .inl rfl⟩
         ·refine St1_mk rfl wAny (ow_sliceC (vs := [_, _, _, _]) (ty := 43) rfl rfl (by rfl) rfl rfl (fun _ => by kernel_rfl)) (by first | exact trivial | exact ⟨by kernel_rfl, .inl (rfl : waitsB _ [] _ = true)⟩ | exact ⟨by kernel_rfl, .inr ⟨rfl, by repeat constructor⟩⟩) (fun b127 hb127 => ?_)
          refine dOA [3, 15, 16] ?_
          refine dW rfl (oAppG (sl := 35) ET ([] : List St) e.l (fun w hw => own_arr (A := A108) (c := c108) (ty := 43) ET hw (by repeat constructor) (by dsimp only [EnM.pl] at hl16; omega)) rfl (Nat.le_refl _) (hl := by rw [List.length_nil]; dsimp only [EnM.pl] at hl16; omega)) (fun t116 _ => ?_)
          obtain ⟨g116, c116⟩ := t116
          dsimp only [List.cons_append, List.nil_append]
          first | refine JD_fact (fun hw => ?_) | refine JA_fact (fun hw => ?_)
          obtain ⟨⟨hc116, -⟩, -⟩ := own_cn hw (ty := 43) (k := 4) (A := some ⟨g116, 0, none⟩) (m := e.l.length) (c := c116) (xs := e.l.flatMap eT) (by repeat constructor)
          clear hw
          refine dW rfl (oAppG (sl := 35) ET e.l [⟨((first + (t : Nat)) % 2), (((t : Nat) : Int) / 2), px, py⟩] (fun w hw => cell_arr ET [⟨((first + (t : Nat)) % 2), (((t : Nat) : Int) / 2), px, py⟩] (hw.ok (cellB b127 [.int .i64 ((first + (t : Nat)) % 2), .int .i64 (((t : Nat) : Int) / 2), .int .i64 px, .int .i64 py] 43) (by repeat constructor)).1 rfl (Nat.le_of_ble_eq_true rfl)) rfl hc116 (hl := by rw [List.length_singleton]; dsimp only [EnM.pl] at hl16; omega)) (fun t128 _ => ?_)
          obtain ⟨g128, c128⟩ := t128
          dsimp only [List.cons_append, List.nil_append]
          obtain ⟨m9, hm9⟩ : ∃ m9, m9 = e.l ++ [⟨((first + (t : Nat)) % 2), (((t : Nat) : Int) / 2), px, py⟩] := ⟨_, rfl⟩
          rw [← hm9]
          have hl9 : m9.length = e.l.length + 1 := by rw [hm9, List.length_append]; rfl
          refine s4 ?_
          refine kJ [(1, _), (3, _), (4, _), (5, _), (11, _), (13, _), (14, _), (18, _), (19, _)] ?_
          refine s2 ?_
          refine aCB (fun w hw => refCheck m9 _ w (own_arr (A := some ⟨g128, 0, none⟩) (c := c128) (ty := 43) ET hw (by repeat constructor) (by dsimp only [EnM.pl] at hl16; omega))) ?_
          refine JL_bool (fun h130 => ?_) (fun h130 => ?_)
          ·refine s8 ?_
           exact xE (m9, some ⟨g128, 0, none⟩, c128) ⟨h130, .inr ⟨px, py, hm9⟩⟩
          ·refine s4 ?_
           exact xE (e.l, A108, c108) ⟨hI.chk, .inl rfl⟩
        ·refine St1_mk rfl wAny (ow_sliceC (vs := [_, _, _, _]) (ty := 43) rfl rfl (by rfl) rfl rfl (fun _ => by kernel_rfl)) (by first | exact trivial | exact ⟨by kernel_rfl, .inl (rfl : waitsB _ [] _ = true)⟩ | exact ⟨by kernel_rfl, .inr ⟨rfl, by repeat constructor⟩⟩) (fun b127 hb127 => ?_)
         refine dOA [0, 3, 15, 16] ?_
         refine dW rfl (ow_slice0 (k := 4) (ty := 43) rfl rfl rfl (fun _ => by kernel_rfl)) (fun b113 hb113 => ?_)
         refine dW rfl (oAppG (sl := 35) ET ([] : List St) e.l (fun w hw => own_arr (A := A108) (c := c108) (ty := 43) ET hw (by repeat constructor) (by dsimp only [EnM.pl] at hl16; omega)) rfl (Nat.le_refl _) (hl := by rw [List.length_nil]; dsimp only [EnM.pl] at hl16; omega)) (fun t116 _ => ?_)
         obtain ⟨g116, c116⟩ := t116
         dsimp only [List.cons_append, List.nil_append]
         first | refine JD_fact (fun hw => ?_) | refine JA_fact (fun hw => ?_)
         obtain ⟨⟨hc116, -⟩, -⟩ := own_cn hw (ty := 43) (k := 4) (A := some ⟨g116, 0, none⟩) (m := e.l.length) (c := c116) (xs := e.l.flatMap eT) (by repeat constructor)
         clear hw
         refine dW rfl (oAppG (sl := 35) ET e.l [⟨((first + (t : Nat)) % 2), (((t : Nat) : Int) / 2), px, py⟩] (fun w hw => cell_arr ET [⟨((first + (t : Nat)) % 2), (((t : Nat) : Int) / 2), px, py⟩] (hw.ok (cellB b127 [.int .i64 ((first + (t : Nat)) % 2), .int .i64 (((t : Nat) : Int) / 2), .int .i64 px, .int .i64 py] 43) (by repeat constructor)).1 rfl (Nat.le_of_ble_eq_true rfl)) rfl hc116 (hl := by rw [List.length_singleton]; dsimp only [EnM.pl] at hl16; omega)) (fun t128 _ => ?_)
         obtain ⟨g128, c128⟩ := t128
         dsimp only [List.cons_append, List.nil_append]
         obtain ⟨m9, hm9⟩ : ∃ m9, m9 = e.l ++ [⟨((first + (t : Nat)) % 2), (((t : Nat) : Int) / 2), px, py⟩] := ⟨_, rfl⟩
         rw [← hm9]
         have hl9 : m9.length = e.l.length + 1 := by rw [hm9, List.length_append]; rfl
         refine s4 ?_
         refine kJ [(1, _), (3, _), (4, _), (5, _), (11, _), (13, _), (14, _), (18, _), (19, _)] ?_
         refine s2 ?_
         refine aCB (fun w hw => refCheck m9 _ w (own_arr (A := some ⟨g128, 0, none⟩) (c := c128) (ty := 43) ET hw (by repeat constructor) (by dsimp only [EnM.pl] at hl16; omega))) ?_
         refine JL_bool (fun h130 => ?_) (fun h130 => ?_)
         ·refine s8 ?_
          exact xE (m9, some ⟨g128, 0, none⟩, c128) ⟨h130, .inr ⟨px, py, hm9⟩⟩
         ·refine s4 ?_
          exact xE (e.l, A108, c108) ⟨hI.chk, .inl rfl⟩
       ·refine s4 ?_
        exact xE (e.l, A108, c108) ⟨hI.chk, .inl rfl⟩
      ·rintro ⟨m, mA, mk⟩ ⟨hmc, hme⟩
       dsimp only at hmc hme ⊢
       refine s5 ?_
       refine xC (T := Bool × Int) (fun q => (q.2 = 0 ∨ q.2 = 2 ∨ (q.2 = 3 ∧ q.1 = false))) (fun q => [(1, .int .i64 first), (3, .slice (some ⟨bu, qu, none⟩) ul.length uc), (4, .slice pA pl.length pc), (5, .pointer (some ⟨b5, 0, none⟩)), (11, .pointer (some ⟨b47, 0, none⟩)), (13, .int .i64 (t : Nat)), (14, .int .i64 (i : Nat)), (18, .pointer (some ⟨b18, 0, none⟩)), (20, .bool (decide (q.2 = 3)))]) (fun q => [cellB b5 [.int .i64 kf, .int .i64 kt, .int .i64 ks, .int .i64 ke, .bool kp] 23, grpB (endI b47 e), cellB b18 [.int .i64 ((first + (t : Nat)) % 2), .int .i64 (((t : Nat) : Int) / 2), .bool q.1, .bool false, .int .i64 q.2, .slice mA m.length mk] 38, ownB 43 4 mA m.length mk (m.flatMap eT)]) ?_ ?_
       ·refine s5 ?_
        refine aV (vHold (v := .int .u8 u) rfl rfl (fun h => h) hhu hlt (by omega) (by rw [hxu]; rfl)) ?_
        refine aP (pRem8 rfl rfl rfl hu8 (by decide)) ?_
        refine s4 ?_
        refine kJ [(1, _), (3, _), (4, _), (5, _), (11, _), (13, _), (14, _), (18, _), (20, _), (137, _)] ?_
        refine s1 ?_
        refine aP (pEqlK rfl rfl rfl) ?_
        refine JL_dec (fun h139 => ?_) (fun h139 => ?_)
        ·refine s9 ?_
         exact xE (true, 0) (.inl rfl)
        ·refine s6 ?_
         refine aP (pEqlK rfl rfl rfl) ?_
         refine JL_dec (fun h142 => ?_) (fun h142 => ?_)
         ·refine s4 ?_
          refine kJ [(1, _), (3, _), (4, _), (5, _), (11, _), (13, _), (14, _), (18, _)] ?_
          refine s6 ?_
          exact xE (false, 3) (.inr (.inr ⟨rfl, rfl⟩))
         ·refine s5 ?_
          refine kJ [(1, _), (3, _), (4, _), (5, _), (11, _), (13, _), (14, _), (18, _), (20, _), (137, _)] ?_
          refine s1 ?_
          refine aP (pEqlK rfl rfl rfl) ?_
          refine JL_dec (fun h145 => ?_) (fun h145 => ?_)
          ·refine s9 ?_
           exact xE (false, 2) (.inr (.inl rfl))
          ·refine s6 ?_
           exact xE (false, 0) (.inl rfl)
       ·rintro ⟨xl, xh⟩ hxh
        dsimp only at hxh ⊢
        have hX : ThX first t e.pl (⟨((first + (t : Nat)) % 2), (((t : Nat) : Int) / 2), xl, false, xh⟩ : Th) m := ⟨rfl, rfl, rfl, hxh, hmc, hme⟩
        refine s4 ?_
        refine aW (oL [grpB (endI b47 e)] [cellB b5 [.int .i64 kf, .int .i64 kt, .int .i64 ks, .int .i64 ke, .bool kp] 23, cellB b18 [.int .i64 ((first + (t : Nat)) % 2), .int .i64 (((t : Nat) : Int) / 2), .bool xl, .bool false, .int .i64 xh, .slice mA m.length mk] 38, ownB 43 4 mA m.length mk (m.flatMap eT)] (fun w hw h0 => Throw_yes b47 e m (⟨((first + (t : Nat)) % 2), (((t : Nat) : Int) / 2), xl, false, xh⟩ : Th) mA mk w h0.startL hok (fun W hW => Arr.of_own ET (hw.keepL (HA := [grpB (endI b47 e)]) (C := ownB 43 4 mA m.length mk (m.flatMap eT)) hW (by repeat constructor) rfl) (by have := (chk_facts hX.chk).1; omega)) (ci_thr hcc hI hlt2 hX))) (fun t150 ht150 => ?_)
        obtain ⟨e1, ⟨jA, jc, jL⟩⟩ := t150
        obtain ⟨hEP1, hO⟩ := ht150
        dsimp only [ocI, Ruv, List.cons_append, List.nil_append] at hEP1 hO ⊢
        have hEP1b := hEP1.1
        have ok1 : EnOk e1.pl := by rw [hEP1b]; exact thr_ok hok (ci_thr hcc hI hlt2 hX)
        have hol : jL.length = (outE e.pl m (⟨((first + (t : Nat)) % 2), (((t : Nat) : Int) / 2), xl, false, xh⟩ : Th)).length := by rw [← hO.1, List.length_map]
        have hl3 : jL.length ≤ 3 := by rw [hol]; exact outF_len _ _ _ _
        refine s3 ?_
        refine aW oA (fun b21 hb21 => ?_)
        refine s6 ?_
        refine kJ [(1, _), (3, _), (4, _), (5, _), (11, _), (13, _), (14, _), (20, _), (21, _), (22, _)] ?_
        refine s3 ?_
        refine aDecF ?_ (fun h => h rfl)
        refine s5 ?_
        refine xC (T := EnM) (fun q => EnI (⟨kf, kt, ks, ke, kp⟩ : Cd) first (if xh = 3 then t else t + 1) q.pl ∧ EnOk q.pl) (fun q => [(1, .int .i64 first), (3, .slice (some ⟨bu, qu, none⟩) ul.length uc), (4, .slice pA pl.length pc), (5, .pointer (some ⟨b5, 0, none⟩)), (11, .pointer (some ⟨b47, 0, none⟩)), (13, .int .i64 (t : Nat)), (14, .int .i64 (i : Nat)), (20, .bool (decide (xh = 3)))]) (fun q => [cellB b5 [.int .i64 kf, .int .i64 kt, .int .i64 ks, .int .i64 ke, .bool kp] 23, grpB (endI b47 q)]) ?_ ?_
        ·refine s6 ?_
         refine JL_dec (fun h158 => ?_) (fun h158 => ?_)
         ·refine s4 ?_
          obtain ⟨hm9, hm7, hm0⟩ := ci_many hI hX (by rw [← hol]; omega)
          rw [← hEP1b] at hm9 hm7 hm0
          rw [← hol] at hm7 hm0
          have hEP1 : EnP e1.pl e1 := ⟨rfl, hEP1.2⟩
          refine kJ [(1, _), (3, _), (4, _), (5, _), (11, _), (13, _), (14, _), (20, _), (21, _)] ?_
          refine s2 ?_
          refine aCB (fun w hw => (Next_any b47 e1 w (EndW.of (hw.ok (grpB (endI b47 e1)) (by repeat constructor)).1.1 hEP1 ok1) ok1).mono (fun _ _ h => by rw [hm9] at h; exact h)) ?_
          refine s10 ?_
          refine kJ [(1, _), (3, _), (4, _), (5, _), (11, _), (13, _), (14, _), (20, _), (21, _), (25, _)] ?_
          refine xDx [0, 1, 2, 3, 4, 5, 6, 7, 8, 9, 10, 11, 12, 13, 14, 15, 16, 17, 18, 19, 20, 21, 22, 23] [] [5, 15, 18] [cellB b21 [.int .i64 (rulE e.pl m (⟨((first + (t : Nat)) % 2), (((t : Nat) : Int) / 2), xl, false, xh⟩ : Th)), .int .i64 (choF (⟨((first + (t : Nat)) % 2), (((t : Nat) : Int) / 2), xl, false, xh⟩ : Th) (rulE e.pl m (⟨((first + (t : Nat)) % 2), (((t : Nat) : Int) / 2), xl, false, xh⟩ : Th))), .slice jA jL.length jc] 47] ?_
          refine s2 ?_
          refine dDecF ?_ (fun h => h rfl)
          refine s5 ?_
          refine dCB rfl (fun w hw => (Choose_no b47 e1 (jL.length : Nat) w (EndW.of (hw.ok (grpB (endI b47 e1)) (by repeat constructor)).1.1 hEP1 ok1) ok1 (by rw [hm7]; decide)).mono (fun _ _ h => by rw [hm7] at h; exact h)) ?_
          refine s1 ?_
          refine dDecF ?_ (fun h => h rfl)
          refine s6 ?_
          refine dX rfl (vHold (v := .int .u8 u) rfl rfl (fun h => h) hhu hlt (by omega) (by rw [hxu]; rfl)) ?_
          refine dP rfl (pConv8 rfl rfl hu8) ?_
          refine s3 ?_
          refine dP rfl (pRem rfl rfl rfl (by unfold U8 at hu8; omega) (by omega)) ?_
          refine dW rfl (oM (fun w hw => (Choose_yes b47 e1 (u % (jL.length : Nat)) w (hw.stL (HA := [grpB (endI b47 e1)]) (by repeat constructor)) ok1 hEP1.2 (hm0 _ (Int.emod_nonneg _ (by omega)) (Int.emod_lt_of_pos _ (by omega))).1).mono (fun _ _ h => h.toM))) (fun t186 ht186 => ?_)
          refine s1 ?_
          refine dDecF ?_ (fun h => h rfl)
          refine s5 ?_
          exact xE t186 ⟨by rw [ht186.1]; exact (hm0 _ (Int.emod_nonneg _ (by omega)) (Int.emod_lt_of_pos _ (by omega))).2, by rw [ht186.1]; exact chs_ok ok1 (hm0 _ (Int.emod_nonneg _ (by omega)) (Int.emod_lt_of_pos _ (by omega))).1⟩
         ·refine s4 ?_
          exact xE e1 ⟨by rw [hEP1b]; exact ci_one hI hX (by rw [← hol]; omega), ok1⟩
        ·rintro e2 ⟨hI2, hok2⟩
         have hEP2 : EnP e2.pl e2 := EnP.none hI2.hp
         refine s2 ?_
         by_cases h3 : xh = 3
         ·rw [decide_eq_true h3]
          refine s13 ?_
          refine xC (T := Nat × Int) (fun q => q.1 = (if xh = 3 then t else t + 1) ∧ q.2 = (plN (⟨kf, kt, ks, ke, kp⟩ : Cd) : Nat)) (fun q => [(1, .int .i64 first), (3, .slice (some ⟨bu, qu, none⟩) ul.length uc), (4, .slice pA pl.length pc), (5, .pointer (some ⟨b5, 0, none⟩)), (11, .pointer (some ⟨b47, 0, none⟩)), (13, .int .i64 (q.1 : Nat)), (14, .int .i64 (i : Nat)), (26, .int .i64 q.2)]) (fun q => [cellB b5 [.int .i64 kf, .int .i64 kt, .int .i64 ks, .int .i64 ke, .bool kp] 23, grpB (endI b47 e2)]) ?_ ?_
          ·refine s4 ?_
           refine JL_bool (fun h194 => ?_) (fun h194 => ?_)
           ·refine s3 ?_
            refine kJ [(1, _), (3, _), (4, _), (5, _), (11, _), (13, _), (14, _)] ?_
            refine s3 ?_
            exact xE (t, 2) ⟨by rw [if_pos h3], by unfold plN; dsimp only; rw [h194]; rfl⟩
           ·refine s4 ?_
            exact xE (t, 0) ⟨by rw [if_pos h3], by unfold plN; dsimp only; rw [h194]; rfl⟩
          ·rintro ⟨t2, pn⟩ ⟨ht2, hpn⟩
           dsimp only at ht2 hpn ⊢
           rw [← ht2] at hI2
           subst hpn
           have hlen2 := hI2.len
           have htle2 := ci_le hI2 hok2
           dsimp only [EnM.pl] at hlen2 htle2
           have hpl : plN (⟨kf, kt, ks, ke, kp⟩ : Cd) ≤ 2 := by unfold plN; split <;> omega
           refine s3 ?_
           refine aS (oS (fun w hw => (Position_any b47 e2.c.f e2.c.t e2.c.s e2.c.e e2.c.p e2.fr e2.sA e2.l e2.sk e2.tn (pdA e2.p) w (EndW.of (hw.ok (grpB (endI b47 e2)) (by repeat constructor)).1.1 hEP2 hok2).cell (EndW.of (hw.ok (grpB (endI b47 e2)) (by repeat constructor)).1.1 hEP2 hok2).row (by have := hok2.l; dsimp only [EnM.pl] at this; omega)))) (fun A196 c196 => ?_)
           refine aCB (fun w hw => refCheck e2.l _ w (own_arr (A := A196) (c := c196) (ty := 43) ET hw (by repeat constructor) (by have := hok2.l; dsimp only [EnM.pl] at this; omega))) ?_
           refine aBoolT ?_ hI2.chk
           refine s3 ?_
           refine aS (oS (fun w hw => (Position_any b47 e2.c.f e2.c.t e2.c.s e2.c.e e2.c.p e2.fr e2.sA e2.l e2.sk e2.tn (pdA e2.p) w (EndW.of (hw.ok (grpB (endI b47 e2)) (by repeat constructor)).1.1 hEP2 hok2).cell (EndW.of (hw.ok (grpB (endI b47 e2)) (by repeat constructor)).1.1 hEP2 hok2).row (by have := hok2.l; dsimp only [EnM.pl] at this; omega)))) (fun A201 c201 => ?_)
           refine s5 ?_
           refine aDecF ?_ (by omega)
           refine s7 ?_
           refine kJ [(1, _), (3, _), (4, _), (5, _), (11, _), (13, _), (14, _)] ?_
           refine s5 ?_
           exact xR (i + 1, t2, e2) ⟨by dsimp only; omega, hI2, hok2⟩ (by dsimp only; omega) (hl := ⟨rfl, rfl, rfl, rfl, rfl, rfl, (congrArg some (by go_num)), trivial⟩)
         ·rw [decide_eq_false h3]
          refine s13 ?_
          refine kJ [(1, _), (3, _), (4, _), (5, _), (11, _), (13, _), (14, _)] ?_
          refine s4 ?_
          refine xC (T := Nat × Int) (fun q => q.1 = (if xh = 3 then t else t + 1) ∧ q.2 = (plN (⟨kf, kt, ks, ke, kp⟩ : Cd) : Nat)) (fun q => [(1, .int .i64 first), (3, .slice (some ⟨bu, qu, none⟩) ul.length uc), (4, .slice pA pl.length pc), (5, .pointer (some ⟨b5, 0, none⟩)), (11, .pointer (some ⟨b47, 0, none⟩)), (13, .int .i64 (q.1 : Nat)), (14, .int .i64 (i : Nat)), (26, .int .i64 q.2)]) (fun q => [cellB b5 [.int .i64 kf, .int .i64 kt, .int .i64 ks, .int .i64 ke, .bool kp] 23, grpB (endI b47 e2)]) ?_ ?_
          ·refine s4 ?_
           refine JL_bool (fun h194 => ?_) (fun h194 => ?_)
           ·refine s6 ?_
            exact xE (t + 1, 2) ⟨by rw [if_neg h3], by unfold plN; dsimp only; rw [h194]; rfl⟩ (hl := ⟨rfl, rfl, rfl, rfl, rfl, (congrArg some (by go_num)), rfl, rfl, trivial⟩)
           ·refine s4 ?_
            exact xE (t + 1, 0) ⟨by rw [if_neg h3], by unfold plN; dsimp only; rw [h194]; rfl⟩ (hl := ⟨rfl, rfl, rfl, rfl, rfl, (congrArg some (by go_num)), rfl, rfl, trivial⟩)
          ·rintro ⟨t2, pn⟩ ⟨ht2, hpn⟩
           dsimp only at ht2 hpn ⊢
           rw [← ht2] at hI2
           subst hpn
           have hlen2 := hI2.len
           have htle2 := ci_le hI2 hok2
           dsimp only [EnM.pl] at hlen2 htle2
           have hpl : plN (⟨kf, kt, ks, ke, kp⟩ : Cd) ≤ 2 := by unfold plN; split <;> omega
           refine s3 ?_
           refine aS (oS (fun w hw => (Position_any b47 e2.c.f e2.c.t e2.c.s e2.c.e e2.c.p e2.fr e2.sA e2.l e2.sk e2.tn (pdA e2.p) w (EndW.of (hw.ok (grpB (endI b47 e2)) (by repeat constructor)).1.1 hEP2 hok2).cell (EndW.of (hw.ok (grpB (endI b47 e2)) (by repeat constructor)).1.1 hEP2 hok2).row (by have := hok2.l; dsimp only [EnM.pl] at this; omega)))) (fun A196 c196 => ?_)
           refine aCB (fun w hw => refCheck e2.l _ w (own_arr (A := A196) (c := c196) (ty := 43) ET hw (by repeat constructor) (by have := hok2.l; dsimp only [EnM.pl] at this; omega))) ?_
           refine aBoolT ?_ hI2.chk
           refine s3 ?_
           refine aS (oS (fun w hw => (Position_any b47 e2.c.f e2.c.t e2.c.s e2.c.e e2.c.p e2.fr e2.sA e2.l e2.sk e2.tn (pdA e2.p) w (EndW.of (hw.ok (grpB (endI b47 e2)) (by repeat constructor)).1.1 hEP2 hok2).cell (EndW.of (hw.ok (grpB (endI b47 e2)) (by repeat constructor)).1.1 hEP2 hok2).row (by have := hok2.l; dsimp only [EnM.pl] at this; omega)))) (fun A201 c201 => ?_)
           refine s5 ?_
           refine aDecF ?_ (by omega)
           refine s7 ?_
           refine kJ [(1, _), (3, _), (4, _), (5, _), (11, _), (13, _), (14, _)] ?_
           refine s5 ?_
           exact xR (i + 1, t2, e2) ⟨by dsimp only; omega, hI2, hok2⟩ (by dsimp only; omega) (hl := ⟨rfl, rfl, rfl, rfl, rfl, rfl, (congrArg some (by go_num)), trivial⟩)
     ·refine s10 ?_
      by_cases hov : (t : Int) = 2 * ke
      ·refine kJ [(5, _), (11, _), (13, _)] ?_
       refine s2 ?_
       refine aCB (fun w hw => (Next_any b47 e w (EndW.of (hw.ok (grpB (endI b47 e)) (by repeat constructor)).1.1 hEP hok) hok).mono (fun _ _ h => by rw [ci_over hI hov] at h; exact h)) ?_
       refine s10 ?_
       refine kJ [(5, _), (11, _), (13, _), (29, _)] ?_
       refine s2 ?_
       refine aCB (fun w hw => (Score_any b47 e w (EndW.of (hw.ok (grpB (endI b47 e)) (by repeat constructor)).1.1 hEP hok) hok).mono (fun _ _ h => by rw [ci_sco hI, if_pos hov] at h; exact h)) ?_
       refine s10 ?_
       refine kJ [(5, _), (13, _), (29, _), (32, _)] ?_
       refine s6 ?_
       refine aDecT ?_ hov
       refine s4 ?_
       refine kJ [(29, _), (32, _), (33, _)] ?_
       refine s3 ?_
       refine aDecT ?_ rfl
       refine s1 ?_
       refine aP (pEqlB rfl rfl rfl) ?_
       refine aDecT ?_ rfl
       refine s3 ?_
       refine aDecT ?_ rfl
       refine s1 ?_
       refine aP (pEqlB rfl rfl rfl) ?_
       refine aDecT ?_ rfl
       refine s2 ?_
       refine aCB (fun w hw => awake_any w) ?_
       refine s5 ?_
       refine JR_one rfl (rr_tmp rfl) ?_
       intro w' hw
       exact ⟨rfl, hw.bel⟩
      ·have hov2 : ((t : Nat) : Int) < 2 * ((⟨kf, kt, ks, ke, kp⟩ : Cd)).e := by dsimp only; omega
       refine kJ [(5, _), (11, _), (13, _)] ?_
       refine s2 ?_
       refine aCB (fun w hw => (Next_any b47 e w (EndW.of (hw.ok (grpB (endI b47 e)) (by repeat constructor)).1.1 hEP hok) hok).mono (fun _ _ h => by rw [ci_next hI hov2] at h; exact h)) ?_
       refine s10 ?_
       refine kJ [(5, _), (11, _), (13, _), (29, _)] ?_
       refine s2 ?_
       refine aCB (fun w hw => (Score_any b47 e w (EndW.of (hw.ok (grpB (endI b47 e)) (by repeat constructor)).1.1 hEP hok) hok).mono (fun _ _ h => by rw [ci_sco hI, if_neg hov] at h; exact h)) ?_
       refine s10 ?_
       refine kJ [(5, _), (13, _), (29, _), (32, _)] ?_
       refine s6 ?_
       refine aDecF ?_ hov
       refine s4 ?_
       refine kJ [(29, _), (32, _), (33, _)] ?_
       refine s3 ?_
       refine aDecF ?_ (show ¬ (0 : Int) = 9 by decide)
       refine s1 ?_
       refine aP (pEqlB rfl rfl rfl) ?_
       refine aDecT ?_ rfl
       refine s3 ?_
       refine aDecF ?_ (show ¬ (9 : Int) = 0 by decide)
       refine s1 ?_
       refine aP (pEqlB rfl rfl rfl) ?_
       refine aDecT ?_ rfl
       refine s2 ?_
       refine aCB (fun w hw => awake_any w) ?_
       refine s5 ?_
       refine JR_one rfl (rr_tmp rfl) ?_
       intro w' hw
       exact ⟨rfl, hw.bel⟩
    ·refine s16 ?_
     by_cases hov : (t : Int) = 2 * ke
     ·refine kJ [(5, _), (11, _), (13, _)] ?_
      refine s2 ?_
      refine aCB (fun w hw => (Next_any b47 e w (EndW.of (hw.ok (grpB (endI b47 e)) (by repeat constructor)).1.1 hEP hok) hok).mono (fun _ _ h => by rw [ci_over hI hov] at h; exact h)) ?_
      refine s10 ?_
      refine kJ [(5, _), (11, _), (13, _), (29, _)] ?_
      refine s2 ?_
      refine aCB (fun w hw => (Score_any b47 e w (EndW.of (hw.ok (grpB (endI b47 e)) (by repeat constructor)).1.1 hEP hok) hok).mono (fun _ _ h => by rw [ci_sco hI, if_pos hov] at h; exact h)) ?_
      refine s10 ?_
      refine kJ [(5, _), (13, _), (29, _), (32, _)] ?_
      refine s6 ?_
      refine aDecT ?_ hov
      refine s4 ?_
      refine kJ [(29, _), (32, _), (33, _)] ?_
      refine s3 ?_
      refine aDecT ?_ rfl
      refine s1 ?_
      refine aP (pEqlB rfl rfl rfl) ?_
      refine aDecT ?_ rfl
      refine s3 ?_
      refine aDecT ?_ rfl
      refine s1 ?_
      refine aP (pEqlB rfl rfl rfl) ?_
      refine aDecT ?_ rfl
      refine s2 ?_
      refine aCB (fun w hw => awake_any w) ?_
      refine s5 ?_
      refine JR_one rfl (rr_tmp rfl) ?_
      intro w' hw
      exact ⟨rfl, hw.bel⟩
     ·have hov2 : ((t : Nat) : Int) < 2 * ((⟨kf, kt, ks, ke, kp⟩ : Cd)).e := by dsimp only; omega
      refine kJ [(5, _), (11, _), (13, _)] ?_
      refine s2 ?_
      refine aCB (fun w hw => (Next_any b47 e w (EndW.of (hw.ok (grpB (endI b47 e)) (by repeat constructor)).1.1 hEP hok) hok).mono (fun _ _ h => by rw [ci_next hI hov2] at h; exact h)) ?_
      refine s10 ?_
      refine kJ [(5, _), (11, _), (13, _), (29, _)] ?_
      refine s2 ?_
      refine aCB (fun w hw => (Score_any b47 e w (EndW.of (hw.ok (grpB (endI b47 e)) (by repeat constructor)).1.1 hEP hok) hok).mono (fun _ _ h => by rw [ci_sco hI, if_neg hov] at h; exact h)) ?_
      refine s10 ?_
      refine kJ [(5, _), (13, _), (29, _), (32, _)] ?_
      refine s6 ?_
      refine aDecF ?_ hov
      refine s4 ?_
      refine kJ [(29, _), (32, _), (33, _)] ?_
      refine s3 ?_
      refine aDecF ?_ (show ¬ (0 : Int) = 9 by decide)
      refine s1 ?_
      refine aP (pEqlB rfl rfl rfl) ?_
      refine aDecT ?_ rfl
      refine s3 ?_
      refine aDecF ?_ (show ¬ (9 : Int) = 0 by decide)
      refine s1 ?_
      refine aP (pEqlB rfl rfl rfl) ?_
      refine aDecT ?_ rfl
      refine s2 ?_
      refine aCB (fun w hw => awake_any w) ?_
      refine s5 ?_
      refine JR_one rfl (rr_tmp rfl) ?_
      intro w' hw
      exact ⟨rfl, hw.bel⟩
   ·refine kJ [(1, _), (2, _), (3, _), (4, _), (5, _)] ?_
    refine s4 ?_
    refine aCB (fun w hw => (New_any (⟨kf, kt, ks, ke, kp⟩ : Cd) first power w).mono (fun _ _ h => by unfold RetNew at h; rw [if_neg hg] at h; exact h)) ?_
    refine s9 ?_
    refine kJ [(1, _), (2, _), (3, _), (4, _), (5, _), (11, _), (12, _)] ?_
    refine s3 ?_
    refine aDecT ?_ hg
    refine s8 ?_
    refine kJ [(1, _), (2, _), (5, _)] ?_
    refine s4 ?_
    refine aCB (fun w hw => refGood (⟨kf, kt, ks, ke, kp⟩ : Cd) first power w) ?_
    refine s1 ?_
    refine aDecT ?_ hg
    refine s1 ?_
    refine aCB (fun w hw => awake_any w) ?_
    refine s6 ?_
    refine JR_one rfl (rr_tmp rfl) ?_
    intro w' hw
    exact ⟨rfl, hw.bel⟩
end Go.Proofs.YtomcpgdpjpjioaaGreat
/- RulesEnds: the row: for every input, the law answers true and its input reads as it did. No condition. -/
namespace Go.Proofs.YtomcpgdpjpjioaaGreat
open Go.ChangeShapes Go.WideShapes Go.ChangeAt Go.RowKit Go.ChangeMaps

set_option maxRecDepth 100000 in
theorem RulesEnds_lifted (os : Os) (started : os.Started) (H : Type) (enc : TypeId × Value → H) :
    ReturnsInHanded {} Tryz.checked os 3 .any (Rows.rulesEndsSpec.pre6 enc Tryz.prog Tryz.f3 Rows.rulesEndsRow.domain false) (Rows.rulesEndsSpec.post enc Tryz.prog Tryz.f3 false true false false) := by
  refine returnsInHanded_of_change (C := Tryz.checked) (show ownKnob Tryz.prog.godebug = none by kernel_rfl) started (by kernel_rfl) Tryz.func3
    (ChangeSpec.witness6 (enc := enc) (C := Tryz.checked) false ⟨#[], #[.agg #[.int .i64 0, .int .i64 0, .int .i64 0, .int .i64 0, .bool false], .int .i64 0, .int .i64 0, .slice none 0 0, .slice none 0 0], []⟩ 8 (by kernel_rfl) (by kernel_rfl) (by kernel_rfl) (by kernel_rfl)) ?_
  intro W base args ds gs before hval0 hW hcnd _
  have hval : ∀ (j : Nat) t v, Tryz.f3.params[j]? = some t → args[j]? = some v → Value.okWide Tryz.prog W .any base t v := hval0
  have hW' := hW
  obtain ⟨p, q, hA0, hV, rfl, _, _⟩ := hW
  have hA : DataW.TrodAll enc Tryz.prog W 0 (fun _ => true) true Tryz.f3.params.toList args.toList ds p := hA0
  rw [Tryz.params3] at hA hval
  obtain ⟨v0, vs0, d0, ds0, p0, q0, hargs, rfl, rfl, h0, r0⟩ := trodAll_cons hA
  obtain ⟨v1, vs1, d1, ds1, p1, q1, rfl, rfl, rfl, h1, r1⟩ := trodAll_cons r0
  obtain ⟨v2, vs2, d2, ds2, p2, q2, rfl, rfl, rfl, h2, r2⟩ := trodAll_cons r1
  obtain ⟨v3, vs3, d3, ds3, p3, q3, rfl, rfl, rfl, h3, r3⟩ := trodAll_cons r2
  obtain ⟨v4, vs4, d4, ds4, p4, q4, rfl, rfl, rfl, h4, r4⟩ := trodAll_cons r3
  obtain ⟨rfl, rfl, rfl⟩ := trodAll_nil r4
  obtain rfl : args = #[v0, v1, v2, v3, v4] := by cases args; simp_all
  obtain ⟨rfl, rfl⟩ := trodVars_none hV
  obtain ⟨a0, rfl, again0⟩ := open_code (hval 0 23 v0 rfl rfl) h0
  obtain ⟨a1, rfl, again1⟩ := open_num (hval 1 3 v1 rfl rfl) h1
  obtain ⟨a2, rfl, again2⟩ := open_num (hval 2 3 v2 rfl rfl) h2
  obtain ⟨A3, l3, k3, rfl, st3, x3, again3⟩ := open_how (hval 3 24 v3 rfl rfl) h3
  obtain ⟨A4, l4, k4, rfl, st4, again4⟩ := open_places (hval 4 25 v4 rfl rfl) h4
  clear hA0 hval0
  simp only [List.append_nil] at hW'
  refine (Ends_law a0 a1 a2 l3 A3 k3 l4 A4 k4 W st3 x3 st4).mono fun e W' ⟨he, hb⟩ => ?_
  subst he
  exact ⟨_, rfl, _, _, _, [], _, [], hW', trodAll_mk1 (shut_bool Tryz.underlying4 _), (trodAll_cons_mk (again0 W' hb _ (fun q hq => by simpa using hW'.lt q (by simp [hq]))) (trodAll_cons_mk (again1 W' hb _ (fun q hq => by simpa using hW'.lt q (by simp [hq]))) (trodAll_cons_mk (again2 W' hb _ (fun q hq => by simpa using hW'.lt q (by simp [hq]))) (trodAll_cons_mk (again3 W' hb _ (fun q hq => by simpa using hW'.lt q (by simp [hq]))) (trodAll_cons_mk (again4 W' hb _ (fun q hq => by simpa using hW'.lt q (by simp [hq]))) trodAll_mk0))))), rfl, hb.frame _, fun h => by cases h⟩

theorem RulesEnds_holds : Rows.RulesEndsSaid :=
  OpenClaim.holds_of_wide 3 Tryz.f3 rfl rfl rfl rfl rfl rfl rfl ⟨rfl, rfl, rfl, rfl, rfl⟩ rfl rfl rfl rfl rfl (by kernel_rfl) Tryz.func3 (by kernel_rfl)
    (of_decide_eq_true (by kernel_rfl)) (by unfold Func.isWrapper; first | (rw [if_pos (by decide +kernel)]; kernel_rfl) | (rw [if_neg (by decide +kernel)]; exact ⟨rfl, rfl⟩))
    (fun os started H enc _ => RulesEnds_lifted os started H enc)
end Go.Proofs.YtomcpgdpjpjioaaGreat
