/- Plain: rulings of mirrored throws, of throws with the teams exchanged, of stones in another order. Plain: rulings of stones in another order; the ruling of the changed throw as changed makes it. -/
import Derived.Test.YtomcpgdpjpjioaaPy
import Derived.Test.YtomcpgdpjpjioaaCh
namespace Go.Proofs.Ytomcpgdpjpjioaa
open Go.RowKit Go.Proofs Go.Shelf

/-- A change of stones and teams under which rulings go along. -/
structure Sym (f : St → St) (τ : Int → Int) : Prop where
  keep : Keeps f
  inv : ∀ s, f (f s) = s
  ht : ∀ s, (f s).t = τ s.t
  hn : ∀ s, (f s).n = s.n
  inj : ∀ a b, τ a = τ b ↔ a = b
  rg : ∀ a, (0 ≤ τ a ∧ τ a ≤ 1) ↔ (0 ≤ a ∧ a ≤ 1)
  hzn : ∀ s, zn (f s).x (f s).y = zn s.x s.y
  hce : ∀ s, cen (f s) = cen s
def thT (τ : Int → Int) (x : Th) : Th := ⟨τ x.team, x.n, x.late, x.short, x.how⟩
section
variable {f : St → St} {τ : Int → Int} (F : Sym f τ)
include F
theorem Sym.eqKF (s : St) (t n : Int) : eqK (f s).t (f s).n (τ t) n = eqK s.t s.n t n := by
  rw [Bool.eq_iff_iff, eqK_iff, eqK_iff, F.ht, F.hn, F.inj]
theorem Sym.isBF (s s' : St) : isB (f s).t (f s).n (f s') = isB s.t s.n s' := by
  rw [Bool.eq_iff_iff, isB_iff, isB_iff, F.ht, F.hn, F.ht, F.hn, F.inj]
theorem Sym.findF (m : List St) (s : St) : (m.map f).find? (isB (f s).t (f s).n) = (m.find? (isB s.t s.n)).map f := by
  rw [List.find?_map]
  congr 1
  refine congrFun (congrArg _ ?_) m
  funext s'
  exact F.isBF s s'
theorem Sym.disF {m : List St} (hd : dis m) : dis (m.map f) := by
  intro a ha b hb h1 h2
  obtain ⟨a', ha', rfl⟩ := List.mem_map.1 ha
  obtain ⟨b', hb', rfl⟩ := List.mem_map.1 hb
  rw [F.ht, F.ht, F.inj] at h1
  rw [F.hn, F.hn] at h2
  rw [hd a' ha' b' hb' h1 h2]
theorem Sym.kpBF (c : Cd) (n team : Int) (s : St) : kpB c n (τ team) (f s) = kpB c n team s := by
  unfold kpB guB
  rw [F.hzn, F.ht]
  have : (τ s.t != τ team) = (s.t != team) := by rw [Bool.eq_iff_iff]; simp [F.inj]
  rw [this]
theorem Sym.fxBF (c : Cd) (n team : Int) (s : St) : fxB c n (τ team) (f s) = fxB c n team s := by
  unfold fxB guB
  rw [F.hzn, F.ht, F.hce]
  have : (τ s.t != τ team) = (s.t != team) := by rw [Bool.eq_iff_iff]; simp [F.inj]
  rw [this]
theorem Sym.remBF (c : Cd) (n team : Int) {m l : List St} (hd : dis m) : remB c n (τ team) (m.map f) (l.map f) = remB c n team m l := by
  unfold remB
  rw [List.any_map]
  refine congrArg l.any (funext fun s => ?_)
  simp only [Function.comp]
  rw [look_find (F.disF hd), look_find hd, F.findF, F.kpBF]
  simp
theorem Sym.movBF (c : Cd) (n team : Int) {m l : List St} (hd : dis m) : movB c n (τ team) (m.map f) (l.map f) = movB c n team m l := by
  unfold movB
  rw [List.any_map]
  refine congrArg l.any (funext fun s => ?_)
  simp only [Function.comp]
  rw [look_find (F.disF hd), look_find hd, F.findF, F.fxBF]
  cases m.find? (isB s.t s.n) with
  | none => simp
  | some s' => simp [F.hce]
theorem Sym.permF {l m : List St} : (l.map f).Perm (m.map f) ↔ l.Perm m := by
  constructor
  · intro h
    have := h.map f
    rw [List.map_map, List.map_map] at this
    have e : f ∘ f = id := funext fun s => F.inv s
    rwa [e, List.map_id, List.map_id] at this
  · exact fun h => h.map f
theorem Sym.bndF {l : List St} (h : chkB l = true) : ∀ s ∈ l.map f, bnd s := chk_bnd (by rw [chk_map F.keep]; exact h)
/-- The sorted stones, changed and sorted anew, are the changed ones, sorted. -/
theorem Sym.srtF {l : List St} (h : chkB l = true) : srt ((srt l).map f) = srt (l.map f) := by
  have h' : chkB (l.map f) = true := by rw [chk_map F.keep]; exact h
  refine srt_uniq (chk_bnd h') (chk_dis h') ((srt_perm _).trans ((srt_perm l).map f)) (srt_pw _)
end
theorem srt_iff {l m : List St} (hl : chkB l = true) : srt l = srt m ↔ l.Perm m := by
  constructor
  · intro h; exact (srt_perm l).symm.trans (by rw [h]; exact srt_perm m)
  · intro h; exact (srt_uniq (chk_bnd hl) (chk_dis hl) ((srt_perm m).trans h.symm) (srt_pw m)).symm
section
variable {f : St → St} {τ : Int → Int} (F : Sym f τ)
include F
theorem Sym.eqLF {l m : List St} (hl : chkB l = true) : eqL (srt (l.map f)) (srt (m.map f)) = eqL (srt l) (srt m) := by
  rw [Bool.eq_iff_iff, eqL_iff, eqL_iff, srt_iff hl, srt_iff (by rw [chk_map F.keep]; exact hl), F.permF]
theorem Sym.thrAF (l m : List St) (x : Th) : thrA (l.map f) (m.map f) (thT τ x) = thrA l m x := by
  unfold thrA
  rw [chk_map F.keep, chk_map F.keep]
  have : decide (0 ≤ (thT τ x).team ∧ (thT τ x).team ≤ 1) = decide (0 ≤ x.team ∧ x.team ≤ 1) := by
    rw [Bool.eq_iff_iff, decide_eq_true_eq, decide_eq_true_eq]; exact F.rg x.team
  rw [this]; rfl
theorem Sym.lookF (l : List St) (t n : Int) : (lookT (l.map f) (τ t) n).isSome = (lookT l t n).isSome := by
  rw [lookT_some, lookT_some, List.any_map]
  refine congrArg l.any (funext fun s => ?_)
  exact F.eqKF s t n
theorem Sym.thrBF (l m : List St) (x : Th) : thrB (l.map f) (m.map f) (thT τ x) = thrB l m x := by
  unfold thrB
  rw [F.thrAF]
  cases hA : thrA l m x
  · rfl
  · rw [F.eqLF (thrA_facts hA).1, List.all_map]
    have h1 : (lookT (l.map f) (thT τ x).team (thT τ x).n).isSome = (lookT l x.team x.n).isSome := F.lookF l x.team x.n
    have h2 : m.all ((fun s => (lookT (l.map f) s.t s.n).isSome || eqK s.t s.n (thT τ x).team (thT τ x).n) ∘ f) = m.all (fun s => (lookT l s.t s.n).isSome || eqK s.t s.n x.team x.n) := by
      refine congrArg m.all (funext fun s => ?_)
      simp only [Function.comp]
      have h3 : (lookT (l.map f) (f s).t (f s).n).isSome = (lookT l s.t s.n).isSome := by rw [F.ht, F.hn]; exact F.lookF l s.t s.n
      have h4 : eqK (f s).t (f s).n (thT τ x).team (thT τ x).n = eqK s.t s.n x.team x.n := F.eqKF s x.team x.n
      rw [h3, h4]
    rw [h1, h2]; rfl
theorem Sym.juEF (c : Cd) (n : Int) (x : Th) (l m : List St) : juE c n (thT τ x) (l.map f) (m.map f) = juE c n x l m := by
  unfold juE; rw [F.thrBF]
theorem Sym.juNF (c : Cd) (n : Int) (x : Th) {l m : List St} (hd : dis m) : juN c n (thT τ x) (l.map f) (m.map f) = juN c n x l m := by
  unfold juN
  have h1 : remB c n (thT τ x).team (m.map f) (l.map f) = _ := F.remBF c n x.team hd
  have h2 : movB c n (thT τ x).team (m.map f) (l.map f) = _ := F.movBF c n x.team hd
  rw [h1, h2, ruleN_val, ruleN_val]; rfl
theorem Sym.goneF (x : Th) (m : List St) : gone (thT τ x) (m.map f) = (gone x m).map f := by
  unfold gone
  rw [List.filter_map]
  congr 1
  refine congrFun (congrArg _ ?_) m
  funext s
  simp only [Function.comp]
  exact congrArg _ (F.eqKF s x.team x.n)
/-- An outcome, changed. -/
theorem Sym.ddF {L : List Pr} (h : ∀ q ∈ L, ∃ l0, q.1 = srt l0 ∧ chkB l0 = true) :
    ddP (L.map fun q => (srt (q.1.map f), q.2)) = (ddP L).map fun q => (srt (q.1.map f), q.2) := by
  have key : ∀ p q : Pr, (∃ l0, p.1 = srt l0 ∧ chkB l0 = true) → (∃ l0, q.1 = srt l0 ∧ chkB l0 = true) →
      samP (srt (p.1.map f), p.2) (srt (q.1.map f), q.2) = samP p q := by
    rintro ⟨p1, p2⟩ ⟨q1, q2⟩ ⟨a, ha, hca⟩ ⟨b, hb, hcb⟩
    simp only at ha hb
    subst ha hb
    unfold samP
    simp only
    rw [F.srtF hca, F.srtF hcb, F.eqLF hca]
  have H : ∀ (L A : List Pr), (∀ q ∈ L, ∃ l0, q.1 = srt l0 ∧ chkB l0 = true) → (∀ q ∈ A, ∃ l0, q.1 = srt l0 ∧ chkB l0 = true) →
      (L.map fun q => (srt (q.1.map f), q.2)).foldl (fun out o => if (out.any fun p => samP p o) = true then out else out ++ [o]) (A.map fun q => (srt (q.1.map f), q.2)) =
      (L.foldl (fun out o => if (out.any fun p => samP p o) = true then out else out ++ [o]) A).map fun q => (srt (q.1.map f), q.2) := by
    intro L
    induction L with
    | nil => intro A _ _; rfl
    | cons o L ih =>
      intro A hL hA
      have ho := hL o (List.mem_cons_self ..)
      simp only [List.map_cons, List.foldl_cons]
      have e : ((A.map fun q => (srt (q.1.map f), q.2)).any fun p => samP p (srt (o.1.map f), o.2)) = (A.any fun p => samP p o) := by
        rw [List.any_map, Bool.eq_iff_iff, List.any_eq_true, List.any_eq_true]
        constructor
        · rintro ⟨p, hp, h⟩; exact ⟨p, hp, by rw [← key p o (hA p hp) ho]; exact h⟩
        · rintro ⟨p, hp, h⟩; exact ⟨p, hp, by show samP _ _ = true; rw [key p o (hA p hp) ho]; exact h⟩
      rw [e]
      by_cases hb : (A.any fun p => samP p o) = true
      · rw [if_pos hb, if_pos hb]; exact ih A (fun q hq => hL q (List.mem_cons_of_mem _ hq)) hA
      · rw [if_neg hb, if_neg hb]
        have := ih (A ++ [o]) (fun q hq => hL q (List.mem_cons_of_mem _ hq)) (fun q hq => by
          rcases List.mem_append.1 hq with h | h
          · exact hA q h
          · rw [List.mem_singleton.1 h]; exact ho)
        rwa [List.map_append] at this
  exact H L [] h (fun _ h => by cases h)
theorem Sym.judPF (k : Nat) (x : Th) {l m : List St} (hl : chkB l = true) (hm : chkB m = true) :
    judP k (thT τ x) (l.map f) (m.map f) = (judP k x l m).map fun q => (srt (q.1.map f), q.2) := by
  have hg : chkB (gone x m) = true := chk_filter _ hm
  have e1 := F.srtF hl
  have e2 := F.srtF hm
  have e3 := F.srtF hg
  unfold judP
  rw [F.goneF, ← e1, ← e2, ← e3]
  split
  · rfl
  split
  · rfl
  split
  · rw [← F.ddF]; rfl
    intro q hq
    simp only [List.mem_cons, List.not_mem_nil, or_false] at hq
    rcases hq with rfl | rfl | rfl
    · exact ⟨l, rfl, hl⟩
    · exact ⟨m, rfl, hm⟩
    · exact ⟨_, rfl, hg⟩
  split
  · rw [← F.ddF]; rfl
    intro q hq
    simp only [List.mem_cons, List.not_mem_nil, or_false] at hq
    rcases hq with rfl | rfl
    · exact ⟨m, rfl, hm⟩
    · exact ⟨l, rfl, hl⟩
  split
  · rw [← F.ddF]; rfl
    intro q hq
    simp only [List.mem_cons, List.not_mem_nil, or_false] at hq
    rcases hq with rfl | rfl
    · exact ⟨m, rfl, hm⟩
    · exact ⟨l, rfl, hl⟩
  · rfl
/-- The ruling of the changed throw. -/
theorem Sym.rulingF {c : Cd} {n : Int} {x : Th} {l m : List St} (h : juE c n x l m = 0) :
    juE c n (thT τ x) (l.map f) (m.map f) = 0 ∧ juR c n (thT τ x) (l.map f) (m.map f) = juR c n x l m ∧
    juCh c n (thT τ x) (l.map f) (m.map f) = judC (juN c n x l m) (thT τ x) ∧
    juP c n (thT τ x) (l.map f) (m.map f) = (juP c n x l m).map fun q => (srt (q.1.map f), q.2) := by
  obtain ⟨-, ht, -⟩ := juE_zero h
  obtain ⟨hl, hm, -⟩ := thrB_facts ht
  have h' : juE c n (thT τ x) (l.map f) (m.map f) = 0 := by rw [F.juEF]; exact h
  have hN := F.juNF c n x (l := l) (chk_dis hm)
  refine ⟨h', ?_, ?_, ?_⟩
  · unfold juR; rw [if_pos h, if_pos h', hN]
  · unfold juCh; rw [if_pos h', hN]
  · unfold juP; rw [if_pos h, if_pos h', hN, F.judPF _ x hl hm]
end
theorem zn_neg (x y : Int) : zn (-x) y = zn x y := by
  unfold zn
  rw [zone_neg]
  by_cases h : OkS x y
  · rw [if_pos h, if_pos ((okS_neg x y).2 h)]
  · rw [if_neg h, if_neg (fun h' => h ((okS_neg x y).1 h'))]
theorem mirSym : Sym mirS id where
  keep := mir_keeps
  inv s := by unfold mirS; simp
  ht _ := rfl
  hn _ := rfl
  inj _ _ := Iff.rfl
  rg _ := Iff.rfl
  hzn s := zn_neg s.x s.y
  hce s := by unfold cen mirS; simp only; rw [ab_neg]; simp only [okS_neg, play_neg]
theorem excSym : Sym excS (fun t => 1 - t) where
  keep := exc_keeps
  inv s := by unfold excS; simp only; rw [show 1 - (1 - s.t) = s.t by omega]
  ht _ := rfl
  hn _ := rfl
  inj a b := by omega
  rg a := by omega
  hzn _ := rfl
  hce _ := rfl
end Go.Proofs.Ytomcpgdpjpjioaa

namespace Go.Proofs.Ytomcpgdpjpjioaa
open Go.RowKit Go.Proofs Go.Shelf

theorem find_perm {m m' : List St} (hd : dis m) (hp : m.Perm m') (t n : Int) : m'.find? (isB t n) = m.find? (isB t n) := by
  cases h : m.find? (isB t n) with
  | none =>
    rw [List.find?_eq_none] at h ⊢
    exact fun s hs => h s (hp.mem_iff.2 hs)
  | some s =>
    have h1 := List.mem_of_find?_eq_some h
    have h2 := List.find?_some h
    cases h' : m'.find? (isB t n) with
    | none =>
      rw [List.find?_eq_none] at h'
      exact absurd h2 (h' s (hp.mem_iff.1 h1))
    | some s' =>
      have h3 := hp.mem_iff.2 (List.mem_of_find?_eq_some h')
      have h4 := List.find?_some h'
      rw [isB_iff] at h2 h4
      rw [hd s h1 s' h3 (h2.1.trans h4.1.symm) (h2.2.trans h4.2.symm)]
theorem any_perm {α : Type} {l l' : List α} (hp : l.Perm l') (p : α → Bool) : l'.any p = l.any p := by
  rw [Bool.eq_iff_iff, List.any_eq_true, List.any_eq_true]
  exact ⟨fun ⟨x, h1, h2⟩ => ⟨x, hp.mem_iff.2 h1, h2⟩, fun ⟨x, h1, h2⟩ => ⟨x, hp.mem_iff.1 h1, h2⟩⟩
theorem all_perm {α : Type} {l l' : List α} (hp : l.Perm l') (p : α → Bool) : l'.all p = l.all p := by
  rw [Bool.eq_iff_iff, List.all_eq_true, List.all_eq_true]
  exact ⟨fun h x hx => h x (hp.mem_iff.1 hx), fun h x hx => h x (hp.mem_iff.2 hx)⟩
theorem dis_perm {m m' : List St} (hd : dis m) (hp : m.Perm m') : dis m' := fun a ha b hb => hd a (hp.mem_iff.2 ha) b (hp.mem_iff.2 hb)
theorem look_perm {m m' : List St} (hd : dis m) (hp : m.Perm m') (t n : Int) : lookT m' t n = lookT m t n := by
  rw [look_find hd, look_find (dis_perm hd hp), find_perm hd hp]
theorem lookS_perm {l l' : List St} (hp : l.Perm l') (t n : Int) : (lookT l' t n).isSome = (lookT l t n).isSome := by
  rw [lookT_some, lookT_some, any_perm hp]
theorem srt_perm' {l l' : List St} (hl : chkB l = true) (hp : l.Perm l') : srt l' = srt l := ((srt_iff hl).2 hp).symm
theorem remB_perm {c : Cd} {n t : Int} {m m' l l' : List St} (hd : dis m) (hm : m.Perm m') (hl : l.Perm l') : remB c n t m' l' = remB c n t m l := by
  unfold remB
  rw [any_perm hl]
  refine congrArg l.any (funext fun s => ?_)
  rw [look_perm hd hm]
theorem movB_perm {c : Cd} {n t : Int} {m m' l l' : List St} (hd : dis m) (hm : m.Perm m') (hl : l.Perm l') : movB c n t m' l' = movB c n t m l := by
  unfold movB
  rw [any_perm hl]
  refine congrArg l.any (funext fun s => ?_)
  rw [look_perm hd hm]
theorem thrA_perm {l l' m m' : List St} (hl : l.Perm l') (hm : m.Perm m') (x : Th) : thrA l' m' x = thrA l m x := by
  unfold thrA
  rw [chk_perm_eq hl, chk_perm_eq hm]
theorem thrB_perm {l l' m m' : List St} (hl : l.Perm l') (hm : m.Perm m') (x : Th) : thrB l' m' x = thrB l m x := by
  unfold thrB
  rw [thrA_perm hl hm]
  cases hA : thrA l m x
  · rfl
  · obtain ⟨h1, h2, -⟩ := thrA_facts hA
    rw [srt_perm' h1 hl, srt_perm' h2 hm, lookS_perm hl, all_perm hm]
    congr 3
    funext s
    rw [lookS_perm hl]
theorem juE_perm {c : Cd} {n : Int} {x : Th} {l l' m m' : List St} (hl : l.Perm l') (hm : m.Perm m') : juE c n x l' m' = juE c n x l m := by
  unfold juE; rw [thrB_perm hl hm]
theorem ruling_perm {c : Cd} {n : Int} {x : Th} {l l' m m' : List St} (h : juE c n x l m = 0) (hl : l.Perm l') (hm : m.Perm m') :
    juE c n x l' m' = 0 ∧ juR c n x l' m' = juR c n x l m ∧ juCh c n x l' m' = juCh c n x l m ∧ juP c n x l' m' = juP c n x l m := by
  obtain ⟨-, ht, -⟩ := juE_zero h
  obtain ⟨h1, h2, -⟩ := thrB_facts ht
  have h' : juE c n x l' m' = 0 := by rw [juE_perm hl hm]; exact h
  have hN : juN c n x l' m' = juN c n x l m := by unfold juN; rw [remB_perm (chk_dis h2) hm hl, movB_perm (chk_dis h2) hm hl]
  have hg : (gone x m).Perm (gone x m') := hm.filter _
  have hP : ∀ k, judP k x l' m' = judP k x l m := fun k => by
    unfold judP
    have e3 : srt (gone x m') = srt (gone x m) := srt_perm' (chk_filter _ h2) hg
    rw [srt_perm' h1 hl, srt_perm' h2 hm, e3]
  refine ⟨h', ?_, ?_, ?_⟩
  · unfold juR; rw [if_pos h, if_pos h', hN]
  · unfold juCh; rw [if_pos h, if_pos h', hN]
  · unfold juP; rw [if_pos h, if_pos h', hN, hP]
/-- The outcomes' stones. -/
theorem juP_chk {c : Cd} {n : Int} {x : Th} {l m : List St} (h : juE c n x l m = 0) : ∀ q ∈ juP c n x l m, chkB q.1 = true := fun q hq => ((keep_plain h).all q hq).1
theorem chgP_eq {f : St → St} (hf : Keeps f) {P : List Pr} (h : ∀ q ∈ P, chkB q.1 = true) : chgP f P = P.map fun q => (srt (q.1.map f), q.2) := by
  unfold chgP
  refine List.map_congr_left fun q hq => ?_
  have hc : chkB (q.1.map f) = true := by rw [chk_map hf]; exact h q hq
  rw [srtQ_srt (chk_bnd hc) (chk_dis hc) (chk_pw hc)]
theorem mir_ruling {c : Cd} {n : Int} {x : Th} {l m : List St} (h : juE c n x l m = 0) :
    juE c n x (l.map mirS) (m.map mirS) = 0 ∧ juR c n x (l.map mirS) (m.map mirS) = juR c n x l m ∧ juCh c n x (l.map mirS) (m.map mirS) = chgR 0 (juCh c n x l m) ∧ juP c n x (l.map mirS) (m.map mirS) = chgP mirS (juP c n x l m) := by
  obtain ⟨h1, h2, h3, h4⟩ := mirSym.rulingF h
  have hx : thT id x = x := by obtain ⟨a, b, c, d, e⟩ := x; rfl
  rw [hx] at h1 h2 h3 h4
  refine ⟨h1, h2, ?_, ?_⟩
  · rw [h3]; unfold chgR juCh; rw [if_pos h, if_neg (by omega)]
  · rw [h4, chgP_eq mir_keeps (juP_chk h)]
theorem exc_ruling {c : Cd} {n : Int} {x : Th} {l m : List St} (h : juE c n x l m = 0) :
    juE c n ⟨1 - x.team, x.n, x.late, x.short, x.how⟩ (l.map excS) (m.map excS) = 0 ∧ juR c n ⟨1 - x.team, x.n, x.late, x.short, x.how⟩ (l.map excS) (m.map excS) = juR c n x l m ∧
    juCh c n ⟨1 - x.team, x.n, x.late, x.short, x.how⟩ (l.map excS) (m.map excS) = chgR 1 (juCh c n x l m) ∧ juP c n ⟨1 - x.team, x.n, x.late, x.short, x.how⟩ (l.map excS) (m.map excS) = chgP excS (juP c n x l m) := by
  obtain ⟨h1, h2, h3, h4⟩ := excSym.rulingF h
  obtain ⟨-, ht, -⟩ := juE_zero h
  obtain ⟨-, -, q1, q2⟩ := thrB_facts ht
  refine ⟨h1, h2, ?_, ?_⟩
  · refine h3.trans ?_
    unfold chgR juCh
    rw [if_pos h]
    unfold judC thT
    simp only
    split
    · rw [if_pos ⟨trivial, by omega⟩]
    · split
      · rw [if_pos ⟨trivial, by omega⟩]
      · rw [if_neg (by omega)]
  · exact h4.trans (chgP_eq exc_keeps (juP_chk h)).symm
theorem juE_mir (c : Cd) (n : Int) (x : Th) (l m : List St) : juE c n x (l.map mirS) (m.map mirS) = juE c n x l m := by
  have := mirSym.juEF c n x l m
  have hx : thT id x = x := by obtain ⟨a, b, c, d, e⟩ := x; rfl
  rwa [hx] at this
end Go.Proofs.Ytomcpgdpjpjioaa
