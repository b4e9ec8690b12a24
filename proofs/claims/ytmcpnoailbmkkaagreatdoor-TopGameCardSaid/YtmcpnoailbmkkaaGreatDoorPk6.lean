/- Layers of the proofs, joined: Vp Vq Aw Vr Og Kt. -/
import Derived.Test.YtmcpnoailbmkkaaGreatDoorPk5
import Derived.Test.YtmcpnoailbmkkaaGreatDoorCards
import Derived.Test.YtmcpnoailbmkkaaGreatDoorTie
import Derived.ProofKit
import Derived.LaidMore
import Derived.OpenShut
import Derived.Lay
import Derived.Deep.DeepHandedRow
import Derived.Shelf.Vars
import Derived.Stop.Joined
import Derived.Stop.LaidErr
import Derived.Lib.SmallJoins
/- Plain: who counts has at most eight points. -/
namespace Go.Proofs.YtmcpnoailbmkkaaGreatDoor
open Go Go.RowKit Go.Proofs
attribute [local irreducible] J JQ JL JA JD

namespace Pl
theorem sqAt_g {l : List St} {i : Nat} (h : i < l.length) : sqAt l i = sqd (l[i]'h).x (l[i]'h).y := sqAt_get h rfl
theorem mem_hsA {l : List St} {i : Nat} (hi : i < l.length) : i ∈ hsA l ↔ InH (l[i]'hi).x (l[i]'hi).y := hsA_iff hi rfl
def hs1 (t : Int) (s : St) : Bool := decide (s.t = t ∧ InH s.x s.y)
def hs (l : List St) (t : Int) : List Int := (l.filter (hs1 t)).map fun s => sqd s.x s.y
theorem hs_append (a b : List St) (t : Int) : hs (a ++ b) t = hs a t ++ hs b t := by unfold hs; simp
def mn : List Int → Option Int
  | [] => none
  | a :: l => match mn l with | none => some a | some m => if a ≤ m then some a else some m
theorem mn_spec : ∀ l : List Int, (l = [] ∧ mn l = none) ∨ ∃ m, mn l = some m ∧ m ∈ l ∧ ∀ x ∈ l, m ≤ x
  | [] => .inl ⟨rfl, rfl⟩
  | a :: l => by
    right
    unfold mn
    rcases mn_spec l with ⟨rfl, h⟩ | ⟨m, h, hm, hl⟩
    · rw [h]; exact ⟨a, rfl, by simp, fun x hx => by simp at hx; omega⟩
    · rw [h]
      simp only
      split
      · rename_i ha
        refine ⟨a, rfl, by simp, fun x hx => ?_⟩
        rcases List.mem_cons.1 hx with rfl | hx
        · omega
        · have := hl x hx; omega
      · rename_i ha
        refine ⟨m, rfl, by simp [hm], fun x hx => ?_⟩
        rcases List.mem_cons.1 hx with rfl | hx
        · omega
        · exact hl x hx
theorem mn_of {l : List Int} {m : Int} (h1 : m ∈ l) (h2 : ∀ x ∈ l, m ≤ x) : mn l = some m := by
  rcases mn_spec l with ⟨rfl, -⟩ | ⟨k, h, hm, hl⟩
  · simp at h1
  · have := hl m h1; have := h2 k hm
    rw [h]; congr 1; omega
theorem mem_hs {l : List St} {t x : Int} : x ∈ hs l t ↔ ∃ i, i < l.length ∧ i ∈ hsA l ∧ teamAt l i = t ∧ sqAt l i = x := by
  unfold hs hs1
  rw [List.mem_map]
  constructor
  · rintro ⟨s, hs, rfl⟩
    rw [List.mem_filter, decide_eq_true_eq] at hs
    obtain ⟨i, hi, rfl⟩ := List.getElem_of_mem hs.1
    refine ⟨i, hi, (mem_hsA hi).2 hs.2.2, ?_, sqAt_g hi⟩
    rw [teamAt_get hi rfl]; exact hs.2.1
  · rintro ⟨i, hi, h1, h2, rfl⟩
    refine ⟨l[i]'hi, ?_, (sqAt_g hi).symm⟩
    rw [List.mem_filter, decide_eq_true_eq]
    rw [teamAt_get hi rfl] at h2
    exact ⟨List.getElem_mem hi, h2, (mem_hsA hi).1 h1⟩
theorem bT_mn (l : List St) (t : Int) : bT l t l.length = mn (hs l t) := by
  rcases bT_spec l t l.length with ⟨h1, h2⟩ | ⟨m, h1, ⟨i, h3, h4, h5, h6⟩, h7⟩
  · rcases mn_spec (hs l t) with ⟨-, h⟩ | ⟨k, -, h, -⟩
    · rw [h1, h]
    · obtain ⟨i, k1, k2, k3, -⟩ := mem_hs.1 h
      exact absurd k3 (h2 i k1 k2)
  · rw [h1, mn_of (mem_hs.2 ⟨i, h3, h4, h5, h6⟩)]
    intro x hx
    obtain ⟨j, k1, k2, k3, rfl⟩ := mem_hs.1 hx
    exact h7 j k1 k2 k3
def cn (a : List Int) (lim : Option Int) : Nat := (a.filter fun x => decide (lim = none ∨ x < lim.getD 0)).length
theorem cK_cn (l : List St) (t : Int) (lim : Option Int) : ∀ k, k ≤ l.length → cK l t lim k = cn (hs (l.take k) t) lim
  | 0, _ => rfl
  | k + 1, hk => by
    have ih := cK_cn l t lim k (by omega)
    have hkl : k < l.length := by omega
    rw [List.take_succ_eq_append_getElem hkl, hs_append]
    unfold cK
    unfold cn
    rw [List.filter_append, List.length_append]
    unfold cn at ih
    rw [ih]
    congr 1
    have et : teamAt l k = (l[k]'hkl).t := teamAt_get hkl rfl
    have hm := mem_hsA hkl
    rw [et, sqAt_g hkl]
    obtain ⟨s, hs'⟩ : ∃ s, l[k]'hkl = s := ⟨_, rfl⟩
    rw [hs'] at hm ⊢
    unfold hs hs1
    by_cases h1 : s.t = t ∧ InH s.x s.y
    · rw [List.filter_cons_of_pos (by simpa using h1)]
      by_cases h2 : lim = none ∨ sqd s.x s.y < lim.getD 0
      · rw [if_pos ⟨⟨h1.1, hm.2 h1.2⟩, h2⟩]; simp [h2]
      · rw [if_neg (fun h => h2 h.2)]; simp [h2]
    · rw [if_neg (fun h => h1 ⟨h.1.1, hm.1 h.1.2⟩), List.filter_cons_of_neg (by simpa using h1)]; rfl
def rT (a b : List Int) : Int × Int :=
  match mn a, mn b with
  | none, none => (-1, 0)
  | some _, none => (0, (cn a none : Nat))
  | none, some _ => (1, (cn b none : Nat))
  | some x, some y => if x = y then (-1, 0) else if y < x then (1, (cn b (some x) : Nat)) else (0, (cn a (some y) : Nat))
theorem refT_rT (l : List St) : refT l = rT (hs l 0) (hs l 1) := by
  have e : ∀ t lim, cK l t lim l.length = cn (hs l t) lim := fun t lim => by
    have := cK_cn l t lim l.length (Nat.le_refl _); rwa [List.take_length] at this
  unfold refT refP rT
  rw [bT_mn, bT_mn]
  cases mn (hs l 0) <;> cases mn (hs l 1) <;> simp only [e]
/-- One list of squares is ahead of another one; how many count. -/
def Win (a b : List Int) : Prop := a ≠ [] ∧ ∀ y ∈ b, ∃ x ∈ a, x < y
def pts (a b : List Int) : Nat := (a.filter fun x => b.all fun y => decide (x < y)).length
theorem pts_le (a b : List Int) : pts a b ≤ a.length := List.length_filter_le _ _
theorem cn_pts {a b : List Int} : cn a (mn b) = pts a b := by
  unfold cn pts
  congr 1
  apply List.filter_congr
  intro x _
  rw [Bool.eq_iff_iff, decide_eq_true_eq, List.all_eq_true]
  rcases mn_spec b with ⟨rfl, h⟩ | ⟨m, h, hm, hl⟩
  · simp [h]
  · rw [h]
    constructor
    · rintro (h | h)
      · cases h
      · intro y hy; have := hl y hy; simp at h; simp; omega
    · intro h; right; have := h m hm; simpa using this
theorem win_iff {a b : List Int} : Win a b ↔ ∃ x, mn a = some x ∧ (mn b = none ∨ x < (mn b).getD 0) := by
  rcases mn_spec a with ⟨rfl, ha⟩ | ⟨x, ha, hxm, hxl⟩
  · constructor
    · rintro ⟨h, -⟩; exact absurd rfl h
    · rintro ⟨x, h, -⟩; rw [ha] at h; cases h
  · rcases mn_spec b with ⟨rfl, hb⟩ | ⟨y, hb, hym, hyl⟩
    · rw [ha, hb]
      exact ⟨fun _ => ⟨x, rfl, .inl rfl⟩, fun _ => ⟨by intro e; subst e; simp at hxm, nofun⟩⟩
    · rw [ha, hb]
      constructor
      · rintro ⟨-, h⟩
        obtain ⟨z, hz, hzy⟩ := h y hym
        refine ⟨x, rfl, .inr ?_⟩
        have := hxl z hz; simp; omega
      · rintro ⟨z, hz, h⟩
        cases hz
        refine ⟨by intro e; subst e; simp at hxm, fun w hw => ⟨x, hxm, ?_⟩⟩
        have := hyl w hw
        rcases h with h | h
        · cases h
        · simp at h; omega
theorem rT_cases (a b : List Int) : (Win a b ∧ rT a b = (0, ((pts a b : Nat) : Int))) ∨ (Win b a ∧ rT a b = (1, ((pts b a : Nat) : Int))) ∨ (¬ Win a b ∧ ¬ Win b a ∧ rT a b = (-1, 0)) := by
  rw [win_iff, win_iff, ← cn_pts, ← cn_pts]
  unfold rT
  cases ha : mn a with
  | none =>
    cases hb : mn b with
    | none => exact .inr (.inr ⟨by simp, by simp, rfl⟩)
    | some y => exact .inr (.inl ⟨⟨y, rfl, .inl rfl⟩, rfl⟩)
  | some x =>
    cases hb : mn b with
    | none => exact .inl ⟨⟨x, rfl, .inl rfl⟩, rfl⟩
    | some y =>
      simp only
      rcases Int.lt_trichotomy x y with h | h | h
      · rw [if_neg (by omega), if_neg (by omega)]; exact .inl ⟨⟨x, rfl, .inr (by simpa using h)⟩, rfl⟩
      · rw [if_pos h]; refine .inr (.inr ⟨?_, ?_, rfl⟩) <;> (rintro ⟨z, hz, k⟩; cases hz; simp at k; omega)
      · rw [if_neg (by omega), if_pos h]; exact .inr (.inl ⟨⟨y, rfl, .inr (by simpa using h)⟩, rfl⟩)
theorem pts_pos {a b : List Int} (h : Win a b) : 1 ≤ pts a b := by
  obtain ⟨x, h1, h2⟩ := win_iff.1 h
  rw [← cn_pts]
  unfold cn
  rcases mn_spec a with ⟨rfl, h3⟩ | ⟨m, h3, h4, -⟩
  · rw [h3] at h1; cases h1
  · rw [h3] at h1; cases h1
    exact List.length_pos_iff.2 (List.ne_nil_of_mem (List.mem_filter.2 ⟨h4, by simpa using h2⟩))
/-- The count by the team that counts. -/
theorem ref_cases (l : List St) : (∃ T, (T = 0 ∨ T = 1) ∧ Win (hs l T) (hs l (1 - T)) ∧ refT l = (T, ((pts (hs l T) (hs l (1 - T)) : Nat) : Int))) ∨ ((¬ Win (hs l 0) (hs l 1) ∧ ¬ Win (hs l 1) (hs l 0)) ∧ refT l = (-1, 0)) := by
  rw [refT_rT]
  rcases rT_cases (hs l 0) (hs l 1) with ⟨h1, h2⟩ | ⟨h1, h2⟩ | ⟨h1, h2, h3⟩
  · exact .inl ⟨0, .inl rfl, h1, h2⟩
  · exact .inl ⟨1, .inr rfl, h1, h2⟩
  · exact .inr ⟨⟨h1, h2⟩, h3⟩
theorem nodup_bound : ∀ (b : Nat) (l : List Nat), l.Nodup → (∀ x ∈ l, x < b) → l.length ≤ b
  | 0, l, _, h => by
    cases l with
    | nil => simp
    | cons a l => exact absurd (h a (by simp)) (by omega)
  | b + 1, l, hn, h => by
    by_cases hb : b ∈ l
    · have h1 := nodup_bound b (l.erase b) (hn.erase b) (fun x hx => by
        have h2 := (hn.mem_erase_iff).1 hx
        have := h x h2.2
        have : x ≠ b := h2.1
        omega)
      rw [List.length_erase_of_mem hb] at h1
      omega
    · have := nodup_bound b l hn (fun x hx => by
        have := h x hx
        have : x ≠ b := fun e => hb (by rw [← e]; exact hx)
        omega)
      omega
theorem team_len {l : List St} (h : chkB l = true) (t : Int) : (hs l t).length ≤ 8 := by
  rw [chk_iff] at h
  obtain ⟨-, h2, h3, -⟩ := h
  unfold hs
  rw [List.length_map]
  have := nodup_bound 8 ((l.filter (hs1 t)).map fun s => s.n.toNat) (by
    unfold List.Nodup
    rw [List.pairwise_map]
    have h4 := (h3.filter (hs1 t))
    refine (List.pairwise_iff_forall_sublist.2 ?_)
    intro a b hab e
    have h5 := List.pairwise_iff_forall_sublist.1 h4 hab
    have ha := List.mem_filter.1 (hab.subset (by simp : a ∈ [a, b]))
    have hb := List.mem_filter.1 (hab.subset (by simp : b ∈ [a, b]))
    have ka := (h2 a ha.1).1
    have kb := (h2 b hb.1).1
    unfold hs1 at ha hb
    have ea := (of_decide_eq_true ha.2).1
    have eb := (of_decide_eq_true hb.2).1
    unfold nameB at h5
    have : a.n = b.n := by omega
    rw [ea, eb, this] at h5
    simp at h5) (fun x hx => by
    obtain ⟨s, hs, rfl⟩ := List.mem_map.1 hx
    have := (h2 s (List.mem_filter.1 hs).1).1
    omega)
  rwa [List.length_map] at this
end Pl
theorem cnt_ok {l : List St} {t p : Int} (h : cntF l = (t, p, 0)) : chkB l = true ∧ ((t = -1 ∧ p = 0) ∨ ((t = 0 ∨ t = 1) ∧ 1 ≤ p ∧ p ≤ 8)) := by
 unfold cntF at h
 split at h
 ·rename_i hc
  refine ⟨hc, ?_⟩
  injection h with h1 h2
  injection h2 with h2 _
  rcases Pl.ref_cases l with ⟨T, hT, hw, hr⟩ | ⟨-, hr⟩
  ·rw [hr] at h1 h2
   dsimp only at h1 h2
   have a := Pl.pts_pos hw
   have b := Pl.pts_le (Pl.hs l T) (Pl.hs l (1 - T))
   have c := Pl.team_len hc T
   omega
  ·rw [hr] at h1 h2
   dsimp only at h1 h2
   omega
 ·injection h with _ h; injection h with _ h; cases h
/-- An end that is played counts. -/
theorem end_cnt {c : Cd} {first power : Int} {ys : List (Th × List St)} {cs : List Int} (h : endE c first power ys cs = 0) : cntF (endS c first power ys cs).l = ((scoF (endS c first power ys cs)).1, (scoF (endS c first power ys cs)).2.1, 0) := by
 have key : ∀ E : En, (scoF E).2.2 = 0 → cntF E.l = ((scoF E).1, (scoF E).2.1, 0) := fun E hE => by
  unfold scoF at hE ⊢
  split at hE
  ·rename_i h1
   rw [if_pos h1]
   exact Prod.ext rfl (Prod.ext rfl hE)
  ·cases hE
 unfold endE at h
 unfold endS
 split at h
 ·cases h
 ·split at h
  ·rename_i h1; exact absurd h h1
  ·rename_i h0 h1
   (try dsimp only at h ⊢)
   split at h
   ·rename_i h2; exact absurd h h2
   ·rename_i h2
    first | (rw [if_neg h0, if_neg h1]; exact key _ h) | exact key _ h
end Go.Proofs.YtmcpnoailbmkkaaGreatDoor
/- Across layers: turns, and the plain law of a game of ends. -/
namespace Go.Proofs.YtmcpnoailbmkkaaGreatDoor
open Go Go.RowKit Go.Proofs
attribute [local irreducible] J JQ JL JA JD

/-- An end that is played: throws and choices. -/
structure Tu where
 d : Dv Tw
 ch : Dv Int
def eTu (t : Tu) : List Value := [t.d.v, t.ch.v]
theorem ETu : Enc 2 eTu := ⟨fun _ => rfl, fun x v h => by simp [eTu, Dv.v] at h; rcases h with rfl | rfl <;> rfl⟩
def TuW (w : World) (t : Tu) : Prop := Arr 6 eTw w t.d.v t.d.l ∧ t.d.n = t.d.l.length ∧ (∀ p ∈ t.d.l, TwW w p) ∧ Arr 1 eI w t.ch.v t.ch.l ∧ t.ch.n = t.ch.l.length
theorem TuW.up {w w' : World} {t : Tu} (h : TuW w t) (hb : Below w.heap.size w w') : TuW w' t := ⟨h.1.up ETw hb, h.2.1, fun p hp => (h.2.2.1 p hp).up hb, h.2.2.2.1.up EI hb, h.2.2.2.2⟩
theorem nF_all {m : Mt} : ∀ (l : List Lc) (s : Sg), nF m s l = l.length → ∀ j (h : j < l.length), wrB m (stN m s l j) (l[j]'h) = false := by
 intro l
 induction l with
 | nil => intro s _ j h; cases h
 | cons x l ih =>
  intro s hn j h
  unfold nF at hn
  split at hn
  ·cases hn
  ·rename_i h1
   cases j with
   | zero => exact Bool.eq_false_iff.2 h1
   | succ j => exact ih (plS m s x) (by simpa using hn) j (by simpa using h)
theorem st_end (m : Mt) (s : Sg) (l : List Lc) : stN m s l l.length = l.foldl (plS m) s := by unfold stN; rw [List.take_length]
theorem sg_end {m : Mt} {h : Int} {card : List Lc} (hm : m.m ≤ 8) (hh : h = 0 ∨ h = 1) (hn : nF m (bgS h) card = card.length) : SgI m card.length (card.foldl (plS m) (bgS h)) := by
 rw [← st_end]
 exact (SgI.bg hh).stN hm card.length (Nat.le_refl _) (fun j h1 _ => nF_all card _ hn j h1)
theorem rpl_ok {m : Mt} {h : Int} {card : List Lc} (hn : nF m (bgS h) card = card.length) (hl : card.length ≤ 40) : rplF m h card (-1) = (zS, -1, 2) ∨ (okM m = true ∧ (h = 0 ∨ h = 1) ∧ rplF m h card (-1) = (card.foldl (plS m) (bgS h), -1, 0)) := by
 unfold rplF
 by_cases hc : okM m = true ∧ (0 ≤ h ∧ h ≤ 1) ∧ (-1 ≤ (-1 : Int) ∧ (-1 : Int) ≤ 1)
 ·refine .inr ⟨hc.1, by omega, ?_⟩
  rw [if_pos hc, if_neg (by omega), hn, if_neg (Nat.lt_irrefl _), if_pos rfl, st_end]
 ·exact .inl (if_neg hc)
theorem rpl_app {m : Mt} {h : Int} {card : List Lc} {x : Lc} (hM : okM m = true) (hh : h = 0 ∨ h = 1) (hn : nF m (bgS h) card = card.length) (hl : card.length ≤ 30) (hw : wrB m (card.foldl (plS m) (bgS h)) x = false) : nF m (bgS h) (card ++ [x]) = (card ++ [x]).length ∧ rplF m h (card ++ [x]) (-1) = (plS m (card.foldl (plS m) (bgS h)) x, -1, 0) := by
 have h1 : nF m (bgS h) (card ++ [x]) = (card ++ [x]).length := by rw [nF_app card _ x hn hw]; simp
 refine ⟨h1, ?_⟩
 rcases rpl_ok h1 (by simp; omega) with h2 | ⟨-, -, h2⟩
 ·exfalso
  unfold rplF at h2
  rw [if_pos ⟨hM, by omega, by omega⟩, if_neg (by simp; omega), h1, if_neg (Nat.lt_irrefl _), if_pos rfl] at h2
  injection h2 with _ h2; injection h2 with _ h2; cases h2
 ·rw [h2, List.foldl_append]; rfl
theorem pls_e (m : Mt) (s : Sg) (x : Lc) : (plS m s x).e = s.e + 1 := by
 unfold plS pl3 pl2 pl1 endG
 by_cases h0 : x.t = 0
 ·simp only [h0, if_true]; repeat' split
  all_goals rfl
 ·by_cases h1 : x.t = -1
  ·simp only [if_neg h0, if_pos h1]; repeat' split
   all_goals rfl
  ·simp only [if_neg h0, if_neg h1]; repeat' split
   all_goals rfl
theorem pls_h {m : Mt} {s : Sg} {x : Lc} (ho : (plS m s x).o = false) (ht : x.t = 0 ∨ x.t = 1) : (plS m s x).h = 1 - x.t := by
 unfold plS pl3 pl2 pl1 endG at ho ⊢
 rcases ht with h | h
 ·rw [if_pos h] at ho ⊢
  dsimp only at ho ⊢
  split at ho
  ·cases ho
  ·rename_i h1
   split at ho
   ·cases ho
   ·rename_i h2
    rw [if_neg h1, if_neg h2]; dsimp only; omega
 ·rw [if_neg (show ¬ x.t = 0 by omega), if_neg (show ¬ x.t = -1 by omega)] at ho ⊢
  dsimp only at ho ⊢
  split at ho
  ·cases ho
  ·rename_i h1
   split at ho
   ·cases ho
   ·rename_i h2
    rw [if_neg h1, if_neg h2]; dsimp only; omega
theorem FinOk.nil : FinOk [] [] := ⟨rfl, fun _ h => (by cases h), fun i h => (by cases h)⟩
theorem FinOk.app {card : List Lc} {pos : List (List St)} {x : Lc} {p : List St} (h : FinOk card pos) (hc : cntF p = (x.t, x.p, 0)) : FinOk (card ++ [x]) (pos ++ [p]) := by
 refine ⟨by simp [h.len], fun q hq => ?_, fun i h1 h2 => ?_⟩
 ·rcases List.mem_append.1 hq with hq | hq
  ·exact h.chk q hq
  ·rw [List.mem_singleton.1 hq]; exact (cnt_ok hc).1
 ·rcases Nat.lt_or_ge i pos.length with hi | hi
  ·rw [List.getElem_append_left hi, List.getElem_append_left (by rw [← h.len]; exact hi)]
   exact h.cnt i hi _
  ·obtain rfl : i = pos.length := by simp at h1; omega
   rw [List.getElem_append_right (Nat.le_refl _), List.getElem_append_right (by rw [h.len]; exact Nat.le_refl _)]
   simpa [h.len] using hc
theorem ck_app {m : Mt} {h : Int} {card : List Lc} {s : Sg} (hr : rplF m h card (-1) = (s, -1, 0)) : ckF m h card = if s.o = true then (s, -1, 0) else (zS, -1, 9) := by
 unfold ckF; rw [hr]; rw [if_neg (by simp)]
theorem ot_win {s : Sg} {m : Mt} {n : Nat} (hi : SgI m n s) (ho : s.o = true) : (s.w = 0 ∧ otP s = (s.p0, s.p1) ∧ s.p1 < s.p0) ∨ (s.w = 1 ∧ otP s = (s.p0, s.p1) ∧ s.p0 < s.p1) := by
 rcases hi.w ho with ⟨h1, h2⟩ | ⟨h1, h2⟩
 ·refine .inl ⟨h1, ?_, h2⟩
  unfold otP; rw [if_pos h1, Int.max_eq_left (by omega)]
 ·refine .inr ⟨h1, ?_, h2⟩
  unfold otP; rw [if_neg (by omega), Int.max_eq_left (by omega)]
end Go.Proofs.YtmcpnoailbmkkaaGreatDoor
/- The opening example. -/
namespace Go.Proofs.YtmcpnoailbmkkaaGreatDoor
open Go Go.RowKit Go.Proofs
attribute [local irreducible] J JQ JL JA JD

theorem cell_arr {α : Type} {k : Nat} {enc : α → List Value} (E : Enc k enc) {w : World} {b ty : Nat} {vs : List Value} (L : List α) (h : (cellB b vs ty).holds w) (hv : vs = L.flatMap enc) (hn : L.length ≤ 1000) : Arr k enc w (.slice (some ⟨b, 0, none⟩) L.length L.length) L := by
 subst hv
 refine ⟨_, _, rfl, Nat.le_refl _, ⟨by omega, by unfold maxLen; omega⟩, fun _ => ⟨b, 0, rfl, fun j hj i hi => ?_⟩⟩
 have h' : w.heap[b]? = some (.cells (L.flatMap enc).toArray ty (0, 0)) := h
 rw [Nat.zero_add, ← flat_get E hj i hi]
 have hlt : j * k + i < (L.flatMap enc).length := by
  rw [flat_len E]
  have : (j + 1) * k ≤ L.length * k := Nat.mul_le_mul_right k hj
  rw [Nat.succ_mul] at this; omega
 simp [World.cell?, h']
abbrev awC : List St := [⟨0, 0, 0, 0⟩, ⟨0, 1, 0, 26214400⟩]
theorem aw_c : cntF awC = (0, 2, 0) := by decide +kernel
theorem aw_z : zoneR 0 (-196608000) = .tuple #[.int .i64 1, .int .i64 0] := by kernel_rfl
set_option maxRecDepth 100000 in
set_option maxHeartbeats 4000000 in
theorem awake_any (w : World) : Calls Tryz.prog 5 #[] w (Back (.bool true) w) := by
 refine J_enter (fun _ => False) (vs := []) (k := 38) (l := []) Tryz.func5 rfl rfl Tryz.ntmps5 rfl rfl (Wd.start _) ?_
 refine s7 ?_
 refine aP (rp_buildC (fun us => [.int .i64 0, .int .i64 0, .int .i64 0, .int .i64 0]) rfl rfl (fun w => by kernel_rfl)) ?_
 refine aP (rp_buildC (fun us => [.int .i64 0, us.getD 0 undef]) rfl rfl (fun w => by kernel_rfl)) ?_
 refine aP (rp_buildC (fun us => [.int .i64 0, us.getD 0 undef, us.getD 1 undef]) rfl rfl (fun w => by kernel_rfl)) ?_
 refine aW (ow_sliceC (vs := [_, _, _, _, _, _, _, _]) (ty := 43) rfl rfl (by rfl) rfl rfl (fun _ => by kernel_rfl)) (fun b10 hb10 => ?_)
 refine aCB (fun w hw => (Count_any awC _ w (cell_arr ET awC (hw.ok (cellB b10 [.int .i64 0, .int .i64 0, .int .i64 0, .int .i64 0, .int .i64 0, .int .i64 1, .int .i64 0, .int .i64 26214400] 43) (by repeat constructor)).1 rfl (by decide))).mono (fun _ _ h => by rw [aw_c] at h; exact h)) ?_
 refine s10 ?_
 refine kJ [(1, _), (2, _), (3, _)] ?_
 refine s1 ?_
 refine aP (rp_buildC (fun us => [.int .i64 0, us.getD 0 undef]) rfl rfl (fun w => by kernel_rfl)) ?_
 refine aCB (fun w hw => (Zone_any 0 (-196608000) w).mono (fun _ _ h => by rw [aw_z] at h; exact h)) ?_
 refine s8 ?_
 refine kJ [(1, _), (2, _), (3, _), (4, _), (5, _)] ?_
 refine s3 ?_
 refine aDecT ?_ rfl
 refine s3 ?_
 refine aDecT ?_ rfl
 refine s4 ?_
 refine aDecT ?_ rfl
 refine s4 ?_
 refine aDecT ?_ rfl
 refine s4 ?_
 refine aDecT ?_ rfl
 refine s5 ?_
 refine JR_one rfl (rr_tmp rfl) ?_
 intro w' hw
 exact ⟨rfl, hw.bel⟩
end Go.Proofs.YtmcpnoailbmkkaaGreatDoor
/- Across layers, the law: TopGame. -/
namespace Go.Proofs.YtmcpnoailbmkkaaGreatDoor
open Go Go.RowKit Go.Proofs
attribute [local irreducible] J JQ JL JA JD

theorem or_em3 {a b : Prop} (h : a ∨ b) (c : Prop) : a ∨ (b ∧ c) ∨ (b ∧ ¬ c) := h.imp id (fun h => (Classical.em c).imp (And.intro h) (And.intro h))
theorem ot_win3 {s : Sg} {m : Mt} {n : Nat} (hi : SgI m n s) (ho : s.o = true) : (s.w = 0 ∨ s.w = 1) ∧ otP s = (s.p0, s.p1) ∧ ((s.w = 0 ∧ s.p1 < s.p0) ∨ (s.w = 1 ∧ s.p0 < s.p1)) := by
 rcases ot_win hi ho with ⟨h1, h2, h3⟩ | ⟨h1, h2, h3⟩
 ·exact ⟨.inl h1, h2, .inl ⟨h1, h3⟩⟩
 ·exact ⟨.inr h1, h2, .inr ⟨h1, h3⟩⟩
theorem pa68 (x y : Value) (w : World) : (part 3 #[x, y] 0).run Tryz.prog w = .ok x w ∧ (part 3 #[x, y] 1).run Tryz.prog w = .ok y w := ⟨by kernel_rfl, by kernel_rfl⟩
theorem ein68 (d : Nat) (a b a' b' : Int) (w : World) : (Op.equalIn (d + 2) 68 (.agg #[.int .i64 a, .int .i64 b]) (.agg #[.int .i64 a', .int .i64 b'])).run Tryz.prog w = .ok (a == a' && b == b') w := by
 obtain ⟨i3, hi3⟩ : ∃ i, Tryz.prog.info? 3 = some i := by
  cases h : Tryz.prog.info? 3 with
  | none => have : (Tryz.prog.info? 3).isSome = true := by kernel_rfl
            rw [h] at this; cases this
  | some i => exact ⟨i, rfl⟩
 rw [run_equalIn_array w (d + 1) _ _ Tryz.underlying68 hi3, show Tryz.prog.cellsOf 3 = 1 by kernel_rfl]
 have e : List.range 2 = [0, 1] := rfl
 rw [e]
 cases h1 : a == a' <;> cases h2 : b == b' <;>
  simp [Op.eqItems, Sem.run_bind, (pa68 _ _ _).1, (pa68 _ _ _).2, ein3, h1, h2, Result.andThen_ok, Sem.run_pure]
theorem pNeqA {n : Nat} {l : Sl} {o : Oper} {x y : Operand} {ty : TypeId} {a b a' b' : Int} (ho : o.op = .binOp .neq 68 x y ty) (hx : evl l x = some (.agg #[.int .i64 a, .int .i64 b])) (hy : evl l y = some (.agg #[.int .i64 a', .int .i64 b'])) : RP Tryz.prog n l o (.bool (!(a == a' && b == b'))) := rp2 hx hy (fun ρ h1 h2 w => by
 unfold execOp
 have h : (binOp .neq 68 (.agg #[.int .i64 a, .int .i64 b]) (.agg #[.int .i64 a', .int .i64 b'])).run Tryz.prog w = .ok (.bool (!(a == a' && b == b'))) w := by
  rw [run_neq_struct, ein68 9998 a b a' b' w]; rfl
 have hg : Tryz.prog.eqGuardType Tryz.prog.depth 68 = false := by kernel_rfl
 simp only [ho, h1, h2]
 simp [eqGuard, Sem.run_bind, hg, h])
set_option maxRecDepth 100000 in
set_option maxHeartbeats 4000000 in
theorem Game_law (c : Cd) (m : Mt) (hammer : Int) (l : List Tu) (A : Option Addr) (cap : Nat) (w : World) (hrow : Arr 2 eTu w (.slice A l.length cap) l) (hT : ∀ t ∈ l, TuW w t) (hT0 : Tab w) (hM : MxL w) : Calls Tryz.prog 4 #[Cdv c, Mtv m, .int .i64 hammer, .slice A l.length cap] w (Back (.bool true) w) := by
 obtain ⟨kf, kt, ks, ke, kp⟩ := c
 obtain ⟨me, mm, my, mc, mp⟩ := m
 obtain ⟨A1, cap1, e0, -, ⟨hll, -⟩, hAl⟩ := hrow
 obtain ⟨rfl, -, rfl⟩ : A = A1 ∧ True ∧ cap = cap1 := by injection e0 with e1 _ e3; exact ⟨e1, trivial, e3⟩
 clear e0
 refine J_enter (fun _ => False) (vs := [.agg #[.int .i64 kf, .int .i64 kt, .int .i64 ks, .int .i64 ke, .bool kp], .agg #[.int .i64 me, .int .i64 mm, .int .i64 my, .bool mc, .bool mp], .int .i64 hammer, .slice A l.length cap]) (k := 231) (l := [(0, .agg #[.int .i64 kf, .int .i64 kt, .int .i64 ks, .int .i64 ke, .bool kp]), (1, .agg #[.int .i64 me, .int .i64 mm, .int .i64 my, .bool mc, .bool mp]), (2, .int .i64 hammer), (3, .slice A l.length cap)]) Tryz.func4 rfl rfl Tryz.ntmps4 rfl rfl (Wd.start _) ?_
 refine s2 ?_
 refine aW (oX [_, _, _, _, _]) (fun b4 hb4 => ?_)
 refine aW (oX [_, _, _, _, _]) (fun b5 hb5 => ?_)
 refine s9 ?_
 refine JL_dec (fun h29 => ?_) (fun h29 => ?_)
 ·refine s4 ?_
  refine kJ [] ?_
  refine s1 ?_
  refine aCB (fun w hw => awake_any w) ?_
  refine s5 ?_
  refine JR_one rfl (rr_tmp rfl) ?_
  intro w' hw
  exact ⟨rfl, hw.bel⟩
 ·refine s7 ?_
  refine kJ [(2, _), (3, _), (4, _), (5, _)] ?_
  refine s5 ?_
  refine xL (T := Nat) (fun k => k ≤ l.length) (fun k => [(2, .int .i64 hammer), (3, .slice A l.length cap), (4, .pointer (some ⟨b4, 0, none⟩)), (5, .pointer (some ⟨b5, 0, none⟩)), (9, .int .i64 (k : Nat))]) (fun k => [cellB b4 [.int .i64 kf, .int .i64 kt, .int .i64 ks, .int .i64 ke, .bool kp] 23, cellB b5 [.int .i64 me, .int .i64 mm, .int .i64 my, .bool mc, .bool mp] 61]) (fun k => l.length - k) 0 (Nat.zero_le _) ?_
  rintro k hk
  refine s7 ?_
  refine JL_dec (fun h34 => ?_) (fun h34 => ?_)
  ·refine s8 ?_
   have hlt : k < l.length := by omega
   obtain ⟨bt, qt, rfl, hht⟩ := hAl (by intro e; subst e; simp at hlt)
   obtain ⟨⟨⟨dA, dn, dc, dl⟩, ⟨cA, cn, cc, cl⟩⟩, hx⟩ : ∃ y, l[k]'hlt = y := ⟨_, rfl⟩
   obtain ⟨hd1, hd2, hd3, hd4, hd5⟩ := hT _ (show (⟨⟨dA, dn, dc, dl⟩, ⟨cA, cn, cc, cl⟩⟩ : Tu) ∈ l by rw [← hx]; exact List.getElem_mem _)
   dsimp only at hd1 hd2 hd3 hd4 hd5
   subst hd2 hd5
   refine kJ [(2, _), (3, _), (4, _), (5, _), (9, _)] ?_
   refine s5 ?_
   refine aV (vHold (i := 0) (v := .slice dA dl.length dc) rfl rfl (fun h => h) hht hlt (by omega) (by rw [hx]; rfl)) ?_
   refine aCB (fun w hw => far_any dl dA dc w (hd1.up ETw hw.bel)) ?_
   refine JL_bool (fun h42 => ?_) (fun h42 => ?_)
   ·refine s13 ?_
    refine kJ [] ?_
    refine s1 ?_
    refine aCB (fun w hw => awake_any w) ?_
    refine s9 ?_
    refine JR_one rfl (rr_tmp rfl) ?_
    intro w' hw
    exact ⟨rfl, hw.bel⟩
   ·refine s5 ?_
    refine aV (vHold (i := 1) (v := .slice cA cl.length cc) rfl rfl (fun h => h) hht hlt (by omega) (by rw [hx]; rfl)) ?_
    refine s2 ?_
    refine JL_dec (fun h50 => ?_) (fun h50 => ?_)
    ·refine s5 ?_
     refine kJ [] ?_
     refine s1 ?_
     refine aCB (fun w hw => awake_any w) ?_
     refine s9 ?_
     refine JR_one rfl (rr_tmp rfl) ?_
     intro w' hw
     exact ⟨rfl, hw.bel⟩
    ·refine s7 ?_
     refine kJ [(2, _), (3, _), (4, _), (5, _), (9, _)] ?_
     refine s5 ?_
     exact xR (k + 1) (by omega) (by omega) (hl := ⟨rfl, rfl, rfl, rfl, (congrArg some (by go_num)), trivial⟩)
  ·refine s9 ?_
   refine kJ [(2, _), (3, _), (4, _), (5, _)] ?_
   refine s8 ?_
   refine aP (rp_buildC (fun us => [us.getD 0 undef, us.getD 1 undef, us.getD 2 undef, .slice none 0 0, us.getD 3 undef, .int .i64 0, .int .i64 0, .slice none 0 0]) rfl rfl (fun w => by kernel_rfl)) ?_
   refine aW oA (fun b10 hb10 => ?_)
   refine s10 ?_
   refine J_own0 78 3 ?_
   refine J_own0 85 2 ?_
   refine xL (T := Nat × List Lc × List (List St) × (Option Addr × Nat) × (Option Addr × Nat)) (fun q => q.1 ≤ l.length ∧ q.2.1.length = q.1 ∧ FinOk q.2.1 q.2.2.1 ∧ nF (⟨me, 8, my, mc, mp⟩ : Mt) (bgS hammer) q.2.1 = q.2.1.length) (fun q => [(2, .int .i64 hammer), (3, .slice A l.length cap), (4, .pointer (some ⟨b4, 0, none⟩)), (5, .pointer (some ⟨b5, 0, none⟩)), (10, .pointer (some ⟨b10, 0, none⟩)), (11, .int .i64 (q.1 : Nat))]) (fun q => [cellB b4 [.int .i64 kf, .int .i64 kt, .int .i64 ks, .int .i64 ke, .bool kp] 23, cellB b5 [.int .i64 me, .int .i64 8, .int .i64 my, .bool mc, .bool mp] 61, cellB b10 [.int .i64 0, .int .i64 1, .int .i64 hammer, .slice q.2.2.2.1.1 q.2.1.length q.2.2.2.1.2, .int .i64 (-1), .int .i64 0, .int .i64 0, .slice q.2.2.2.2.1 q.2.2.1.length q.2.2.2.2.2] 71, ownB 78 3 q.2.2.2.1.1 q.2.1.length q.2.2.2.1.2 (q.2.1.flatMap eLc), ownB 85 2 q.2.2.2.2.1 q.2.2.1.length q.2.2.2.2.2 (q.2.2.1.flatMap eFn)]) (fun q => l.length - q.1) (0, [], [], (none, 0), (none, 0)) ⟨Nat.zero_le _, rfl, FinOk.nil, rfl⟩ ?_
   rintro ⟨k, card, pos, rr, ff⟩ ⟨hk, hcl, hfo, hnF⟩
   dsimp only at hk hcl hfo hnF ⊢
   have hpl := hfo.len
   refine s7 ?_
   refine JL_dec (fun h59 => ?_) (fun h59 => ?_)
   ·refine s8 ?_
    have hlt : k < l.length := by omega
    obtain ⟨bt, qt, rfl, hht⟩ := hAl (by intro e; subst e; simp at hlt)
    obtain ⟨⟨⟨dA, dn, dc, dl⟩, ⟨cA, cn, cc, cl⟩⟩, hx⟩ : ∃ y, l[k]'hlt = y := ⟨_, rfl⟩
    obtain ⟨hd1, hd2, hd3, hd4, hd5⟩ := hT _ (show (⟨⟨dA, dn, dc, dl⟩, ⟨cA, cn, cc, cl⟩⟩ : Tu) ∈ l by rw [← hx]; exact List.getElem_mem _)
    dsimp only at hd1 hd2 hd3 hd4 hd5
    subst hd2 hd5
    obtain ⟨⟨S, ra, re⟩, hr⟩ : ∃ r, r = rplF (⟨me, 8, my, mc, mp⟩ : Mt) hammer card (-1) := ⟨_, rfl⟩
    refine kJ [(2, _), (3, _), (4, _), (5, _), (10, _), (11, _)] ?_
    refine s5 ?_
    refine aCB (fun w hw => (Replay_any (⟨me, 8, my, mc, mp⟩ : Mt) hammer card rr.1 rr.2 (-1) w (own_arr (A := rr.1) (c := rr.2) (ty := 78) (L := card) ELc hw (by repeat constructor) (by (try rw [List.length_append]); (try dsimp only [List.length]); omega))).mono (fun _ _ h => by rw [← hr] at h; dsimp only [Sgv] at h; exact h)) ?_
    refine s4 ?_
    refine aW oA (fun b12 hb12 => ?_)
    refine aW0 (wStore (cs := [_, _, _, _, _, _, _, _, _]) rfl rfl rfl rfl rfl rfl rfl (by repeat constructor) rfl rfl) ?_
    refine s6 ?_
    rcases or_em3 (rpl_ok hnF (by omega)) (endE (⟨kf, kt, ks, ke, kp⟩ : Cd) (1 - S.h) 0 (dl.map twP) cl = 0) with hb | ⟨⟨hOK, hH, hb⟩, hq⟩ | ⟨⟨hOK, hH, hb⟩, hq⟩
    ·rw [hb] at hr
     obtain ⟨rfl, rfl, rfl⟩ : S = zS ∧ ra = -1 ∧ re = 2 := by injection hr with e1 e2; injection e2 with e2 e3; exact ⟨e1, e2, e3⟩
     refine kJ [(2, _), (3, _), (4, _), (5, _), (10, _), (11, _), (12, _), (13, _), (14, _)] ?_
     refine s3 ?_
     refine aDecT ?_ (by decide)
     refine s8 ?_
     refine kJ [(13, _), (14, _)] ?_
     refine s3 ?_
     refine aDecF ?_ (by decide)
     refine s3 ?_
     refine aDecT ?_ rfl
     refine s3 ?_
     refine aDecT ?_ rfl
     refine s3 ?_
     refine aCB (fun w hw => awake_any w) ?_
     refine s11 ?_
     refine JR_one rfl (rr_tmp rfl) ?_
     intro w' hw
     exact ⟨rfl, hw.bel⟩
    ·rw [hb] at hr
     obtain ⟨hS, rfl, rfl⟩ : S = card.foldl (plS (⟨me, 8, my, mc, mp⟩ : Mt)) (bgS hammer) ∧ ra = -1 ∧ re = 0 := by injection hr with e1 e2; injection e2 with e2 e3; exact ⟨e1, e2, e3⟩
     have hcn0 := end_cnt hq
     obtain ⟨E, hEE⟩ : ∃ E, E = endS (⟨kf, kt, ks, ke, kp⟩ : Cd) (1 - S.h) 0 (dl.map twP) cl := ⟨_, rfl⟩
     rw [← hEE] at hcn0
     obtain ⟨⟨tm, pt, er⟩, hsc⟩ : ∃ z, scoF E = z := ⟨_, rfl⟩
     rw [hsc] at hcn0
     dsimp only at hcn0
     obtain ⟨p, hp⟩ : ∃ p, p = E.l := ⟨_, rfl⟩
     have hcn : cntF p = (tm, pt, 0) := by rw [hp]; exact hcn0
     obtain ⟨hpc, hrng⟩ := cnt_ok hcn
     have hp16 := (chk_facts hpc).1
     refine kJ [(2, _), (3, _), (4, _), (5, _), (10, _), (11, _), (12, _), (13, _), (14, _)] ?_
     refine s3 ?_
     refine aDecF ?_ (by decide)
     refine s3 ?_
     refine JL_bool (fun h75 => ?_) (fun h75 => ?_)
     ·refine s5 ?_
      refine kJ [(13, _), (14, _)] ?_
      refine s3 ?_
      refine aDecT ?_ rfl
      refine s9 ?_
      refine aCB (fun w hw => awake_any w) ?_
      refine s11 ?_
      refine JR_one rfl (rr_tmp rfl) ?_
      intro w' hw
      exact ⟨rfl, hw.bel⟩
     ·refine s6 ?_
      refine xC (T := Nat × Option Addr × Nat) (fun q => True) (fun q => [(2, .int .i64 hammer), (3, .slice (some ⟨bt, qt, none⟩) l.length cap), (4, .pointer (some ⟨b4, 0, none⟩)), (5, .pointer (some ⟨b5, 0, none⟩)), (10, .pointer (some ⟨b10, 0, none⟩)), (11, .int .i64 (k : Nat)), (12, .pointer (some ⟨b12, 0, none⟩)), (15, .pointer (some ⟨q.1, 0, none⟩)), (16, .slice q.2.1 p.length q.2.2), (17, .int .i64 0)]) (fun q => [cellB b4 [.int .i64 kf, .int .i64 kt, .int .i64 ks, .int .i64 ke, .bool kp] 23, cellB b5 [.int .i64 me, .int .i64 8, .int .i64 my, .bool mc, .bool mp] 61, cellB b10 [.int .i64 0, .int .i64 1, .int .i64 hammer, .slice rr.1 card.length rr.2, .int .i64 (-1), .int .i64 0, .int .i64 0, .slice ff.1 pos.length ff.2] 71, ownB 78 3 rr.1 card.length rr.2 (card.flatMap eLc), ownB 85 2 ff.1 pos.length ff.2 (pos.flatMap eFn), cellB b12 [.int .i64 S.p0, .int .i64 S.p1, .int .i64 S.e, .int .i64 S.h, .int .i64 S.w, .bool S.o, .bool S.x, .bool S.w0, .bool S.w1] 74, cellB q.1 [.int .i64 tm, .int .i64 pt, .bool false] 78, ownB 43 4 q.2.1 p.length q.2.2 (p.flatMap eT)]) ?_ ?_
      ·have hI1 : SgI (⟨me, 8, my, mc, mp⟩ : Mt) card.length S := by rw [hS]; exact sg_end (show (8 : Int) ≤ 8 by decide) hH hnF
       have hSh := hI1.h h75
       refine kJ [(2, _), (3, _), (4, _), (5, _), (10, _), (11, _), (12, _)] ?_
       refine xDx [0, 1, 2, 3, 4, 5, 6, 7, 8, 9, 10, 11, 12, 13] [] [0, 2, 8, 13] [cellB b4 [.int .i64 kf, .int .i64 kt, .int .i64 ks, .int .i64 ke, .bool kp] 23, cellB b12 [.int .i64 S.p0, .int .i64 S.p1, .int .i64 S.e, .int .i64 S.h, .int .i64 S.w, .bool S.o, .bool S.x, .bool S.w0, .bool S.w1] 74] ?_
       refine s8 ?_
       refine dX rfl (vHold (i := 0) (v := .slice dA dl.length dc) rfl rfl (fun h => h) hht hlt (by omega) (by rw [hx]; rfl)) ?_
       refine s4 ?_
       refine dX rfl (vHold (i := 1) (v := .slice cA cl.length cc) rfl rfl (fun h => h) hht hlt (by omega) (by rw [hx]; rfl)) ?_
       refine dPair (i := 14) (j := 19) (by kernel_rfl) ?_ ?_
       ·refine St1_mk rfl wAny (oR (fun w hw => (End_any (⟨kf, kt, ks, ke, kp⟩ : Cd) (1 - S.h) 0 dl dA dc cl cA cc w (hd1.up ETw hw.bel) (fun p hp => (hd3 p hp).up hw.bel) (hd4.up EI hw.bel)).mono (fun _ _ h => by unfold RetEn at h; rw [if_pos hq, ← hEE, ← hp, hsc, show decide ((0 : Int) ≠ 0) = false from rfl] at h; exact h))) (by first | exact trivial | exact ⟨by kernel_rfl, .inl (rfl : waitsB _ [] _ = true)⟩ | exact ⟨by kernel_rfl, .inr ⟨rfl, by repeat constructor⟩⟩) (fun t105 _ => ?_)
        refine dOA [15, 16, 17, 18, 19, 20, 21, 22] ?_
        refine s4 ?_
        refine dW rfl oA (fun b15 hb15 => ?_)
        refine s4 ?_
        exact xE (b15, t105.1, t105.2) trivial
       ·refine St1_mk rfl wAny oA (by first | exact trivial | exact ⟨by kernel_rfl, .inl (rfl : waitsB _ [] _ = true)⟩ | exact ⟨by kernel_rfl, .inr ⟨rfl, by repeat constructor⟩⟩) (fun b15 hb15 => ?_)
        refine dOA [14, 15, 16, 17, 18, 20, 21, 22] ?_
        refine dW rfl (oR (fun w hw => (End_any (⟨kf, kt, ks, ke, kp⟩ : Cd) (1 - S.h) 0 dl dA dc cl cA cc w (hd1.up ETw hw.bel) (fun p hp => (hd3 p hp).up hw.bel) (hd4.up EI hw.bel)).mono (fun _ _ h => by unfold RetEn at h; rw [if_pos hq, ← hEE, ← hp, hsc, show decide ((0 : Int) ≠ 0) = false from rfl] at h; exact h))) (fun t105 _ => ?_)
        refine s8 ?_
        exact xE (b15, t105.1, t105.2) trivial
      ·rintro ⟨b15, pA, pc⟩ -
       dsimp only
       refine s5 ?_
       refine aDecF ?_ (by decide)
       refine s8 ?_
       refine aCB (fun w hw => Print_any p _ w (own_arr (A := pA) (c := pc) (ty := 43) (L := p) ET hw (by repeat constructor) (by omega)) hpc (hT0.up hw.bel)) ?_
       refine s7 ?_
       refine xC (T := Option Addr × Nat) (fun q => True) (fun q => [(2, .int .i64 hammer), (3, .slice (some ⟨bt, qt, none⟩) l.length cap), (4, .pointer (some ⟨b4, 0, none⟩)), (5, .pointer (some ⟨b5, 0, none⟩)), (10, .pointer (some ⟨b10, 0, none⟩)), (11, .int .i64 (k : Nat)), (12, .pointer (some ⟨b12, 0, none⟩)), (15, .pointer (some ⟨b15, 0, none⟩)), (18, .string ⟨(printL p).toArray⟩), (19, .int .i64 0)]) (fun q => [cellB b4 [.int .i64 kf, .int .i64 kt, .int .i64 ks, .int .i64 ke, .bool kp] 23, cellB b5 [.int .i64 me, .int .i64 8, .int .i64 my, .bool mc, .bool mp] 61, cellB b10 [.int .i64 0, .int .i64 1, .int .i64 hammer, .slice q.1 (card ++ [(⟨tm, pt, false⟩ : Lc)]).length q.2, .int .i64 (-1), .int .i64 0, .int .i64 0, .slice ff.1 pos.length ff.2] 71, ownB 78 3 q.1 (card ++ [(⟨tm, pt, false⟩ : Lc)]).length q.2 ((card ++ [(⟨tm, pt, false⟩ : Lc)]).flatMap eLc), ownB 85 2 ff.1 pos.length ff.2 (pos.flatMap eFn), cellB b12 [.int .i64 S.p0, .int .i64 S.p1, .int .i64 S.e, .int .i64 S.h, .int .i64 S.w, .bool S.o, .bool S.x, .bool S.w0, .bool S.w1] 74, cellB b15 [.int .i64 tm, .int .i64 pt, .bool false] 78]) ?_ ?_
       ·refine kJ [(2, _), (3, _), (4, _), (5, _), (10, _), (11, _), (12, _), (15, _), (18, _), (19, _)] ?_
        refine xDx [1, 2, 4] [] [2, 4] [cellB b10 [.int .i64 0, .int .i64 1, .int .i64 hammer, .slice rr.1 card.length rr.2, .int .i64 (-1), .int .i64 0, .int .i64 0, .slice ff.1 pos.length ff.2] 71, cellB b15 [.int .i64 tm, .int .i64 pt, .bool false] 78] ?_
        refine s3 ?_
        refine dPair (i := 0) (j := 5) (by kernel_rfl) ?_ ?_
        ·refine St1_mk rfl wAny (ow_slice0 (k := 3) (ty := 78) rfl rfl rfl (fun _ => by kernel_rfl)) (by first | exact trivial | exact ⟨by kernel_rfl, .inl (rfl : waitsB _ [] _ = true)⟩ | exact ⟨by kernel_rfl, .inr ⟨rfl, by repeat constructor⟩⟩) (fun b117 hb117 => ?_)
         refine dOA [] ?_
         refine dPair (i := 3) (j := 5) (by kernel_rfl) ?_ ?_
         ·refine St1_mk rfl wAny (oAppG (sl := 67) ELc ([] : List Lc) card (fun w hw => (own_arr (A := rr.1) (c := rr.2) (ty := 78) (L := card) ELc hw (by repeat constructor) (by (try rw [List.length_append]); (try dsimp only [List.length]); omega))) rfl (Nat.le_refl _) (hl := by simp; omega)) (by first | exact trivial | exact ⟨by kernel_rfl, .inl (rfl : waitsB _ [] _ = true)⟩ | exact ⟨by kernel_rfl, .inr ⟨rfl, by repeat constructor⟩⟩) (fun t120 _ => ?_)
          dsimp only [List.nil_append]
          refine dOA [5, 6, 7, 8] ?_
          refine dW rfl (ow_sliceC (vs := [_, _, _]) (ty := 78) rfl rfl (by rfl) rfl rfl (fun _ => by kernel_rfl)) (fun b122 hb122 => ?_)
          refine dS rfl (oApp (sl := 67) ELc ((⟨tm, pt, false⟩ : Lc))) (fun A123 c123 => ?_)
          refine s1 ?_
          refine dW0 rfl wAnyS ?_ (hm := by exact ⟨by kernel_rfl, .inl (by kernel_rfl)⟩)
          refine s1 ?_
          exact xE (A123, c123) trivial
         ·refine St1_mk rfl wAny (ow_sliceC (vs := [_, _, _]) (ty := 78) rfl rfl (by rfl) rfl rfl (fun _ => by kernel_rfl)) (by first | exact trivial | exact ⟨by kernel_rfl, .inl (rfl : waitsB _ [] _ = true)⟩ | exact ⟨by kernel_rfl, .inr ⟨rfl, by repeat constructor⟩⟩) (fun b122 hb122 => ?_)
          refine dOA [3, 6, 7, 8] ?_
          refine dW rfl (oAppG (sl := 67) ELc ([] : List Lc) card (fun w hw => (own_arr (A := rr.1) (c := rr.2) (ty := 78) (L := card) ELc hw (by repeat constructor) (by (try rw [List.length_append]); (try dsimp only [List.length]); omega))) rfl (Nat.le_refl _) (hl := by simp; omega)) (fun t120 _ => ?_)
          dsimp only [List.nil_append]
          refine dS rfl (oApp (sl := 67) ELc ((⟨tm, pt, false⟩ : Lc))) (fun A123 c123 => ?_)
          refine s1 ?_
          refine dW0 rfl wAnyS ?_ (hm := by exact ⟨by kernel_rfl, .inl (by kernel_rfl)⟩)
          refine s1 ?_
          exact xE (A123, c123) trivial
        ·refine St1_mk rfl wAny (ow_sliceC (vs := [_, _, _]) (ty := 78) rfl rfl (by rfl) rfl rfl (fun _ => by kernel_rfl)) (by first | exact trivial | exact ⟨by kernel_rfl, .inl (rfl : waitsB _ [] _ = true)⟩ | exact ⟨by kernel_rfl, .inr ⟨rfl, by repeat constructor⟩⟩) (fun b122 hb122 => ?_)
         refine dOA [0, 3, 6, 7, 8] ?_
         refine dW rfl (ow_slice0 (k := 3) (ty := 78) rfl rfl rfl (fun _ => by kernel_rfl)) (fun b117 hb117 => ?_)
         refine dW rfl (oAppG (sl := 67) ELc ([] : List Lc) card (fun w hw => (own_arr (A := rr.1) (c := rr.2) (ty := 78) (L := card) ELc hw (by repeat constructor) (by (try rw [List.length_append]); (try dsimp only [List.length]); omega))) rfl (Nat.le_refl _) (hl := by simp; omega)) (fun t120 _ => ?_)
         dsimp only [List.nil_append]
         refine dS rfl (oApp (sl := 67) ELc ((⟨tm, pt, false⟩ : Lc))) (fun A123 c123 => ?_)
         refine s1 ?_
         refine dW0 rfl wAnyS ?_ (hm := by exact ⟨by kernel_rfl, .inl (by kernel_rfl)⟩)
         refine s1 ?_
         exact xE (A123, c123) trivial
       ·rintro q -
        refine s2 ?_
        refine aW (ow_slice0 (k := 2) (ty := 85) rfl rfl rfl (fun _ => by kernel_rfl)) (fun b125 hb125 => ?_)
        refine s2 ?_
        refine aW (oAppG (sl := 69) EFn ([] : List (List St)) pos (fun w hw => (own_arr (A := ff.1) (c := ff.2) (ty := 85) (L := pos) EFn hw (by repeat constructor) (by (try rw [List.length_append]); (try dsimp only [List.length]); omega))) rfl (Nat.le_refl _) (hl := by simp; omega)) (fun t128 _ => ?_)
        dsimp only [List.nil_append]
        refine s1 ?_
        refine aP (rp_buildC (fun us => [us.getD 0 undef, .slice none 0 0]) rfl rfl (fun w => by kernel_rfl)) ?_
        refine aW (ow_sliceC (vs := [_, _]) (ty := 85) rfl rfl (by rfl) rfl rfl (fun _ => by kernel_rfl)) (fun b131 hb131 => ?_)
        refine aS (oApp (sl := 69) EFn (p)) (fun A132 c132 => ?_)
        refine s5 ?_
        have hI1 : SgI (⟨me, 8, my, mc, mp⟩ : Mt) card.length S := by rw [hS]; exact sg_end (show (8 : Int) ≤ 8 by decide) hH hnF
        have hSe := hI1.e
        have hwx : wrB (⟨me, 8, my, mc, mp⟩ : Mt) S (⟨tm, pt, false⟩ : Lc) = false := wr_ok h75 rfl hrng
        obtain ⟨hn2, hr2⟩ := rpl_app (x := (⟨tm, pt, false⟩ : Lc)) hOK hH hnF (by omega) (by rw [← hS]; exact hwx)
        obtain ⟨S2, hS2⟩ : ∃ s, s = plS (⟨me, 8, my, mc, mp⟩ : Mt) S (⟨tm, pt, false⟩ : Lc) := ⟨_, rfl⟩
        rw [← hS] at hr2
        have hfo2 := hfo.app (x := (⟨tm, pt, false⟩ : Lc)) (p := p) hcn
        have hS2e : S2.e = S.e + 1 := by rw [hS2]; exact pls_e _ _ _
        have hI2 : SgI (⟨me, 8, my, mc, mp⟩ : Mt) (k + 1) S2 := by have h := sg_end (m := (⟨me, 8, my, mc, mp⟩ : Mt)) (show (8 : Int) ≤ 8 by decide) hH hn2; rw [List.foldl_append, ← hS, List.length_append, hcl] at h; rw [hS2]; exact h
        have hck := ck_app hr2
        rw [← hS2] at hck
        refine kJ [(2, _), (3, _), (4, _), (5, _), (10, _), (11, _), (12, _), (15, _), (19, _)] ?_
        refine s5 ?_
        refine aCB (fun w hw => (Replay_any (⟨me, 8, my, mc, mp⟩ : Mt) hammer (card ++ [(⟨tm, pt, false⟩ : Lc)]) q.1 q.2 (-1) w (own_arr (A := q.1) (c := q.2) (ty := 78) (L := (card ++ [(⟨tm, pt, false⟩ : Lc)])) ELc hw (by repeat constructor) (by (try rw [List.length_append]); (try dsimp only [List.length]); omega))).mono (fun _ _ h => by rw [hr2, ← hS2] at h; dsimp only [Sgv] at h; exact h)) ?_
        refine s4 ?_
        refine aW oA (fun b20 hb20 => ?_)
        refine aW0 (wStore (cs := [_, _, _, _, _, _, _, _, _]) rfl rfl rfl rfl rfl rfl rfl (by repeat constructor) rfl rfl) ?_
        refine s6 ?_
        refine kJ [(2, _), (3, _), (4, _), (5, _), (10, _), (11, _), (12, _), (15, _), (19, _), (20, _), (21, _), (22, _)] ?_
        refine s3 ?_
        refine aDecF ?_ (by decide)
        refine s3 ?_
        refine aDecF ?_ (by decide)
        refine s4 ?_
        refine aDecF ?_ (by decide)
        refine s8 ?_
        refine aDecF ?_ (fun h => h hS2e)
        refine s8 ?_
        refine kJ [(2, _), (3, _), (4, _), (5, _), (10, _), (11, _), (15, _), (20, _)] ?_
        refine s3 ?_
        refine JL_bool (fun h162 => ?_) (fun h162 => ?_)
        ·refine s20 ?_
         have hck1 : ckF (⟨me, 8, my, mc, mp⟩ : Mt) hammer (card ++ [(⟨tm, pt, false⟩ : Lc)]) = (S2, -1, 0) := by rw [hck, if_pos h162]
         refine kJ [(2, _), (3, _), (4, _), (5, _), (10, _), (11, _), (20, _)] ?_
         refine s3 ?_
         refine aCB (fun w hw => (CheckSheet_any (⟨me, 8, my, mc, mp⟩ : Mt) hammer (card ++ [(⟨tm, pt, false⟩ : Lc)]) q.1 q.2 (pos ++ [p]) A132 c132 w (own_arr (A := q.1) (c := q.2) (ty := 78) (L := (card ++ [(⟨tm, pt, false⟩ : Lc)])) ELc hw (by repeat constructor) (by (try rw [List.length_append]); (try dsimp only [List.length]); omega)) (own_arr (A := (A132, c132).1) (c := (A132, c132).2) (ty := 85) (L := (pos ++ [p])) EFn hw (by repeat constructor) (by (try rw [List.length_append]); (try dsimp only [List.length]); omega)) hfo2 (hT0.up hw.bel) (hM.up hw.bel)).mono (fun _ _ h => by rw [hck1] at h; exact h)) ?_
         refine s9 ?_
         refine kJ [(2, _), (3, _), (4, _), (5, _), (10, _), (11, _), (20, _), (23, _), (24, _)] ?_
         refine s3 ?_
         refine aDecF ?_ (fun h => h rfl)
         refine s3 ?_
         refine aBoolT ?_ h162
         refine s2 ?_
         refine aP (pNeqB rfl rfl rfl) ?_
         refine aBoolF ?_ rfl
         refine s4 ?_
         refine aBoolT ?_ h162
         refine s12 ?_
         have hot := ot_win3 hI2 h162
         refine kJ [(2, _), (3, _), (4, _), (5, _), (10, _), (11, _), (20, _)] ?_
         refine s3 ?_
         refine aCB (fun w hw => (Outcome_any (⟨me, 8, my, mc, mp⟩ : Mt) hammer (card ++ [(⟨tm, pt, false⟩ : Lc)]) q.1 q.2 (pos ++ [p]) A132 c132 w (own_arr (A := q.1) (c := q.2) (ty := 78) (L := (card ++ [(⟨tm, pt, false⟩ : Lc)])) ELc hw (by repeat constructor) (by (try rw [List.length_append]); (try dsimp only [List.length]); omega)) (own_arr (A := (A132, c132).1) (c := (A132, c132).2) (ty := 85) (L := (pos ++ [p])) EFn hw (by repeat constructor) (by (try rw [List.length_append]); (try dsimp only [List.length]); omega)) hfo2 (hT0.up hw.bel) (hM.up hw.bel) (by rw [hck1]; intro _; exact hot.1) (by rw [hck1]; have h1 := hI2.p0; have h2 := hI2.p1; dsimp only; omega)).mono (fun _ _ h => by rw [hck1, show otV (S2, -1, 0) = .tuple #[.agg #[.int .i64 0, .int .i64 1, .int .i64 (otP S2).1, .int .i64 (otP S2).2, .int .i64 0, .int .i64 0], .int .i64 0] from if_pos rfl, hot.2.1] at h; exact h)) ?_
         refine s3 ?_
         refine aW oA (fun b25 hb25 => ?_)
         refine s5 ?_
         rcases hot.1 with hw0 | hw0
         ·rw [hw0]
          refine kJ [(2, _), (3, _), (4, _), (5, _), (10, _), (11, _), (20, _), (25, _), (26, _)] ?_
          refine xD [0, 1, 2, 3, 4, 5, 6, 7, 8, 9, 10, 11, 12, 13, 14, 15, 16, 17, 18, 19, 20, 21, 22, 23, 24, 25, 26] [1, 7, 9, 14, 17, 19, 23] ?_
          refine s2 ?_
          refine dBoolT ?_ h162
          refine s3 ?_
          refine dDecF ?_ (by decide)
          refine s5 ?_
          refine dP rfl (pNeqA rfl rfl rfl) ?_
          refine dBoolF ?_ (by simp)
          refine s5 ?_
          refine dP rfl (rp_arrC rfl rfl rfl ia_68_0 rfl) ?_
          refine s5 ?_
          refine dP rfl (rp_arrC rfl rfl rfl ia_68_1 rfl) ?_
          refine s2 ?_
          refine dDecF ?_ (by omega)
          refine s8 ?_
          refine kJ [(2, _), (3, _), (4, _), (5, _), (10, _), (11, _)] ?_
          refine s5 ?_
          exact xR (k + 1, (card ++ [(⟨tm, pt, false⟩ : Lc)]), (pos ++ [p]), q, (A132, c132)) ⟨by dsimp only; omega, by dsimp only; rw [List.length_append, hcl]; rfl, hfo2, hn2⟩ (by dsimp only; omega) (hl := ⟨rfl, rfl, rfl, rfl, rfl, (congrArg some (by go_num)), trivial⟩)
         ·rw [hw0]
          refine kJ [(2, _), (3, _), (4, _), (5, _), (10, _), (11, _), (20, _), (25, _), (26, _)] ?_
          refine xD [0, 1, 2, 3, 4, 5, 6, 7, 8, 9, 10, 11, 12, 13, 14, 15, 16, 17, 18, 19, 20, 21, 22, 23, 24, 25, 26] [1, 7, 9, 14, 17, 19, 23] ?_
          refine s2 ?_
          refine dBoolT ?_ h162
          refine s3 ?_
          refine dDecF ?_ (by decide)
          refine s5 ?_
          refine dP rfl (pNeqA rfl rfl rfl) ?_
          refine dBoolF ?_ (by simp)
          refine s5 ?_
          refine dP rfl (rp_arrC rfl rfl rfl ia_68_1 rfl) ?_
          refine s5 ?_
          refine dP rfl (rp_arrC rfl rfl rfl ia_68_0 rfl) ?_
          refine s2 ?_
          refine dDecF ?_ (by omega)
          refine s8 ?_
          refine kJ [(2, _), (3, _), (4, _), (5, _), (10, _), (11, _)] ?_
          refine s5 ?_
          exact xR (k + 1, (card ++ [(⟨tm, pt, false⟩ : Lc)]), (pos ++ [p]), q, (A132, c132)) ⟨by dsimp only; omega, by dsimp only; rw [List.length_append, hcl]; rfl, hfo2, hn2⟩ (by dsimp only; omega) (hl := ⟨rfl, rfl, rfl, rfl, rfl, (congrArg some (by go_num)), trivial⟩)
        ·refine s5 ?_
         refine JL_dec (fun h167 => ?_) (fun h167 => ?_)
         ·refine s8 ?_
          refine aDecF ?_ (fun h => h (by rw [hS2] at h162 ⊢; exact pls_h h162 (by dsimp only; omega)))
          refine s7 ?_
          have hck1 : ckF (⟨me, 8, my, mc, mp⟩ : Mt) hammer (card ++ [(⟨tm, pt, false⟩ : Lc)]) = (zS, -1, 9) := by rw [hck, if_neg (by rw [h162]; decide)]
          refine kJ [(2, _), (3, _), (4, _), (5, _), (10, _), (11, _), (20, _)] ?_
          refine s3 ?_
          refine aCB (fun w hw => (CheckSheet_any (⟨me, 8, my, mc, mp⟩ : Mt) hammer (card ++ [(⟨tm, pt, false⟩ : Lc)]) q.1 q.2 (pos ++ [p]) A132 c132 w (own_arr (A := q.1) (c := q.2) (ty := 78) (L := (card ++ [(⟨tm, pt, false⟩ : Lc)])) ELc hw (by repeat constructor) (by (try rw [List.length_append]); (try dsimp only [List.length]); omega)) (own_arr (A := (A132, c132).1) (c := (A132, c132).2) (ty := 85) (L := (pos ++ [p])) EFn hw (by repeat constructor) (by (try rw [List.length_append]); (try dsimp only [List.length]); omega)) hfo2 (hT0.up hw.bel) (hM.up hw.bel)).mono (fun _ _ h => by rw [hck1] at h; exact h)) ?_
          refine s9 ?_
          refine kJ [(2, _), (3, _), (4, _), (5, _), (10, _), (11, _), (20, _), (23, _), (24, _)] ?_
          refine s3 ?_
          refine aDecF ?_ (fun h => h rfl)
          refine s3 ?_
          refine aBoolF ?_ h162
          refine s2 ?_
          refine aP (pNeqB rfl rfl rfl) ?_
          refine aBoolF ?_ rfl
          refine s4 ?_
          refine aBoolF ?_ h162
          refine s4 ?_
          refine aDecF ?_ (by decide)
          refine s8 ?_
          refine kJ [(2, _), (3, _), (4, _), (5, _), (10, _), (11, _), (20, _)] ?_
          refine s3 ?_
          refine aCB (fun w hw => (Outcome_any (⟨me, 8, my, mc, mp⟩ : Mt) hammer (card ++ [(⟨tm, pt, false⟩ : Lc)]) q.1 q.2 (pos ++ [p]) A132 c132 w (own_arr (A := q.1) (c := q.2) (ty := 78) (L := (card ++ [(⟨tm, pt, false⟩ : Lc)])) ELc hw (by repeat constructor) (by (try rw [List.length_append]); (try dsimp only [List.length]); omega)) (own_arr (A := (A132, c132).1) (c := (A132, c132).2) (ty := 85) (L := (pos ++ [p])) EFn hw (by repeat constructor) (by (try rw [List.length_append]); (try dsimp only [List.length]); omega)) hfo2 (hT0.up hw.bel) (hM.up hw.bel) (by rw [hck1]; (intro h; cases h)) (by rw [hck1]; exact ⟨⟨by decide, by decide⟩, by decide, by decide⟩)).mono (fun _ _ h => by rw [hck1, show otV (zS, -1, 9) = .tuple #[.agg #[.int .i64 0, .int .i64 0, .int .i64 0, .int .i64 0, .int .i64 0, .int .i64 0], .int .i64 9] from if_neg (by decide)] at h; exact h)) ?_
          refine s3 ?_
          refine aW oA (fun b25 hb25 => ?_)
          refine s5 ?_
          skip
          ·refine kJ [(2, _), (3, _), (4, _), (5, _), (10, _), (11, _), (20, _), (25, _), (26, _)] ?_
           refine xD [0, 1, 2, 3, 4, 5, 6, 7, 8, 9, 10, 11, 12, 13, 14, 15, 16, 17, 18, 19, 20, 21, 22, 23, 24, 25, 26] [1, 7, 9, 14, 17, 19, 23] ?_
           refine s2 ?_
           refine dBoolF ?_ h162
           refine s31 ?_
           refine kJ [(2, _), (3, _), (4, _), (5, _), (10, _), (11, _)] ?_
           refine s5 ?_
           exact xR (k + 1, (card ++ [(⟨tm, pt, false⟩ : Lc)]), (pos ++ [p]), q, (A132, c132)) ⟨by dsimp only; omega, by dsimp only; rw [List.length_append, hcl]; rfl, hfo2, hn2⟩ (by dsimp only; omega) (hl := ⟨rfl, rfl, rfl, rfl, rfl, (congrArg some (by go_num)), trivial⟩)
         ·refine s15 ?_
          have hck1 : ckF (⟨me, 8, my, mc, mp⟩ : Mt) hammer (card ++ [(⟨tm, pt, false⟩ : Lc)]) = (zS, -1, 9) := by rw [hck, if_neg (by rw [h162]; decide)]
          refine kJ [(2, _), (3, _), (4, _), (5, _), (10, _), (11, _), (20, _)] ?_
          refine s3 ?_
          refine aCB (fun w hw => (CheckSheet_any (⟨me, 8, my, mc, mp⟩ : Mt) hammer (card ++ [(⟨tm, pt, false⟩ : Lc)]) q.1 q.2 (pos ++ [p]) A132 c132 w (own_arr (A := q.1) (c := q.2) (ty := 78) (L := (card ++ [(⟨tm, pt, false⟩ : Lc)])) ELc hw (by repeat constructor) (by (try rw [List.length_append]); (try dsimp only [List.length]); omega)) (own_arr (A := (A132, c132).1) (c := (A132, c132).2) (ty := 85) (L := (pos ++ [p])) EFn hw (by repeat constructor) (by (try rw [List.length_append]); (try dsimp only [List.length]); omega)) hfo2 (hT0.up hw.bel) (hM.up hw.bel)).mono (fun _ _ h => by rw [hck1] at h; exact h)) ?_
          refine s9 ?_
          refine kJ [(2, _), (3, _), (4, _), (5, _), (10, _), (11, _), (20, _), (23, _), (24, _)] ?_
          refine s3 ?_
          refine aDecF ?_ (fun h => h rfl)
          refine s3 ?_
          refine aBoolF ?_ h162
          refine s2 ?_
          refine aP (pNeqB rfl rfl rfl) ?_
          refine aBoolF ?_ rfl
          refine s4 ?_
          refine aBoolF ?_ h162
          refine s4 ?_
          refine aDecF ?_ (by decide)
          refine s8 ?_
          refine kJ [(2, _), (3, _), (4, _), (5, _), (10, _), (11, _), (20, _)] ?_
          refine s3 ?_
          refine aCB (fun w hw => (Outcome_any (⟨me, 8, my, mc, mp⟩ : Mt) hammer (card ++ [(⟨tm, pt, false⟩ : Lc)]) q.1 q.2 (pos ++ [p]) A132 c132 w (own_arr (A := q.1) (c := q.2) (ty := 78) (L := (card ++ [(⟨tm, pt, false⟩ : Lc)])) ELc hw (by repeat constructor) (by (try rw [List.length_append]); (try dsimp only [List.length]); omega)) (own_arr (A := (A132, c132).1) (c := (A132, c132).2) (ty := 85) (L := (pos ++ [p])) EFn hw (by repeat constructor) (by (try rw [List.length_append]); (try dsimp only [List.length]); omega)) hfo2 (hT0.up hw.bel) (hM.up hw.bel) (by rw [hck1]; (intro h; cases h)) (by rw [hck1]; exact ⟨⟨by decide, by decide⟩, by decide, by decide⟩)).mono (fun _ _ h => by rw [hck1, show otV (zS, -1, 9) = .tuple #[.agg #[.int .i64 0, .int .i64 0, .int .i64 0, .int .i64 0, .int .i64 0, .int .i64 0], .int .i64 9] from if_neg (by decide)] at h; exact h)) ?_
          refine s3 ?_
          refine aW oA (fun b25 hb25 => ?_)
          refine s5 ?_
          skip
          ·refine kJ [(2, _), (3, _), (4, _), (5, _), (10, _), (11, _), (20, _), (25, _), (26, _)] ?_
           refine xD [0, 1, 2, 3, 4, 5, 6, 7, 8, 9, 10, 11, 12, 13, 14, 15, 16, 17, 18, 19, 20, 21, 22, 23, 24, 25, 26] [1, 7, 9, 14, 17, 19, 23] ?_
           refine s2 ?_
           refine dBoolF ?_ h162
           refine s31 ?_
           refine kJ [(2, _), (3, _), (4, _), (5, _), (10, _), (11, _)] ?_
           refine s5 ?_
           exact xR (k + 1, (card ++ [(⟨tm, pt, false⟩ : Lc)]), (pos ++ [p]), q, (A132, c132)) ⟨by dsimp only; omega, by dsimp only; rw [List.length_append, hcl]; rfl, hfo2, hn2⟩ (by dsimp only; omega) (hl := ⟨rfl, rfl, rfl, rfl, rfl, (congrArg some (by go_num)), trivial⟩)
    ·rw [hb] at hr
     obtain ⟨hS, rfl, rfl⟩ : S = card.foldl (plS (⟨me, 8, my, mc, mp⟩ : Mt)) (bgS hammer) ∧ ra = -1 ∧ re = 0 := by injection hr with e1 e2; injection e2 with e2 e3; exact ⟨e1, e2, e3⟩
     refine kJ [(2, _), (3, _), (4, _), (5, _), (10, _), (11, _), (12, _), (13, _), (14, _)] ?_
     refine s3 ?_
     refine aDecF ?_ (by decide)
     refine s3 ?_
     refine JL_bool (fun h75 => ?_) (fun h75 => ?_)
     ·refine s5 ?_
      refine kJ [(13, _), (14, _)] ?_
      refine s3 ?_
      refine aDecT ?_ rfl
      refine s9 ?_
      refine aCB (fun w hw => awake_any w) ?_
      refine s11 ?_
      refine JR_one rfl (rr_tmp rfl) ?_
      intro w' hw
      exact ⟨rfl, hw.bel⟩
     ·refine s6 ?_
      refine xC (T := Unit) (fun _ => True) (fun _ => [(2, .int .i64 hammer), (3, .slice (some ⟨bt, qt, none⟩) l.length cap), (4, .pointer (some ⟨b4, 0, none⟩)), (5, .pointer (some ⟨b5, 0, none⟩)), (10, .pointer (some ⟨b10, 0, none⟩)), (11, .int .i64 (k : Nat)), (12, .pointer (some ⟨b12, 0, none⟩)), (17, .int .i64 (endE (⟨kf, kt, ks, ke, kp⟩ : Cd) (1 - S.h) 0 (dl.map twP) cl))]) (fun _ => [cellB b4 [.int .i64 kf, .int .i64 kt, .int .i64 ks, .int .i64 ke, .bool kp] 23, cellB b5 [.int .i64 me, .int .i64 8, .int .i64 my, .bool mc, .bool mp] 61, cellB b10 [.int .i64 0, .int .i64 1, .int .i64 hammer, .slice rr.1 card.length rr.2, .int .i64 (-1), .int .i64 0, .int .i64 0, .slice ff.1 pos.length ff.2] 71, ownB 78 3 rr.1 card.length rr.2 (card.flatMap eLc), ownB 85 2 ff.1 pos.length ff.2 (pos.flatMap eFn), cellB b12 [.int .i64 S.p0, .int .i64 S.p1, .int .i64 S.e, .int .i64 S.h, .int .i64 S.w, .bool S.o, .bool S.x, .bool S.w0, .bool S.w1] 74]) ?_ ?_
      ·have hI1 : SgI (⟨me, 8, my, mc, mp⟩ : Mt) card.length S := by rw [hS]; exact sg_end (show (8 : Int) ≤ 8 by decide) hH hnF
       have hSh := hI1.h h75
       refine kJ [(2, _), (3, _), (4, _), (5, _), (10, _), (11, _), (12, _)] ?_
       refine xDx [0, 1, 2, 3, 4, 5, 6, 7, 8, 9, 10, 11, 12, 13] [] [0, 2, 8, 13] [cellB b4 [.int .i64 kf, .int .i64 kt, .int .i64 ks, .int .i64 ke, .bool kp] 23, cellB b12 [.int .i64 S.p0, .int .i64 S.p1, .int .i64 S.e, .int .i64 S.h, .int .i64 S.w, .bool S.o, .bool S.x, .bool S.w0, .bool S.w1] 74] ?_
       refine s8 ?_
       refine dX rfl (vHold (i := 0) (v := .slice dA dl.length dc) rfl rfl (fun h => h) hht hlt (by omega) (by rw [hx]; rfl)) ?_
       refine s4 ?_
       refine dX rfl (vHold (i := 1) (v := .slice cA cl.length cc) rfl rfl (fun h => h) hht hlt (by omega) (by rw [hx]; rfl)) ?_
       refine dPair (i := 14) (j := 19) (by kernel_rfl) ?_ ?_
       ·refine St1_mk rfl wAny (oB (fun w hw => (End_any (⟨kf, kt, ks, ke, kp⟩ : Cd) (1 - S.h) 0 dl dA dc cl cA cc w (hd1.up ETw hw.bel) (fun p hp => (hd3 p hp).up hw.bel) (hd4.up EI hw.bel)).mono (fun _ _ h => by unfold RetEn at h; rw [if_neg hq] at h; exact h))) (by first | exact trivial | exact ⟨by kernel_rfl, .inl (rfl : waitsB _ [] _ = true)⟩ | exact ⟨by kernel_rfl, .inr ⟨rfl, by repeat constructor⟩⟩) (fun _ _ => ?_)
        refine dOA [15, 16, 17, 18, 19, 20, 21, 22] ?_
        refine s4 ?_
        refine dW rfl oA (fun b15 hb15 => ?_)
        refine s4 ?_
        exact xE () trivial
       ·refine St1_mk rfl wAny oA (by first | exact trivial | exact ⟨by kernel_rfl, .inl (rfl : waitsB _ [] _ = true)⟩ | exact ⟨by kernel_rfl, .inr ⟨rfl, by repeat constructor⟩⟩) (fun b15 hb15 => ?_)
        refine dOA [14, 15, 16, 17, 18, 20, 21, 22] ?_
        refine dCB rfl (fun w hw => (End_any (⟨kf, kt, ks, ke, kp⟩ : Cd) (1 - S.h) 0 dl dA dc cl cA cc w (hd1.up ETw hw.bel) (fun p hp => (hd3 p hp).up hw.bel) (hd4.up EI hw.bel)).mono (fun _ _ h => by unfold RetEn at h; rw [if_neg hq] at h; exact h)) ?_
        refine s8 ?_
        exact xE () trivial
      ·rintro _ -
       refine s5 ?_
       refine aDecT ?_ hq
       refine s4 ?_
       refine kJ [] ?_
       refine s1 ?_
       refine aCB (fun w hw => awake_any w) ?_
       refine s10 ?_
       refine JR_one rfl (rr_tmp rfl) ?_
       intro w' hw
       exact ⟨rfl, hw.bel⟩
   ·refine s9 ?_
    refine kJ [] ?_
    refine s1 ?_
    refine aCB (fun w hw => awake_any w) ?_
    refine s4 ?_
    refine JR_one rfl (rr_tmp rfl) ?_
    intro w' hw
    exact ⟨rfl, hw.bel⟩
end Go.Proofs.YtmcpnoailbmkkaaGreatDoor
/- The frame of the rows, and parameters: what their reading gives, and that they are read again as they were. -/
namespace Go.Proofs.YtmcpnoailbmkkaaGreatDoor
open Go.ChangeShapes Go.WideShapes Go.ChangeAt Go.RowKit
theorem own : ownKnob Tryz.prog.godebug = none := by kernel_rfl
/-- What every row lists. -/
abbrev laid7 : List (String × DataW Unit) := Rows.topGameRow.laid
theorem met7 (os : Os) (args : Array Value) : laidMetH Tryz.prog laid7 ((World.laidAll Tryz.prog os laid7).forCall (fun _ _ => 0) ⟨#[], args, []⟩).memory := by
  rw [MakeChecks.laidMetH_plain _ _ _ (by kernel_rfl)]; exact laidMet_laidAll _ (by kernel_rfl) (by kernel_rfl)
theorem shaped7 (os : Os) (args : Array Value) : ((World.laidAll Tryz.prog os laid7).forCall (fun _ _ => 0) ⟨#[], args, []⟩).Shaped Tryz.prog :=
  World.shaped_of_ZipB (by kernel_rfl) (by kernel_rfl)
/-- The plain wrap with both: what the row lists, and the world's shape. -/
theorem row_wrap {H : Type} {enc : TypeId × Value → H} {C : Checked} {os : Os} {f : FuncId} {fn : Func} {s : ChangeSpec} {X : World → Array Value → Prop} {a : Assume}
    (hX : ∀ (w w' : World) (args : Array Value), w.heap = w'.heap → X w args → X w' args)
    (own : ownKnob C.prog.godebug = none) (started : os.Started) (noInit : C.prog.inits.idxOf? f = none) (hfn : C.prog.funcs[f]? = some fn)
    (witness : ∃ (w : World) (tape : Tape) (i : Input), w.os = os ∧ (w.forCall tape i).Shaped C.prog ∧ i.vars = [] ∧ Input.okWide C.prog (w.forCall tape i) .any w.heap.size f i ∧
      ((s.pre enc C.prog fn [] false (w.forCall tape i).memory i.args ∧ X (w.forCall tape i).memory i.args) ∧ sizedMet enc C.prog fn (OpenSpec.ofChange s) false (w.forCall tape i).memory i.args) ∧ a.holds C.prog (lone (Frame.enter C.prog f i.args .normal) [] (w.forCall tape i)))
    (contract : ∀ (W : World) (base : Nat) (args : Array Value) (ds gs : List (DataW H)) (before : List MemPlace),
      (∀ (j : Nat) t v, fn.params[j]? = some t → args[j]? = some v → Value.okWide C.prog W .any base t v) →
      DataW.Whole enc C.prog fn.params.toList s.vars false W args.toList ds gs before → X W args → W.ShapedOpen C.prog →
      Calls C.prog f args W fun e W' => ∃ v, e = .returned v ∧ s.post enc C.prog fn false true false false W args v W') :
    ReturnsInHanded a C os f .any (fun w args => (s.pre enc C.prog fn [] false w args ∧ X w args) ∧ sizedMet enc C.prog fn (OpenSpec.ofChange s) false w args) (s.post enc C.prog fn false true false false) := by
  refine returnsInHanded_of_calls own started noInit witness ?_
  intro w tape i _ hsh _ hok hpre hholds
  obtain ⟨_, _, _, fn', hfn', _, _, _, _, hval⟩ := hok
  have e : fn' = fn := Option.some.inj (hfn'.symm.trans hfn)
  subst e
  obtain ⟨⟨⟨ds, gs, before, hw, hc⟩, hx⟩, hz⟩ := hpre
  have hw' := DataW.Whole.of_heap (w' := w.forCall tape i) (by rfl) hw
  refine (contract (w.forCall tape i) w.heap.size i.args ds gs before hval hw' (hX _ _ _ (by rfl) hx) hsh).mono fun e W' ⟨v, he, hp⟩ => ?_
  subst he
  exact ChangeSpec.post_blind hp

section
variable {H : Type} {enc : TypeId × Value → H}
set_option maxRecDepth 100000
theorem el_int : ElC Tryz.prog enc 3 (fun _ cs => ∃ x, cs = [.int .i64 x] ∧ (Lit.int .i64 x).wf = true) := elInt Tryz.underlying3
theorem el_bool : ElC Tryz.prog enc 4 (fun _ cs => ∃ x, cs = [.bool x]) := elBool Tryz.underlying4
theorem el_fix : ElC Tryz.prog enc 39 (fun _ cs => ∃ x, cs = [.int .i64 x] ∧ (Lit.int .i64 x).wf = true) := elInt Tryz.underlying39
theorem fld {fs : Array Field} {Rs : Nat → World → List Value → Prop} {W : World} {cs : List Value} (h : ∀ (i : Nat) (f : Field), fs[i]? = some f → Rs i W ((cs.drop f.offset).take (Tryz.prog.cellsOf f.type))) (i : Nat) {f : Field} (hf : fs[i]? = some f) {n : Nat} (hn : Tryz.prog.cellsOf f.type = n) {c : List Value} (hc : (cs.drop f.offset).take n = c) : Rs i W c := by
 have := h i f hf; rw [hn, hc] at this; exact this
def codeR (i : Nat) (_ : World) (cs : List Value) : Prop := match i with
 | 0 => ∃ x, cs = [.int .i64 x] ∧ (Lit.int .i64 x).wf = true
 | 1 => ∃ x, cs = [.int .i64 x] ∧ (Lit.int .i64 x).wf = true
 | 2 => ∃ x, cs = [.int .i64 x] ∧ (Lit.int .i64 x).wf = true
 | 3 => ∃ x, cs = [.int .i64 x] ∧ (Lit.int .i64 x).wf = true
 | 4 => ∃ x, cs = [.bool x]
 | _ => True
theorem el_code : ElC Tryz.prog enc 23 (fun _ cs => ∃ c : Cd, cs = [.int .i64 c.f, .int .i64 c.t, .int .i64 c.s, .int .i64 c.e, .bool c.p]) := by
 refine (elStruct (Rs := codeR) Tryz.underlying23 (fun i f hi => ?_)).imp fun _ cs ⟨hl, h⟩ => ?_
 ·rcases i with _ | _ | _ | _ | _ | i
  ·obtain rfl := Option.some.inj hi; exact el_int
  ·obtain rfl := Option.some.inj hi; exact el_int
  ·obtain rfl := Option.some.inj hi; exact el_int
  ·obtain rfl := Option.some.inj hi; exact el_int
  ·obtain rfl := Option.some.inj hi; exact el_bool
  ·cases hi
 ·rw [show Tryz.prog.cellsOf 23 = 5 by kernel_rfl] at hl
  obtain ⟨c_0, c_1, c_2, c_3, c_4, rfl⟩ : ∃ c_0 c_1 c_2 c_3 c_4, cs = [c_0, c_1, c_2, c_3, c_4] := by
   match cs, hl with
   | [c_0, c_1, c_2, c_3, c_4], _ => exact ⟨_, _, _, _, _, rfl⟩
  have f0 := fld (c := [c_0]) h 0 rfl (show Tryz.prog.cellsOf _ = 1 by kernel_rfl) rfl
  have f1 := fld (c := [c_1]) h 1 rfl (show Tryz.prog.cellsOf _ = 1 by kernel_rfl) rfl
  have f2 := fld (c := [c_2]) h 2 rfl (show Tryz.prog.cellsOf _ = 1 by kernel_rfl) rfl
  have f3 := fld (c := [c_3]) h 3 rfl (show Tryz.prog.cellsOf _ = 1 by kernel_rfl) rfl
  have f4 := fld (c := [c_4]) h 4 rfl (show Tryz.prog.cellsOf _ = 1 by kernel_rfl) rfl
  obtain ⟨x0, e0, -⟩ := f0
  obtain rfl := (List.cons.inj e0).1
  obtain ⟨x1, e1, -⟩ := f1
  obtain rfl := (List.cons.inj e1).1
  obtain ⟨x2, e2, -⟩ := f2
  obtain rfl := (List.cons.inj e2).1
  obtain ⟨x3, e3, -⟩ := f3
  obtain rfl := (List.cons.inj e3).1
  obtain ⟨x4, e4⟩ := f4
  obtain rfl := (List.cons.inj e4).1
  exact ⟨⟨x0, x1, x2, x3, x4⟩, rfl⟩
def spotR (i : Nat) (_ : World) (cs : List Value) : Prop := match i with
 | 0 => ∃ x, cs = [.int .i64 x] ∧ (Lit.int .i64 x).wf = true
 | 1 => ∃ x, cs = [.int .i64 x] ∧ (Lit.int .i64 x).wf = true
 | _ => True
theorem el_spot : ElC Tryz.prog enc 41 (fun _ cs => ∃ p : Int × Int, cs = eP p) := by
 refine (elStruct (Rs := spotR) Tryz.underlying41 (fun i f hi => ?_)).imp fun _ cs ⟨hl, h⟩ => ?_
 ·rcases i with _ | _ | i
  ·obtain rfl := Option.some.inj hi; exact el_fix
  ·obtain rfl := Option.some.inj hi; exact el_fix
  ·cases hi
 ·rw [show Tryz.prog.cellsOf 41 = 2 by kernel_rfl] at hl
  obtain ⟨c_0, c_1, rfl⟩ : ∃ c_0 c_1, cs = [c_0, c_1] := by
   match cs, hl with
   | [c_0, c_1], _ => exact ⟨_, _, rfl⟩
  have f0 := fld (c := [c_0]) h 0 rfl (show Tryz.prog.cellsOf _ = 1 by kernel_rfl) rfl
  have f1 := fld (c := [c_1]) h 1 rfl (show Tryz.prog.cellsOf _ = 1 by kernel_rfl) rfl
  obtain ⟨x0, e0, -⟩ := f0
  obtain rfl := (List.cons.inj e0).1
  obtain ⟨x1, e1, -⟩ := f1
  obtain rfl := (List.cons.inj e1).1
  exact ⟨(x0, x1), rfl⟩
def stoneR (i : Nat) (_ : World) (cs : List Value) : Prop := match i with
 | 0 => ∃ x, cs = [.int .i64 x] ∧ (Lit.int .i64 x).wf = true
 | 1 => ∃ x, cs = [.int .i64 x] ∧ (Lit.int .i64 x).wf = true
 | 2 => ∃ p : Int × Int, cs = eP p
 | _ => True
theorem el_stone : ElC Tryz.prog enc 43 (fun _ cs => ∃ s : St, cs = eT s) := by
 refine (elStruct (Rs := stoneR) Tryz.underlying43 (fun i f hi => ?_)).imp fun _ cs ⟨hl, h⟩ => ?_
 ·rcases i with _ | _ | _ | i
  ·obtain rfl := Option.some.inj hi; exact el_int
  ·obtain rfl := Option.some.inj hi; exact el_int
  ·obtain rfl := Option.some.inj hi; exact el_spot
  ·cases hi
 ·rw [show Tryz.prog.cellsOf 43 = 4 by kernel_rfl] at hl
  obtain ⟨c_0, c_1, c_2, c_3, rfl⟩ : ∃ c_0 c_1 c_2 c_3, cs = [c_0, c_1, c_2, c_3] := by
   match cs, hl with
   | [c_0, c_1, c_2, c_3], _ => exact ⟨_, _, _, _, rfl⟩
  have f0 := fld (c := [c_0]) h 0 rfl (show Tryz.prog.cellsOf _ = 1 by kernel_rfl) rfl
  have f1 := fld (c := [c_1]) h 1 rfl (show Tryz.prog.cellsOf _ = 1 by kernel_rfl) rfl
  have f2 := fld (c := [c_2, c_3]) h 2 rfl (show Tryz.prog.cellsOf _ = 2 by kernel_rfl) rfl
  obtain ⟨x0, e0, -⟩ := f0
  obtain rfl := (List.cons.inj e0).1
  obtain ⟨x1, e1, -⟩ := f1
  obtain rfl := (List.cons.inj e1).1
  obtain ⟨⟨px, py⟩, e2⟩ := f2
  obtain ⟨rfl, e3⟩ := List.cons.inj e2
  obtain rfl := (List.cons.inj e3).1
  exact ⟨⟨x0, x1, px, py⟩, rfl⟩
theorem el_stones : ElC Tryz.prog enc 24 (fun W cs => ∃ p : Dv St, cs = [p.v] ∧ Arr 4 eT W p.v p.l ∧ p.n = p.l.length) := (elRow (wf := fun _ _ => True) Tryz.underlying24 (by kernel_rfl) ET (by decide) (el_stone.imp fun _ _ ⟨x, h⟩ => ⟨x, h, trivial⟩)).imp fun _ _ ⟨p, h1, h2, h3, _⟩ => ⟨p, h1, h2, h3⟩
def throwR (i : Nat) (W : World) (cs : List Value) : Prop := match i with
 | 0 => ∃ x, cs = [.int .i64 x] ∧ (Lit.int .i64 x).wf = true
 | 1 => ∃ x, cs = [.int .i64 x] ∧ (Lit.int .i64 x).wf = true
 | 2 => ∃ x, cs = [.bool x]
 | 3 => ∃ x, cs = [.bool x]
 | 4 => ∃ x, cs = [.int .i64 x] ∧ (Lit.int .i64 x).wf = true
 | 5 => ∃ p : Dv St, cs = [p.v] ∧ Arr 4 eT W p.v p.l ∧ p.n = p.l.length
 | _ => True
theorem el_throw : ElC Tryz.prog enc 26 (fun W cs => ∃ p : Tw, cs = eTw p ∧ TwW W p) := by
 refine (elStruct (Rs := throwR) Tryz.underlying26 (fun i f hi => ?_)).imp fun W cs ⟨hl, h⟩ => ?_
 ·rcases i with _ | _ | _ | _ | _ | _ | i
  ·obtain rfl := Option.some.inj hi; exact el_int
  ·obtain rfl := Option.some.inj hi; exact el_int
  ·obtain rfl := Option.some.inj hi; exact el_bool
  ·obtain rfl := Option.some.inj hi; exact el_bool
  ·obtain rfl := Option.some.inj hi; exact el_int
  ·obtain rfl := Option.some.inj hi; exact el_stones
  ·cases hi
 ·rw [show Tryz.prog.cellsOf 26 = 6 by kernel_rfl] at hl
  obtain ⟨c_0, c_1, c_2, c_3, c_4, c_5, rfl⟩ : ∃ c_0 c_1 c_2 c_3 c_4 c_5, cs = [c_0, c_1, c_2, c_3, c_4, c_5] := by
   match cs, hl with
   | [c_0, c_1, c_2, c_3, c_4, c_5], _ => exact ⟨_, _, _, _, _, _, rfl⟩
  have f0 := fld (c := [c_0]) h 0 rfl (show Tryz.prog.cellsOf _ = 1 by kernel_rfl) rfl
  have f1 := fld (c := [c_1]) h 1 rfl (show Tryz.prog.cellsOf _ = 1 by kernel_rfl) rfl
  have f2 := fld (c := [c_2]) h 2 rfl (show Tryz.prog.cellsOf _ = 1 by kernel_rfl) rfl
  have f3 := fld (c := [c_3]) h 3 rfl (show Tryz.prog.cellsOf _ = 1 by kernel_rfl) rfl
  have f4 := fld (c := [c_4]) h 4 rfl (show Tryz.prog.cellsOf _ = 1 by kernel_rfl) rfl
  have f5 := fld (c := [c_5]) h 5 rfl (show Tryz.prog.cellsOf _ = 1 by kernel_rfl) rfl
  obtain ⟨x0, e0, -⟩ := f0
  obtain rfl := (List.cons.inj e0).1
  obtain ⟨x1, e1, -⟩ := f1
  obtain rfl := (List.cons.inj e1).1
  obtain ⟨x2, e2⟩ := f2
  obtain rfl := (List.cons.inj e2).1
  obtain ⟨x3, e3⟩ := f3
  obtain rfl := (List.cons.inj e3).1
  obtain ⟨x4, e4, -⟩ := f4
  obtain rfl := (List.cons.inj e4).1
  obtain ⟨d, e5, h5, h6⟩ := f5
  obtain rfl := (List.cons.inj e5).1
  exact ⟨⟨⟨x0, x1, x2, x3, x4⟩, d⟩, rfl, h5, h6⟩
theorem el_throws : ElC Tryz.prog enc 64 (fun W cs => ∃ p : Dv Tw, cs = [p.v] ∧ Arr 6 eTw W p.v p.l ∧ p.n = p.l.length ∧ ∀ x ∈ p.l, TwW W x) := elRow (wf := fun W x => TwW W x) Tryz.underlying64 (by kernel_rfl) ETw (by decide) el_throw
theorem el_ints : ElC Tryz.prog enc 34 (fun W cs => ∃ p : Dv Int, cs = [p.v] ∧ Arr 1 eI W p.v p.l ∧ p.n = p.l.length) := (elRow (wf := fun _ _ => True) Tryz.underlying34 (by kernel_rfl) EI (by decide) (el_int.imp fun _ _ ⟨x, h, _⟩ => ⟨x, h, trivial⟩)).imp fun _ _ ⟨p, h1, h2, h3, _⟩ => ⟨p, h1, h2, h3⟩
def turnR (i : Nat) (W : World) (cs : List Value) : Prop := match i with
 | 0 => ∃ p : Dv Tw, cs = [p.v] ∧ Arr 6 eTw W p.v p.l ∧ p.n = p.l.length ∧ ∀ x ∈ p.l, TwW W x
 | 1 => ∃ p : Dv Int, cs = [p.v] ∧ Arr 1 eI W p.v p.l ∧ p.n = p.l.length
 | _ => True
theorem el_turn : ElC Tryz.prog enc 66 (fun W cs => ∃ x : Tu, cs = eTu x ∧ TuW W x) := by
 refine (elStruct (Rs := turnR) Tryz.underlying66 (fun i f hi => ?_)).imp fun W cs ⟨hl, h⟩ => ?_
 ·rcases i with _ | _ | i
  ·obtain rfl := Option.some.inj hi; exact el_throws
  ·obtain rfl := Option.some.inj hi; exact el_ints
  ·cases hi
 ·rw [show Tryz.prog.cellsOf 66 = 2 by kernel_rfl] at hl
  obtain ⟨c_0, c_1, rfl⟩ : ∃ c_0 c_1, cs = [c_0, c_1] := by
   match cs, hl with
   | [c_0, c_1], _ => exact ⟨_, _, rfl⟩
  have f0 := fld (c := [c_0]) h 0 rfl (show Tryz.prog.cellsOf _ = 1 by kernel_rfl) rfl
  have f1 := fld (c := [c_1]) h 1 rfl (show Tryz.prog.cellsOf _ = 1 by kernel_rfl) rfl
  obtain ⟨p, e0, h01, h02, h03⟩ := f0
  obtain rfl := (List.cons.inj e0).1
  obtain ⟨q, e1, h11, h12⟩ := f1
  obtain rfl := (List.cons.inj e1).1
  exact ⟨⟨p, q⟩, rfl, h01, h02, h03, h11, h12⟩
theorem el_turns : ElC Tryz.prog enc 62 (fun W cs => ∃ p : Dv Tu, cs = [p.v] ∧ Arr 2 eTu W p.v p.l ∧ p.n = p.l.length ∧ ∀ x ∈ p.l, TuW W x) := elRow (wf := fun W x => TuW W x) Tryz.underlying62 (by kernel_rfl) ETu (by decide) el_turn
def matchR (i : Nat) (_ : World) (cs : List Value) : Prop := match i with
 | 0 => ∃ x, cs = [.int .i64 x] ∧ (Lit.int .i64 x).wf = true
 | 1 => ∃ x, cs = [.int .i64 x] ∧ (Lit.int .i64 x).wf = true
 | 2 => ∃ x, cs = [.int .i64 x] ∧ (Lit.int .i64 x).wf = true
 | 3 => ∃ x, cs = [.bool x]
 | 4 => ∃ x, cs = [.bool x]
 | _ => True
theorem el_match : ElC Tryz.prog enc 61 (fun _ cs => ∃ m : Mt, cs = [.int .i64 m.e, .int .i64 m.m, .int .i64 m.y, .bool m.ch, .bool m.pw]) := by
 refine (elStruct (Rs := matchR) Tryz.underlying61 (fun i f hi => ?_)).imp fun _ cs ⟨hl, h⟩ => ?_
 ·rcases i with _ | _ | _ | _ | _ | i
  ·obtain rfl := Option.some.inj hi; exact el_int
  ·obtain rfl := Option.some.inj hi; exact el_int
  ·obtain rfl := Option.some.inj hi; exact el_int
  ·obtain rfl := Option.some.inj hi; exact el_bool
  ·obtain rfl := Option.some.inj hi; exact el_bool
  ·cases hi
 ·rw [show Tryz.prog.cellsOf 61 = 5 by kernel_rfl] at hl
  obtain ⟨c_0, c_1, c_2, c_3, c_4, rfl⟩ : ∃ c_0 c_1 c_2 c_3 c_4, cs = [c_0, c_1, c_2, c_3, c_4] := by
   match cs, hl with
   | [c_0, c_1, c_2, c_3, c_4], _ => exact ⟨_, _, _, _, _, rfl⟩
  have f0 := fld (c := [c_0]) h 0 rfl (show Tryz.prog.cellsOf _ = 1 by kernel_rfl) rfl
  have f1 := fld (c := [c_1]) h 1 rfl (show Tryz.prog.cellsOf _ = 1 by kernel_rfl) rfl
  have f2 := fld (c := [c_2]) h 2 rfl (show Tryz.prog.cellsOf _ = 1 by kernel_rfl) rfl
  have f3 := fld (c := [c_3]) h 3 rfl (show Tryz.prog.cellsOf _ = 1 by kernel_rfl) rfl
  have f4 := fld (c := [c_4]) h 4 rfl (show Tryz.prog.cellsOf _ = 1 by kernel_rfl) rfl
  obtain ⟨x0, e0, -⟩ := f0
  obtain rfl := (List.cons.inj e0).1
  obtain ⟨x1, e1, -⟩ := f1
  obtain rfl := (List.cons.inj e1).1
  obtain ⟨x2, e2, -⟩ := f2
  obtain rfl := (List.cons.inj e2).1
  obtain ⟨x3, e3⟩ := f3
  obtain rfl := (List.cons.inj e3).1
  obtain ⟨x4, e4⟩ := f4
  obtain rfl := (List.cons.inj e4).1
  exact ⟨⟨x0, x1, x2, x3, x4⟩, rfl⟩
/-- A parameter's reading again, behind the call. -/
abbrev Again (W : World) (t : TypeId) (v : Value) (d : DataW H) (p : List MemPlace) (enc : TypeId × Value → H) : Prop := ∀ W' : World, Below W.heap.size W W' → ∀ sp : Nat → Bool, (∀ q ∈ p, sp q.block = true) → DataW.Trod enc Tryz.prog W' 0 sp true t v d p
variable {W : World} {base : Nat} {v : Value} {d : DataW H} {p : List MemPlace}
theorem open_num (hv : Value.okWide Tryz.prog W .any base 3 v) (h : DataW.Trod enc Tryz.prog W 0 (fun _ => true) true 3 v d p) : ∃ x : Int, v = .int .i64 x ∧ Again W 3 v d p enc := by
 obtain ⟨a, rfl⟩ := okWide_int Tryz.underlying3 hv
 exact ⟨_, rfl, (el_int.trod h).2⟩
theorem open_code (hv : Value.okWide Tryz.prog W .any base 23 v) (h : DataW.Trod enc Tryz.prog W 0 (fun _ => true) true 23 v d p) : ∃ c : Cd, v = Cdv c ∧ Again W 23 v d p enc := by
 obtain ⟨cs, rfl, -⟩ := okWide_struct Tryz.underlying23 hv
 obtain ⟨⟨c, e⟩, h3⟩ := el_code.trod h
 have e' : cs.toList = [.int .i64 c.f, .int .i64 c.t, .int .i64 c.s, .int .i64 c.e, .bool c.p] := e
 exact ⟨c, by rw [show cs = [Value.int .i64 c.f, .int .i64 c.t, .int .i64 c.s, .int .i64 c.e, .bool c.p].toArray by rw [← e']], h3⟩
theorem open_match (hv : Value.okWide Tryz.prog W .any base 61 v) (h : DataW.Trod enc Tryz.prog W 0 (fun _ => true) true 61 v d p) : ∃ m : Mt, v = Mtv m ∧ Again W 61 v d p enc := by
 obtain ⟨cs, rfl, -⟩ := okWide_struct Tryz.underlying61 hv
 obtain ⟨⟨m, e⟩, h3⟩ := el_match.trod h
 have e' : cs.toList = [.int .i64 m.e, .int .i64 m.m, .int .i64 m.y, .bool m.ch, .bool m.pw] := e
 exact ⟨m, by rw [show cs = [Value.int .i64 m.e, .int .i64 m.m, .int .i64 m.y, .bool m.ch, .bool m.pw].toArray by rw [← e']], h3⟩
theorem open_turns (hv : Value.okWide Tryz.prog W .any base 62 v) (h : DataW.Trod enc Tryz.prog W 0 (fun _ => true) true 62 v d p) : ∃ (A : Option Addr) (l : List Tu) (c : Nat), v = .slice A l.length c ∧ Arr 2 eTu W (.slice A l.length c) l ∧ (∀ t ∈ l, TuW W t) ∧ Again W 62 v d p enc := by
 obtain ⟨a, n, k, rfl⟩ := okWide_slice Tryz.underlying62 hv
 obtain ⟨⟨⟨A, m, c, l⟩, e, h1, hn, h2⟩, h3⟩ := el_turns.trod h
 obtain ⟨rfl, rfl, rfl⟩ : a = A ∧ n = m ∧ k = c := by simpa [Value.cells] using e
 dsimp only at hn; subst hn
 exact ⟨_, l, _, rfl, h1, h2, h3⟩
end
theorem mx_of {W : World} (hS : W.ShapedOpen Tryz.prog) : MxL W := Go.Proofs.cell_of_shapedOpen_int (zero := #[.int .i64 0]) (t := 3) hS (of_decide_eq_true (by kernel_rfl)) (by kernel_rfl) rfl (by kernel_rfl) (by kernel_rfl) Tryz.underlying3
theorem tab_of {W : World} (hL : laidMetH Tryz.prog laid7 W) : Tab W := by
 rw [MakeChecks.laidMetH_plain _ _ _ (by kernel_rfl)] at hL
 exact Lib.tabIs_of_head (g := 0) (t := 286) (e := 255) (n := 20) (by kernel_rfl) (by kernel_rfl) Tryz.underlying286 Tryz.underlying255 (by kernel_rfl) (by kernel_rfl) hL.tail.tail
end Go.Proofs.YtmcpnoailbmkkaaGreatDoor
/- What the row of TopGame lists of the program, part by part. -/
namespace Go.Proofs.YtmcpnoailbmkkaaGreatDoor
open Go.ChangeShapes Go.WideShapes Go.ChangeAt Go.RowKit Go.Joins
theorem tg_in : (Rows.topGameRow.inPlace == Tryz.pinned.checked.prog.inPlace 4) = true := by kernel_rfl
theorem tg_un : (Rows.topGameRow.unfollowed == Tryz.pinned.checked.prog.unfollowed 4) = true := by kernel_rfl
theorem tg_re : (Rows.topGameRow.recurses == Tryz.pinned.checked.prog.recurses 4) = true := by kernel_rfl
theorem tg_na : (Rows.topGameRow.named == Tryz.pinned.checked.prog.varsNamed 4) = true := by kernel_rfl
theorem tg_closed : joinedFacts Tryz.pinned.checked.prog 4 Tryz.f4 Rows.topGameSpec Rows.topGameRow = true := by
  unfold joinedFacts
  rw [tg_in, tg_un, tg_re, tg_na]
  kernel_rfl
end Go.Proofs.YtmcpnoailbmkkaaGreatDoor
