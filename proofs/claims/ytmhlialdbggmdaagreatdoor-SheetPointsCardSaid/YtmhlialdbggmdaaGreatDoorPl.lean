/- Plain law of SheetPoints: who counts, by the squares of the stones in the house; mirrored, alone, without a stone. -/
import Derived.Test.YtmhlialdbggmdaaGreatDoorLe
import Derived.Test.YtmhlialdbggmdaaGreatDoorLa
namespace Go.Proofs.YtmhlialdbggmdaaGreatDoor
open Go.RowKit Go.Proofs Go.Shelf

theorem pairF_neg {p : St → St → Bool} : ∀ (l : List St) (i : Nat), (pairF p l i).1 < 0 ↔ l.Pairwise (fun a b => p a b = false)
  | [], i => by simp [pairF]
  | a :: l, i => by
    unfold pairF
    rw [List.pairwise_cons, ← pairF_neg l (i + 1)]
    by_cases h0 : 0 ≤ fidx (p a) l
    · rw [if_pos h0]
      refine ⟨fun h => by simp at h; omega, fun h => ?_⟩
      rcases fidx_cases (p a) l with ⟨e, -⟩ | ⟨j, hj, -, e, -⟩
      · omega
      · rw [h.1 _ (List.getElem_mem hj)] at e; cases e
    · rw [if_neg h0]
      refine ⟨fun h => ⟨fun b hb => ?_, h⟩, fun h => h.2⟩
      rcases fidx_cases (p a) l with ⟨-, hn⟩ | ⟨j, hj, e, -⟩
      · obtain ⟨j, hj, rfl⟩ := List.getElem_of_mem hb; exact hn j hj
      · omega
theorem goodF_iff : ∀ (l pre : List St), goodF pre l = true ↔ (∀ s ∈ l, okSt s) ∧ (∀ a ∈ pre, ∀ s ∈ l, nameB a s = false) ∧ l.Pairwise (fun a b => nameB a b = false)
  | [], pre => by simp [goodF]
  | s :: r, pre => by
    unfold goodF
    rw [Bool.and_eq_true, Bool.and_eq_true, goodF_iff r (pre ++ [s]), decide_eq_true_eq, List.all_eq_true, List.pairwise_cons]
    constructor
    · rintro ⟨⟨h1, h2⟩, h3, h4, h5⟩
      refine ⟨fun x hx => ?_, fun a ha x hx => ?_, fun x hx => h4 s (by simp) x hx, h5⟩
      · rcases List.mem_cons.1 hx with rfl | hx
        · exact h1
        · exact h3 x hx
      · rcases List.mem_cons.1 hx with rfl | hx
        · have := h2 a ha; simpa using this
        · exact h4 a (by simp [ha]) x hx
    · rintro ⟨h1, h2, h3, h4⟩
      refine ⟨⟨h1 s (by simp), fun a ha => by rw [h2 a ha s (by simp)]; rfl⟩, fun x hx => h1 x (by simp [hx]), fun a ha x hx => ?_, h4⟩
      rcases List.mem_append.1 ha with ha | ha
      · exact h2 a ha x (by simp [hx])
      · rw [List.mem_singleton] at ha; subst ha; exact h3 x hx
theorem chk_iff (l : List St) : chkB l = true ↔ l.length ≤ 16 ∧ (∀ s ∈ l, okSt s) ∧ l.Pairwise (fun a b => nameB a b = false) ∧ l.Pairwise (fun a b => ovB a b = false) := by
  unfold chkB
  rw [Bool.and_eq_true, Bool.and_eq_true, goodF_iff, decide_eq_true_eq, decide_eq_true_eq, pairF_neg]
  constructor
  · rintro ⟨⟨h1, h2, -, h3⟩, h4⟩; exact ⟨h1, h2, h3, h4⟩
  · rintro ⟨h1, h2, h3, h4⟩; exact ⟨⟨h1, h2, nofun, h3⟩, h4⟩
theorem chk_sub {l l' : List St} (h : chkB l = true) (hs : l'.Sublist l) : chkB l' = true := by
  rw [chk_iff] at h ⊢
  obtain ⟨h1, h2, h3, h4⟩ := h
  exact ⟨Nat.le_trans hs.length_le h1, fun s hm => h2 s (hs.subset hm), h3.sublist hs, h4.sublist hs⟩
theorem ovB_mir (a b : St) : ovB (mirS a) (mirS b) = ovB a b := by
  unfold ovB mirS
  simp only
  have e : -a.x - -b.x = -(a.x - b.x) := by omega
  have t : touZ (-(a.x - b.x)) (a.y - b.y) = touZ (a.x - b.x) (a.y - b.y) := by unfold touZ; rw [ab_neg, sqd_neg]
  rw [e, t, Bool.eq_iff_iff]; simp [OkS_neg]
theorem chk_mir {l : List St} (h : chkB l = true) : chkB (l.map mirS) = true := by
  rw [chk_iff] at h ⊢
  obtain ⟨h1, h2, h3, h4⟩ := h
  refine ⟨by simpa using h1, fun s hm => ?_, ?_, ?_⟩
  · obtain ⟨x, hx, rfl⟩ := List.mem_map.1 hm
    obtain ⟨k1, k2, k3⟩ := h2 x hx
    exact ⟨k1, (OkS_neg _ _).2 k2, (Play_neg _ _).2 k3⟩
  · rw [List.pairwise_map]; exact h3
  · rw [List.pairwise_map]; exact h4.imp fun {a b} h => by rw [ovB_mir]; exact h

/-- The squares of the distances of a team's stones in the house. -/
def hs1 (t : Int) (s : St) : Bool := decide (s.t = t ∧ InH s.x s.y)
def hs (l : List St) (t : Int) : List Int := (l.filter (hs1 t)).map fun s => sqd s.x s.y
theorem hs_append (a b : List St) (t : Int) : hs (a ++ b) t = hs a t ++ hs b t := by unfold hs; simp
def mn : List Int → Option Int
  | [] => none
  | a :: l => match mn l with | none => some a | some m => if a ≤ m then some a else some m
theorem mn_spec : ∀ l : List Int, (l = [] ∧ mn l = none) ∨ ∃ m, mn l = some m ∧ m ∈ l ∧ ∀ x ∈ l, m ≤ x
  | [] => .inl ⟨rfl, rfl⟩
  | a :: l => by
    right
    unfold mn
    rcases mn_spec l with ⟨rfl, h⟩ | ⟨m, h, hm, hl⟩
    · rw [h]; exact ⟨a, rfl, by simp, fun x hx => by simp at hx; omega⟩
    · rw [h]
      simp only
      split
      · rename_i ha
        refine ⟨a, rfl, by simp, fun x hx => ?_⟩
        rcases List.mem_cons.1 hx with rfl | hx
        · omega
        · have := hl x hx; omega
      · rename_i ha
        refine ⟨m, rfl, by simp [hm], fun x hx => ?_⟩
        rcases List.mem_cons.1 hx with rfl | hx
        · omega
        · exact hl x hx
theorem mn_of {l : List Int} {m : Int} (h1 : m ∈ l) (h2 : ∀ x ∈ l, m ≤ x) : mn l = some m := by
  rcases mn_spec l with ⟨rfl, -⟩ | ⟨k, h, hm, hl⟩
  · simp at h1
  · have := hl m h1; have := h2 k hm
    rw [h]; congr 1; omega
theorem mem_hs {l : List St} {t x : Int} : x ∈ hs l t ↔ ∃ i, i < l.length ∧ i ∈ hIdx l ∧ teamAt l i = t ∧ sqAt l i = x := by
  unfold hs hs1
  rw [List.mem_map]
  constructor
  · rintro ⟨s, hs, rfl⟩
    rw [List.mem_filter, decide_eq_true_eq] at hs
    obtain ⟨i, hi, rfl⟩ := List.getElem_of_mem hs.1
    refine ⟨i, hi, (mem_hIdx hi).2 hs.2.2, ?_, sqAt_get hi⟩
    unfold teamAt; rw [List.getElem?_eq_getElem hi]; exact hs.2.1
  · rintro ⟨i, hi, h1, h2, rfl⟩
    refine ⟨l[i]'hi, ?_, (sqAt_get hi).symm⟩
    rw [List.mem_filter, decide_eq_true_eq]
    unfold teamAt at h2; rw [List.getElem?_eq_getElem hi] at h2
    exact ⟨List.getElem_mem hi, h2, (mem_hIdx hi).1 h1⟩
theorem bT_mn (l : List St) (t : Int) : bT l t l.length = mn (hs l t) := by
  rcases bT_spec l t l.length with ⟨h1, h2⟩ | ⟨m, h1, ⟨i, h3, h4, h5, h6⟩, h7⟩
  · rcases mn_spec (hs l t) with ⟨-, h⟩ | ⟨k, -, h, -⟩
    · rw [h1, h]
    · obtain ⟨i, k1, k2, k3, -⟩ := mem_hs.1 h
      exact absurd k3 (h2 i k1 k2)
  · rw [h1, mn_of (mem_hs.2 ⟨i, h3, h4, h5, h6⟩)]
    intro x hx
    obtain ⟨j, k1, k2, k3, rfl⟩ := mem_hs.1 hx
    exact h7 j k1 k2 k3
def cn (a : List Int) (lim : Option Int) : Nat := (a.filter fun x => decide (lim = none ∨ x < lim.getD 0)).length
theorem cK_cn (l : List St) (t : Int) (lim : Option Int) : ∀ k, k ≤ l.length → cK l t lim k = cn (hs (l.take k) t) lim
  | 0, _ => rfl
  | k + 1, hk => by
    have ih := cK_cn l t lim k (by omega)
    have hkl : k < l.length := by omega
    rw [List.take_succ_eq_append_getElem hkl, hs_append]
    unfold cK
    unfold cn
    rw [List.filter_append, List.length_append]
    unfold cn at ih
    rw [ih]
    congr 1
    have et : teamAt l k = (l[k]'hkl).t := by unfold teamAt; rw [List.getElem?_eq_getElem hkl]
    have hm := mem_hIdx hkl
    rw [et, sqAt_get hkl]
    obtain ⟨s, hs'⟩ : ∃ s, l[k]'hkl = s := ⟨_, rfl⟩
    rw [hs'] at hm ⊢
    unfold hs hs1
    by_cases h1 : s.t = t ∧ InH s.x s.y
    · rw [List.filter_cons_of_pos (by simpa using h1)]
      by_cases h2 : lim = none ∨ sqd s.x s.y < lim.getD 0
      · rw [if_pos ⟨⟨h1.1, hm.2 h1.2⟩, h2⟩]; simp [h2]
      · rw [if_neg (fun h => h2 h.2)]; simp [h2]
    · rw [if_neg (fun h => h1 ⟨h.1.1, hm.1 h.1.2⟩), List.filter_cons_of_neg (by simpa using h1)]; rfl
def rT (a b : List Int) : Int × Int :=
  match mn a, mn b with
  | none, none => (-1, 0)
  | some _, none => (0, (cn a none : Nat))
  | none, some _ => (1, (cn b none : Nat))
  | some x, some y => if x = y then (-1, 0) else if y < x then (1, (cn b (some x) : Nat)) else (0, (cn a (some y) : Nat))
theorem refT_rT (l : List St) : refT l = rT (hs l 0) (hs l 1) := by
  have e : ∀ t lim, cK l t lim l.length = cn (hs l t) lim := fun t lim => by
    have := cK_cn l t lim l.length (Nat.le_refl _); rwa [List.take_length] at this
  unfold refT refP rT
  rw [bT_mn, bT_mn]
  cases mn (hs l 0) <;> cases mn (hs l 1) <;> simp only [e]
/-- One list of squares is ahead of another one; how many count. -/
def Win (a b : List Int) : Prop := a ≠ [] ∧ ∀ y ∈ b, ∃ x ∈ a, x < y
def pts (a b : List Int) : Nat := (a.filter fun x => b.all fun y => decide (x < y)).length
theorem pts_le (a b : List Int) : pts a b ≤ a.length := List.length_filter_le _ _
theorem cn_pts {a b : List Int} : cn a (mn b) = pts a b := by
  unfold cn pts
  congr 1
  apply List.filter_congr
  intro x _
  rw [Bool.eq_iff_iff, decide_eq_true_eq, List.all_eq_true]
  rcases mn_spec b with ⟨rfl, h⟩ | ⟨m, h, hm, hl⟩
  · simp [h]
  · rw [h]
    constructor
    · rintro (h | h)
      · cases h
      · intro y hy; have := hl y hy; simp at h; simp; omega
    · intro h; right; have := h m hm; simpa using this
theorem win_iff {a b : List Int} : Win a b ↔ ∃ x, mn a = some x ∧ (mn b = none ∨ x < (mn b).getD 0) := by
  rcases mn_spec a with ⟨rfl, ha⟩ | ⟨x, ha, hxm, hxl⟩
  · constructor
    · rintro ⟨h, -⟩; exact absurd rfl h
    · rintro ⟨x, h, -⟩; rw [ha] at h; cases h
  · rcases mn_spec b with ⟨rfl, hb⟩ | ⟨y, hb, hym, hyl⟩
    · rw [ha, hb]
      exact ⟨fun _ => ⟨x, rfl, .inl rfl⟩, fun _ => ⟨by intro e; subst e; simp at hxm, nofun⟩⟩
    · rw [ha, hb]
      constructor
      · rintro ⟨-, h⟩
        obtain ⟨z, hz, hzy⟩ := h y hym
        refine ⟨x, rfl, .inr ?_⟩
        have := hxl z hz; simp; omega
      · rintro ⟨z, hz, h⟩
        cases hz
        refine ⟨by intro e; subst e; simp at hxm, fun w hw => ⟨x, hxm, ?_⟩⟩
        have := hyl w hw
        rcases h with h | h
        · cases h
        · simp at h; omega
theorem rT_cases (a b : List Int) : (Win a b ∧ rT a b = (0, ((pts a b : Nat) : Int))) ∨ (Win b a ∧ rT a b = (1, ((pts b a : Nat) : Int))) ∨ (¬ Win a b ∧ ¬ Win b a ∧ rT a b = (-1, 0)) := by
  rw [win_iff, win_iff, ← cn_pts, ← cn_pts]
  unfold rT
  cases ha : mn a with
  | none =>
    cases hb : mn b with
    | none => exact .inr (.inr ⟨by simp, by simp, rfl⟩)
    | some y => exact .inr (.inl ⟨⟨y, rfl, .inl rfl⟩, rfl⟩)
  | some x =>
    cases hb : mn b with
    | none => exact .inl ⟨⟨x, rfl, .inl rfl⟩, rfl⟩
    | some y =>
      simp only
      rcases Int.lt_trichotomy x y with h | h | h
      · rw [if_neg (by omega), if_neg (by omega)]; exact .inl ⟨⟨x, rfl, .inr (by simpa using h)⟩, rfl⟩
      · rw [if_pos h]; refine .inr (.inr ⟨?_, ?_, rfl⟩) <;> (rintro ⟨z, hz, k⟩; cases hz; simp at k; omega)
      · rw [if_neg (by omega), if_pos h]; exact .inr (.inl ⟨⟨y, rfl, .inr (by simpa using h)⟩, rfl⟩)
theorem win_not {a b : List Int} (h : Win a b) (h' : Win b a) : False := by
  rw [win_iff] at h h'
  obtain ⟨x, h1, h2⟩ := h
  obtain ⟨y, h3, h4⟩ := h'
  rw [h1] at h4; rw [h3] at h2
  simp at h2 h4; omega
theorem pts_pos {a b : List Int} (h : Win a b) : 1 ≤ pts a b := by
  obtain ⟨x, h1, h2⟩ := win_iff.1 h
  rw [← cn_pts]
  unfold cn
  rcases mn_spec a with ⟨rfl, h3⟩ | ⟨m, h3, h4, -⟩
  · rw [h3] at h1; cases h1
  · rw [h3] at h1; cases h1
    exact List.length_pos_iff.2 (List.ne_nil_of_mem (List.mem_filter.2 ⟨h4, by simpa using h2⟩))
/-- The count by the team that counts. -/
theorem ref_cases (l : List St) : (∃ T, (T = 0 ∨ T = 1) ∧ Win (hs l T) (hs l (1 - T)) ∧ refT l = (T, ((pts (hs l T) (hs l (1 - T)) : Nat) : Int))) ∨ ((¬ Win (hs l 0) (hs l 1) ∧ ¬ Win (hs l 1) (hs l 0)) ∧ refT l = (-1, 0)) := by
  rw [refT_rT]
  rcases rT_cases (hs l 0) (hs l 1) with ⟨h1, h2⟩ | ⟨h1, h2⟩ | ⟨h1, h2, h3⟩
  · exact .inl ⟨0, .inl rfl, h1, h2⟩
  · exact .inl ⟨1, .inr rfl, h1, h2⟩
  · exact .inr ⟨⟨h1, h2⟩, h3⟩
theorem ref_win {l : List St} {T : Int} (hT : T = 0 ∨ T = 1) (h : Win (hs l T) (hs l (1 - T))) : refT l = (T, ((pts (hs l T) (hs l (1 - T)) : Nat) : Int)) := by
  rcases ref_cases l with ⟨T', hT', h1, h2⟩ | ⟨⟨h1, h2⟩, -⟩
  · by_cases e : T' = T
    · subst e; exact h2
    · exfalso
      have e' : T' = 1 - T := by omega
      subst e'
      rw [show 1 - (1 - T) = T by omega] at h1
      exact win_not h h1
  · exfalso
    rcases hT with rfl | rfl
    · exact h1 h
    · exact h2 h

theorem nodup_bound : ∀ (b : Nat) (l : List Nat), l.Nodup → (∀ x ∈ l, x < b) → l.length ≤ b
  | 0, l, _, h => by
    cases l with
    | nil => simp
    | cons a l => exact absurd (h a (by simp)) (by omega)
  | b + 1, l, hn, h => by
    by_cases hb : b ∈ l
    · have h1 := nodup_bound b (l.erase b) (hn.erase b) (fun x hx => by
        have h2 := (hn.mem_erase_iff).1 hx
        have := h x h2.2
        have : x ≠ b := h2.1
        omega)
      rw [List.length_erase_of_mem hb] at h1
      omega
    · have := nodup_bound b l hn (fun x hx => by
        have := h x hx
        have : x ≠ b := fun e => hb (by rw [← e]; exact hx)
        omega)
      omega
theorem team_len {l : List St} (h : chkB l = true) (t : Int) : (hs l t).length ≤ 8 := by
  rw [chk_iff] at h
  obtain ⟨-, h2, h3, -⟩ := h
  unfold hs
  rw [List.length_map]
  have := nodup_bound 8 ((l.filter (hs1 t)).map fun s => s.n.toNat) (by
    unfold List.Nodup
    rw [List.pairwise_map]
    have h4 := (h3.filter (hs1 t))
    refine (List.pairwise_iff_forall_sublist.2 ?_)
    intro a b hab e
    have h5 := List.pairwise_iff_forall_sublist.1 h4 hab
    have ha := List.mem_filter.1 (hab.subset (by simp : a ∈ [a, b]))
    have hb := List.mem_filter.1 (hab.subset (by simp : b ∈ [a, b]))
    have ka := (h2 a ha.1).1
    have kb := (h2 b hb.1).1
    unfold hs1 at ha hb
    have ea := (of_decide_eq_true ha.2).1
    have eb := (of_decide_eq_true hb.2).1
    unfold nameB at h5
    have : a.n = b.n := by omega
    rw [ea, eb, this] at h5
    simp at h5) (fun x hx => by
    obtain ⟨s, hs, rfl⟩ := List.mem_map.1 hx
    have := (h2 s (List.mem_filter.1 hs).1).1
    omega)
  rwa [List.length_map] at this

theorem hs_mir (l : List St) (t : Int) : hs (l.map mirS) t = hs l t := by
  unfold hs
  rw [List.filter_map, List.map_map]
  have e1 : (hs1 t ∘ mirS) = hs1 t := by
    funext s
    unfold hs1 mirS InH
    simp only [Function.comp_apply]
    rw [Bool.eq_iff_iff]; simp [Play_neg, sqd_neg]
  rw [e1]
  apply List.map_congr_left
  intro s _
  simp [mirS, sqd_neg]
theorem ref_mir (l : List St) : refT (l.map mirS) = refT l := by rw [refT_rT, refT_rT, hs_mir, hs_mir]
/-- A team alone. -/
def aloneL (l : List St) (t : Int) : List St := l.filter fun s => decide (s.t = t)
theorem hs_alone (l : List St) (t : Int) : hs (aloneL l t) t = hs l t := by
  unfold hs aloneL
  rw [List.filter_filter]
  congr 1
  apply List.filter_congr
  intro s _
  unfold hs1
  rw [Bool.eq_iff_iff]; simp; intro h _; exact h
theorem hs_alone' (l : List St) {t u : Int} (h : u ≠ t) : hs (aloneL l t) u = [] := by
  unfold hs aloneL
  rw [List.filter_filter, List.map_eq_nil_iff, List.filter_eq_nil_iff]
  intro s _
  unfold hs1
  simp; intro h1 _ h2; omega
theorem ref_alone (l : List St) {t : Int} (ht : t = 0 ∨ t = 1) : ((hs l t).length = 0 ∧ refT (aloneL l t) = (-1, 0)) ∨ (1 ≤ (hs l t).length ∧ refT (aloneL l t) = (t, (((hs l t).length : Nat) : Int))) := by
  have e := hs_alone' l (show 1 - t ≠ t by omega)
  by_cases h : hs l t = []
  · left
    rw [h]
    refine ⟨rfl, ?_⟩
    have h0 := hs_alone l t
    rw [h] at h0
    rcases ref_cases (aloneL l t) with ⟨T, hT, h1, -⟩ | ⟨-, h1⟩
    · exfalso
      by_cases eT : T = t
      · subst eT; exact h1.1 h0
      · have : T = 1 - t := by omega
        subst this; exact h1.1 e
    · exact h1
  · right
    refine ⟨List.length_pos_iff.2 h, ?_⟩
    have hw : Win (hs (aloneL l t) t) (hs (aloneL l t) (1 - t)) := by
      rw [e, hs_alone]; exact ⟨h, nofun⟩
    rw [ref_win ht hw, e, hs_alone]
    unfold pts
    rw [List.filter_eq_self.2 (by simp)]

theorem hs_erase {l : List St} {k : Nat} (hk : k < l.length) (t : Int) : ∃ a b, hs l t = a ++ (if hs1 t (l[k]'hk) = true then [sqd (l[k]'hk).x (l[k]'hk).y] else []) ++ b ∧ hs (l.eraseIdx k) t = a ++ b := by
  refine ⟨hs (l.take k) t, hs (l.drop (k + 1)) t, ?_, ?_⟩
  · conv => lhs; rw [← List.take_append_drop k l, List.drop_eq_getElem_cons hk]
    rw [hs_append, show l[k]'hk :: l.drop (k + 1) = [l[k]'hk] ++ l.drop (k + 1) from rfl, hs_append, ← List.append_assoc]
    congr 2
    unfold hs
    split
    · rename_i h; rw [List.filter_cons_of_pos h]; rfl
    · rename_i h; rw [List.filter_cons_of_neg h]; rfl
  · rw [List.eraseIdx_eq_take_drop_succ, hs_append]
theorem pts_mono {a b b' : List Int} (h : ∀ y ∈ b', y ∈ b) : pts a b ≤ pts a b' := by
  unfold pts
  rw [← List.countP_eq_length_filter, ← List.countP_eq_length_filter]
  apply List.countP_mono_left
  intro x _ hx
  rw [List.all_eq_true] at hx ⊢
  exact fun y hy => hx y (h y hy)
theorem win_mono {a b b' : List Int} (h : ∀ y ∈ b', y ∈ b) (hw : Win a b) : Win a b' := ⟨hw.1, fun y hy => hw.2 y (h y hy)⟩
/-- Without a stone of the other team. -/
theorem ref_other {l : List St} {k : Nat} (hk : k < l.length) {T : Int} (hT : T = 0 ∨ T = 1) (hw : Win (hs l T) (hs l (1 - T))) (hne : (l[k]'hk).t ≠ T) :
    (refT (l.eraseIdx k)).1 = T ∧ (pts (hs l T) (hs l (1 - T)) : Int) ≤ (refT (l.eraseIdx k)).2 := by
  obtain ⟨a, b, e1, e2⟩ := hs_erase hk T
  obtain ⟨c, d, e3, e4⟩ := hs_erase hk (1 - T)
  rw [if_neg (by unfold hs1; simp; intro h; exact absurd h hne), List.append_nil] at e1
  have hsub : ∀ y ∈ hs (l.eraseIdx k) (1 - T), y ∈ hs l (1 - T) := fun y hy => by
    rw [e4] at hy; rw [e3]
    rcases List.mem_append.1 hy with h | h
    · simp [h]
    · simp [h]
  have hw' := win_mono hsub hw
  rw [e1, ← e2] at hw'
  rw [ref_win hT hw']
  refine ⟨rfl, ?_⟩
  rw [e2, ← e1]
  have := pts_mono (a := hs l T) hsub
  simp only; omega
/-- Without a stone of the team's own that does not count. -/
theorem ref_own {l : List St} {k : Nat} (hk : k < l.length) {T : Int} (hT : T = 0 ∨ T = 1) (hw : Win (hs l T) (hs l (1 - T))) (ht : (l[k]'hk).t = T)
    (hn : ¬ (InH (l[k]'hk).x (l[k]'hk).y ∧ ∀ y ∈ hs l (1 - T), sqd (l[k]'hk).x (l[k]'hk).y < y)) :
    refT (l.eraseIdx k) = (T, ((pts (hs l T) (hs l (1 - T)) : Nat) : Int)) := by
  obtain ⟨a, b, e1, e2⟩ := hs_erase hk T
  obtain ⟨c, d, e3, e4⟩ := hs_erase hk (1 - T)
  rw [if_neg (by unfold hs1; simp; intro h; omega), List.append_nil] at e3
  by_cases hi : InH (l[k]'hk).x (l[k]'hk).y
  · rw [if_pos (by unfold hs1; simp [ht, hi])] at e1
    obtain ⟨q, hq⟩ : ∃ q, sqd (l[k]'hk).x (l[k]'hk).y = q := ⟨_, rfl⟩
    rw [hq] at e1 hn
    have hx : ∃ y ∈ hs l (1 - T), ¬ q < y := by
      refine Classical.byContradiction fun hx => hn ⟨hi, fun y hy => ?_⟩
      exact Classical.byContradiction fun h => hx ⟨y, hy, h⟩
    obtain ⟨y0, hy0, hy1⟩ := hx
    have hw' : Win (a ++ b) (hs l (1 - T)) := by
      have key : ∀ y ∈ hs l (1 - T), ∃ x ∈ a ++ b, x < y := by
        have base : ∃ x ∈ a ++ b, x < y0 := by
          obtain ⟨x, hx1, hx2⟩ := hw.2 y0 hy0
          refine ⟨x, ?_, hx2⟩
          rw [e1] at hx1
          simp only [List.mem_append, List.mem_singleton] at hx1 ⊢
          rcases hx1 with (h | h) | h
          · exact .inl h
          · subst h; exact absurd hx2 hy1
          · exact .inr h
        intro y hy
        obtain ⟨x, hx1, hx2⟩ := hw.2 y hy
        rw [e1] at hx1
        simp only [List.mem_append, List.mem_singleton] at hx1
        rcases hx1 with (h | h) | h
        · exact ⟨x, by simp [h], hx2⟩
        · obtain ⟨z, hz1, hz2⟩ := base
          exact ⟨z, hz1, by omega⟩
        · exact ⟨x, by simp [h], hx2⟩
      refine ⟨fun e => ?_, key⟩
      obtain ⟨x, hx1, -⟩ := key y0 hy0
      rw [e] at hx1; simp at hx1
    rw [e3, ← e4, ← e2] at hw'
    rw [ref_win hT hw', e2, e4, ← e3]
    congr 2
    unfold pts
    rw [e1, List.filter_append, List.filter_append, List.filter_append]
    have : ([q].filter fun x => (hs l (1 - T)).all fun y => decide (x < y)) = [] := by
      rw [List.filter_cons_of_neg]
      · rfl
      · intro h
        rw [List.all_eq_true] at h
        have := h y0 hy0
        simp at this; omega
    rw [this, List.append_nil]
  · rw [if_neg (by unfold hs1; simp; intro _; exact hi), List.append_nil] at e1
    have f1 : hs (l.eraseIdx k) T = hs l T := by rw [e2, e1]
    have f2 : hs (l.eraseIdx k) (1 - T) = hs l (1 - T) := by rw [e4, e3]
    rw [ref_win hT (by rw [f1, f2]; exact hw), f1, f2]
end Go.Proofs.YtmhlialdbggmdaaGreatDoor
