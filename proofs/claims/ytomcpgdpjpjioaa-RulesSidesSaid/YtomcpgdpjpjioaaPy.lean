/- Plain: what a valid position is; it stays valid in another order, mirrored, with the teams exchanged, without one of its stones. Plain: what holds of every ruling. -/
import Derived.Test.YtomcpgdpjpjioaaSu
import Derived.Test.YtomcpgdpjpjioaaKp
import Derived.Test.YtomcpgdpjpjioaaMe
import Derived.Test.YtomcpgdpjpjioaaFo
namespace Go.Proofs.Ytomcpgdpjpjioaa
open Go.RowKit Go.Proofs Go.Shelf

theorem goodF_iff : ∀ (l pre : List St), goodF pre l = true ↔ (∀ s ∈ l, okSt s) ∧ (∀ a ∈ pre, ∀ b ∈ l, nameB a b = false) ∧ l.Pairwise (fun a b => nameB a b = false)
  | [], pre => by simp [goodF]
  | s :: r, pre => by
    unfold goodF
    rw [Bool.and_eq_true, Bool.and_eq_true, goodF_iff r (pre ++ [s]), List.all_eq_true, List.pairwise_cons]
    simp only [decide_eq_true_eq, List.mem_cons, List.mem_append, List.not_mem_nil, or_false, Bool.not_eq_true']
    constructor
    · rintro ⟨⟨h1, h2⟩, h3, h4, h5⟩
      refine ⟨?_, ?_, fun b hb => h4 s (.inr rfl) b hb, h5⟩
      · rintro x (rfl | hx)
        · exact h1
        · exact h3 x hx
      · rintro a ha b (rfl | hb)
        · exact h2 a ha
        · exact h4 a (.inl ha) b hb
    · rintro ⟨h1, h2, h3, h4⟩
      refine ⟨⟨h1 s (.inl rfl), fun a ha => h2 a ha s (.inl rfl)⟩, fun x hx => h1 x (.inr hx), ?_, h4⟩
      rintro a (ha | rfl) b hb
      · exact h2 a ha b (.inr hb)
      · exact h3 b hb
theorem fidx_neg {α : Type} (p : α → Bool) (l : List α) : fidx p l < 0 ↔ ∀ x ∈ l, p x = false := by
  unfold fidx
  split
  · rename_i h
    constructor
    · intro h1; omega
    · intro h1
      have := List.findIdx_getElem (w := h)
      rw [h1 _ (List.getElem_mem h)] at this; cases this
  · rename_i h
    constructor
    · intro _ x hx
      cases e : p x
      · rfl
      · exact absurd (List.findIdx_lt_length_of_exists ⟨x, hx, e⟩) h
    · intro _; omega
theorem pairF_iff {α : Type} (h : α → α → Bool) : ∀ (l : List α) (i : Nat), (pairF h l i).1 < 0 ↔ l.Pairwise (fun a b => h a b = false)
  | [], i => by simp [pairF]
  | a :: l, i => by
    unfold pairF
    rw [List.pairwise_cons, ← fidx_neg]
    split
    · rename_i h0
      constructor
      · intro h1; simp only at h1; omega
      · rintro ⟨h1, -⟩; omega
    · rename_i h0
      rw [pairF_iff h l (i + 1)]
      exact ⟨fun h1 => ⟨by omega, h1⟩, fun h1 => h1.2⟩
/-- What a valid position is. -/
theorem chk_iff (l : List St) : chkB l = true ↔ l.length ≤ 16 ∧ (∀ s ∈ l, okSt s) ∧ l.Pairwise (fun a b => nameB a b = false) ∧ l.Pairwise (fun a b => ovB a b = false) := by
  unfold chkB
  rw [Bool.and_eq_true, Bool.and_eq_true, decide_eq_true_eq, decide_eq_true_eq, goodF_iff, pairF_iff]
  constructor
  · rintro ⟨⟨h1, h2, -, h3⟩, h4⟩; exact ⟨h1, h2, h3, h4⟩
  · rintro ⟨h1, h2, h3, h4⟩; exact ⟨⟨h1, h2, fun a ha => (by cases ha), h3⟩, h4⟩
theorem nameB_comm (a b : St) : nameB a b = nameB b a := by unfold nameB; rw [Bool.eq_iff_iff]; simp only [Bool.and_eq_true, beq_iff_eq]; omega
theorem ovB_comm (a b : St) : ovB a b = ovB b a := by
  unfold ovB
  rw [touZ_comm, Bool.eq_iff_iff]
  simp only [decide_eq_true_eq]
  exact ⟨fun ⟨h1, h2, h3⟩ => ⟨h2, h1, h3⟩, fun ⟨h1, h2, h3⟩ => ⟨h2, h1, h3⟩⟩
theorem chk_perm {l m : List St} (hp : l.Perm m) (h : chkB l = true) : chkB m = true := by
  rw [chk_iff] at h ⊢
  obtain ⟨h1, h2, h3, h4⟩ := h
  refine ⟨by rw [← hp.length_eq]; exact h1, fun s hs => h2 s (hp.mem_iff.2 hs), hp.pairwise h3 (fun {a b} h => by rw [nameB_comm]; exact h), hp.pairwise h4 (fun {a b} h => by rw [ovB_comm]; exact h)⟩
theorem chk_perm_eq {l m : List St} (hp : l.Perm m) : chkB l = chkB m := by
  rw [Bool.eq_iff_iff]; exact ⟨chk_perm hp, chk_perm hp.symm⟩
theorem chk_filter {l : List St} (p : St → Bool) (h : chkB l = true) : chkB (l.filter p) = true := by
  rw [chk_iff] at h ⊢
  obtain ⟨h1, h2, h3, h4⟩ := h
  exact ⟨Nat.le_trans (List.length_filter_le _ _) h1, fun s hs => h2 s (List.mem_filter.1 hs).1, h3.filter _, h4.filter _⟩
/-- A change of stones that keeps what counts for a position. -/
structure Keeps (f : St → St) : Prop where
  ok : ∀ s, okSt (f s) ↔ okSt s
  nm : ∀ a b, okSt a → okSt b → nameB (f a) (f b) = nameB a b
  ov : ∀ a b, ovB (f a) (f b) = ovB a b
theorem chk_map {f : St → St} (hf : Keeps f) (l : List St) : chkB (l.map f) = chkB l := by
  rw [Bool.eq_iff_iff, chk_iff, chk_iff, List.length_map, List.pairwise_map, List.pairwise_map]
  constructor
  · rintro ⟨h1, h2, h3, h4⟩
    have ho : ∀ s ∈ l, okSt s := fun s hs => (hf.ok s).1 (h2 _ (List.mem_map_of_mem hs))
    exact ⟨h1, ho, h3.imp_of_mem (fun {a b} ha hb h => by rw [← hf.nm a b (ho a ha) (ho b hb)]; exact h), h4.imp (fun {a b} h => by rw [← hf.ov]; exact h)⟩
  · rintro ⟨h1, h2, h3, h4⟩
    refine ⟨h1, ?_, h3.imp_of_mem (fun {a b} ha hb h => by rw [hf.nm a b (h2 a ha) (h2 b hb)]; exact h), h4.imp (fun {a b} h => by rw [hf.ov]; exact h)⟩
    intro s hs
    obtain ⟨x, hx, rfl⟩ := List.mem_map.1 hs
    exact (hf.ok x).2 (h2 x hx)
/-- Left and right exchanged; the teams exchanged. -/
def mirS (s : St) : St := ⟨s.t, s.n, -s.x, s.y⟩
def excS (s : St) : St := ⟨1 - s.t, s.n, s.x, s.y⟩
theorem okS_neg (x y : Int) : OkS (-x) y ↔ OkS x y := by unfold OkS; constructor <;> rintro ⟨h1, h2⟩ <;> exact ⟨by omega, h2⟩
theorem play_neg (x y : Int) : Play (-x) y ↔ Play x y := by unfold Play; rw [ab_neg]
theorem sqd_negx (x y : Int) : sqd (-x) y = sqd x y := by unfold sqd; rw [Int.neg_mul_neg]
theorem touZ_negx (x y : Int) : touZ (-x) y = touZ x y := by unfold touZ; rw [ab_neg, sqd_negx]
theorem zone_neg (x y : Int) : zoneZ (-x) y = zoneZ x y := by
  unfold zoneZ
  rw [sqd_negx]
  by_cases h : Play x y
  · rw [if_pos h, if_pos ((play_neg x y).2 h)]
  · rw [if_neg h, if_neg (fun h' => h ((play_neg x y).1 h'))]
theorem mir_keeps : Keeps mirS where
  ok s := by unfold okSt mirS; simp only; rw [okS_neg, play_neg]
  nm a b _ _ := rfl
  ov a b := by
    unfold ovB mirS
    simp only
    rw [show -a.x - -b.x = -(a.x - b.x) by omega, touZ_negx, Bool.eq_iff_iff]
    simp only [decide_eq_true_eq, okS_neg]
theorem exc_keeps : Keeps excS where
  ok s := by unfold okSt excS; simp only; constructor <;> rintro ⟨⟨h1, h2⟩, h3⟩ <;> exact ⟨⟨by omega, h2⟩, h3⟩
  nm a b _ _ := by unfold nameB excS; simp only; rw [Bool.eq_iff_iff]; simp only [Bool.and_eq_true, beq_iff_eq]; omega
  ov a b := rfl
end Go.Proofs.Ytomcpgdpjpjioaa

namespace Go.Proofs.Ytomcpgdpjpjioaa
open Go.RowKit Go.Proofs Go.Shelf

/-- A position has just the stones of another one, where they were. -/
def smB (L l : List St) : Bool := (L.length == l.length) && l.all (fun s => L.any (fun s' => eqS s' s))
theorem smB_srt (l : List St) : smB (srt l) l = true := by
  unfold smB
  rw [srt_len, Bool.and_eq_true, List.all_eq_true]
  refine ⟨by simp, fun s hs => ?_⟩
  rw [List.any_eq_true]
  exact ⟨s, (srt_perm l).mem_iff.2 hs, (eqS_iff s s).2 rfl⟩
theorem fidx_pos {p : St → Bool} {l : List St} : 0 ≤ fidx p l ↔ ∃ s ∈ l, p s = true := by
  have h := fidx_neg p l
  constructor
  · intro h1
    refine Classical.byContradiction fun hne => ?_
    have : fidx p l < 0 := h.2 (fun x hx => by
      cases e : p x
      · rfl
      · exact absurd ⟨x, hx, e⟩ hne)
    omega
  · rintro ⟨s, hs, hp⟩
    by_cases e : fidx p l < 0
    · have := h.1 e s hs; rw [hp] at this; cases this
    · omega
theorem thrB_names {l m : List St} {x : Th} (h : thrB l m x = true) : ∀ s ∈ m, eqK s.t s.n x.team x.n = true ∨ ∃ s' ∈ l, isB s.t s.n s' = true := by
  unfold thrB at h
  simp only [Bool.and_eq_true] at h
  intro s hs
  have h1 := List.all_eq_true.1 h.1.2 s hs
  rw [Bool.or_eq_true, look_ge, decide_eq_true_eq, fidx_pos] at h1
  exact h1.symm
/-- Names alone. -/
def nmS (s : St) : St := ⟨s.t, s.n, 0, 0⟩
theorem len_names {l m : List St} (hl : chkB l = true) (hm : chkB m = true) (h : ∀ s ∈ m, ∃ s' ∈ l, isB s.t s.n s' = true) : m.length ≤ l.length := by
  have sl := srt_strict (chk_bnd hl) (chk_pw hl)
  have sm := srt_strict (chk_bnd hm) (chk_pw hm)
  have h1 : ((srt m).map nmS).Pairwise (fun a b => kyS a < kyS b) := by rw [List.pairwise_map]; exact sm
  have h2 : ((srt l).map nmS).Pairwise (fun a b => kyS a < kyS b) := by rw [List.pairwise_map]; exact sl
  have := strict_len _ _ h1 h2 (fun y hy => by
    obtain ⟨s, hs, rfl⟩ := List.mem_map.1 hy
    obtain ⟨s', hs', hb⟩ := h s ((srt_perm m).mem_iff.1 hs)
    have hb' := (isB_iff _ _ _).1 hb
    refine List.mem_map.2 ⟨s', (srt_perm l).mem_iff.2 hs', ?_⟩
    unfold nmS; rw [hb'.1, hb'.2])
  rwa [List.length_map, List.length_map, srt_len, srt_len] at this
theorem len_gone {m : List St} (x : Th) (hm : chkB m = true) : m.length ≤ (gone x m).length + 1 := by
  have h1 : (m.filter (fun s => eqK s.t s.n x.team x.n)).length ≤ 1 := by
    have hp := (chk_pw hm).filter (fun s => eqK s.t s.n x.team x.n)
    have hall : ∀ s ∈ m.filter (fun s => eqK s.t s.n x.team x.n), s.t = x.team ∧ s.n = x.n := fun s hs => (eqK_iff _ _ _ _).1 (List.mem_filter.1 hs).2
    generalize m.filter (fun s => eqK s.t s.n x.team x.n) = q at hp hall
    match q, hp, hall with
    | [], _, _ => simp
    | [_], _, _ => simp
    | a :: b :: r, hp, hall =>
      have h2 := (List.pairwise_cons.1 hp).1 b (List.mem_cons_self ..)
      have ha := hall a (List.mem_cons_self ..)
      have hb := hall b (List.mem_cons_of_mem _ (List.mem_cons_self ..))
      exact absurd ⟨by omega, by omega⟩ h2
  have h2 := List.length_eq_countP_add_countP (fun s : St => eqK s.t s.n x.team x.n) (l := m)
  rw [List.countP_eq_length_filter, List.countP_eq_length_filter] at h2
  have h3 : (m.filter (fun s => decide (¬ eqK s.t s.n x.team x.n = true))) = gone x m := by
    unfold gone; congr 1; funext s; cases eqK s.t s.n x.team x.n <;> rfl
  rw [h3] at h2
  omega
theorem ddP_mem (L : List Pr) : ∀ q ∈ ddP L, q ∈ L := by
  have H : ∀ (L A : List Pr) (q : Pr), q ∈ L.foldl (fun out o => if (out.any fun p => samP p o) = true then out else out ++ [o]) A → q ∈ A ∨ q ∈ L := by
    intro L
    induction L with
    | nil => intro A q h; exact .inl h
    | cons o L ih =>
      intro A q h
      rw [List.foldl_cons] at h
      rcases ih _ _ h with h1 | h1
      · split at h1
        · exact .inl h1
        · rcases List.mem_append.1 h1 with h2 | h2
          · exact .inl h2
          · exact .inr (by rw [List.mem_singleton.1 h2]; exact List.mem_cons_self ..)
      · exact .inr (List.mem_cons_of_mem _ h1)
  intro q hq
  rcases H L [] q hq with h | h
  · cases h
  · exact h
theorem ddP_head (o : Pr) (L : List Pr) : ∃ M, ddP (o :: L) = o :: M := by
  have H : ∀ (L : List Pr) (A : List Pr), ∃ M, L.foldl (fun out o => if (out.any fun p => samP p o) = true then out else out ++ [o]) (o :: A) = o :: M := by
    intro L
    induction L with
    | nil => intro A; exact ⟨A, rfl⟩
    | cons p L ih =>
      intro A
      rw [List.foldl_cons]
      split
      · exact ih A
      · exact ih (A ++ [p])
  exact H L []
theorem juE_zero {c : Cd} {n : Int} {x : Th} {l m : List St} (h : juE c n x l m = 0) : ccB c = true ∧ thrB l m x = true ∧ 0 ≤ n ∧ n ≤ 16 := by
  unfold juE at h
  split at h
  · rename_i h1
    rw [Bool.and_eq_true] at h1
    split at h
    · rename_i h2; exact ⟨h1.1, h1.2, h2⟩
    · cases h
  · cases h
/-- Everything that the law asks of a ruling. -/
structure Keep (c : Cd) (n : Int) (x : Th) (l m : List St) : Prop where
  e : prE c n x.team l = 0
  ne : 0 < (juP c n x l m).length
  ch : -1 ≤ juCh c n x l m ∧ juCh c n x l m ≤ 1
  one : juCh c n x l m < 0 → (juP c n x l m).length = 1
  all : ∀ q ∈ juP c n x l m, chkB q.1 = true ∧ q.1.length ≤ l.length + 1 ∧ ∀ s ∈ q.1, eqK s.t s.n x.team x.n = true ∨ 0 ≤ fidx (isB s.t s.n) l
  still : juR c n x l m ≠ 0 → ∃ q ∈ juP c n x l m, smB q.1 l = true
  kept : juCh c n x l m < 0 → ∀ q ∈ juP c n x l m, q.2 = false → ∀ s ∈ l, kpB c n x.team s = true → 0 ≤ fidx (isB s.t s.n) q.1
theorem judP_mem {k : Nat} {x : Th} {l m : List St} {q : Pr} (h : q ∈ judP k x l m) : q.1 = srt l ∨ q.1 = srt m ∨ q.1 = srt (gone x m) := by
  unfold judP at h
  split at h
  · rw [List.mem_singleton.1 h]; exact .inr (.inl rfl)
  split at h
  · rw [List.mem_singleton.1 h]; exact .inl rfl
  split at h
  · have := ddP_mem _ _ h
    simp only [List.mem_cons, List.not_mem_nil, or_false] at this
    rcases this with rfl | rfl | rfl
    · exact .inl rfl
    · exact .inr (.inl rfl)
    · exact .inr (.inr rfl)
  split at h
  · have := ddP_mem _ _ h
    simp only [List.mem_cons, List.not_mem_nil, or_false] at this
    rcases this with rfl | rfl
    · exact .inr (.inl rfl)
    · exact .inl rfl
  split at h
  · have := ddP_mem _ _ h
    simp only [List.mem_cons, List.not_mem_nil, or_false] at this
    rcases this with rfl | rfl
    · exact .inr (.inl rfl)
    · exact .inl rfl
  · rw [List.mem_singleton.1 h]; exact .inl rfl
theorem keep_plain {c : Cd} {n : Int} {x : Th} {l m : List St} (h : juE c n x l m = 0) : Keep c n x l m := by
  obtain ⟨hc, ht, hn⟩ := juE_zero h
  obtain ⟨hl, hm, ht0, ht1⟩ := thrB_facts ht
  have hnm := thrB_names ht
  have hP : juP c n x l m = judP (juN c n x l m) x l m := by unfold juP; rw [if_pos h]
  have hR : juR c n x l m = (juN c n x l m : Int) := by unfold juR; rw [if_pos h]
  have hC : juCh c n x l m = judC (juN c n x l m) x := by unfold juCh; rw [if_pos h]
  obtain ⟨k, hk⟩ : ∃ k, juN c n x l m = k := ⟨_, rfl⟩
  have hgone : chkB (gone x m) = true := chk_filter _ hm
  have hglen : (gone x m).length ≤ l.length := len_names hl hgone (fun s hs => by
    have h1 := List.mem_filter.1 hs
    rcases hnm s h1.1 with h2 | h2
    · rw [h2] at h1; exact absurd h1.2 (by simp)
    · exact h2)
  refine ⟨prE_zero.2 ⟨hc, hl, ⟨ht0, ht1⟩, hn⟩, ?_, ?_, ?_, ?_, ?_, ?_⟩
  · rw [hP, hk]; unfold judP
    repeat' split
    all_goals first | (simp; done) | (obtain ⟨M, hM⟩ := ddP_head (srt l, false) [(srt m, false), (srt (gone x m), false)]; rw [hM]; simp; done) | (obtain ⟨M, hM⟩ := ddP_head (srt m, false) [(srt l, true)]; rw [hM]; simp; done) | (obtain ⟨M, hM⟩ := ddP_head (srt m, false) [(srt l, false)]; rw [hM]; simp; done)
  · rw [hC, hk]; unfold judC
    repeat' split
    all_goals omega
  · intro hch
    rw [hC, hk] at hch
    rw [hP, hk]
    unfold judC at hch
    split at hch
    · omega
    split at hch
    · omega
    rename_i h1 h2
    have e5 : k ≠ 5 := fun e => h1 (.inl e)
    have e9 : k ≠ 9 := fun e => h1 (.inr e)
    unfold judP
    rw [if_neg e5, if_neg h2, if_neg e9]
    repeat' split
    all_goals rfl
  · intro q hq
    rw [hP] at hq
    rcases judP_mem hq with e | e | e
    · rw [e]
      refine ⟨chk_perm (srt_perm l).symm hl, by rw [srt_len]; omega, fun s hs => .inr (fidx_pos.2 ⟨s, (srt_perm l).mem_iff.1 hs, (isB_iff _ _ _).2 ⟨rfl, rfl⟩⟩)⟩
    · rw [e]
      refine ⟨chk_perm (srt_perm m).symm hm, by rw [srt_len]; have := len_gone x hm; omega, fun s hs => ?_⟩
      rcases hnm s ((srt_perm m).mem_iff.1 hs) with h1 | h1
      · exact .inl h1
      · exact .inr (fidx_pos.2 h1)
    · rw [e]
      refine ⟨chk_perm (srt_perm _).symm hgone, by rw [srt_len]; omega, fun s hs => ?_⟩
      rcases hnm s (List.mem_filter.1 ((srt_perm _).mem_iff.1 hs)).1 with h1 | h1
      · exact .inl h1
      · exact .inr (fidx_pos.2 h1)
  · intro hr
    rw [hR, hk] at hr
    have hk0 : k ≠ 0 := fun e => hr (by rw [e]; rfl)
    rw [hP, hk]
    unfold judP
    rw [if_neg hk0]
    split
    · exact ⟨_, List.mem_singleton.2 rfl, smB_srt l⟩
    split
    · obtain ⟨M, hM⟩ := ddP_head (srt l, false) [(srt m, false), (srt (gone x m), false)]
      rw [hM]; exact ⟨_, List.mem_cons_self .., smB_srt l⟩
    split
    · refine ⟨(srt l, true), ?_, smB_srt l⟩
      unfold ddP; simp [samP]
    split
    · by_cases e : srt m = srt l
      · refine ⟨(srt m, false), ?_, by show smB (srt m) l = true; rw [e]; exact smB_srt l⟩
        obtain ⟨M, hM⟩ := ddP_head (srt m, false) [(srt l, false)]
        rw [hM]; exact List.mem_cons_self ..
      · refine ⟨(srt l, false), ?_, smB_srt l⟩
        unfold ddP; simp [samP, eqL_no e]
    · exact ⟨_, List.mem_singleton.2 rfl, smB_srt l⟩
  · intro hch q hq hg s hs hkp
    rw [hC, hk] at hch
    rw [hP, hk] at hq
    unfold judC at hch
    split at hch
    · omega
    split at hch
    · omega
    rename_i h1 h2
    have e5 : k ≠ 5 := fun e => h1 (.inl e)
    have e9 : k ≠ 9 := fun e => h1 (.inr e)
    unfold judP at hq
    rw [if_neg e5, if_neg h2, if_neg e9] at hq
    split at hq
    · rename_i hk0
      subst hk0
      rw [List.mem_singleton.1 hq]
      -- rule 0: nothing kept is gone
      have hrem : remB c n x.team m l = false := by
        unfold juN at hk
        rw [ruleN_val] at hk
        cases hr : remB c n x.team m l
        · rfl
        · rw [hr] at hk
          exfalso
          revert hk
          repeat' split
          all_goals simp_all
      unfold remB at hrem
      rw [List.any_eq_false] at hrem
      have h3 := hrem s hs
      rw [hkp] at h3
      have h4 : (lookT m s.t s.n).isSome = true := by
        cases e : (lookT m s.t s.n).isSome
        · rw [e] at h3; exact absurd rfl h3
        · rfl
      rw [look_ge, decide_eq_true_eq, fidx_pos] at h4
      obtain ⟨s', hs', hb⟩ := h4
      exact fidx_pos.2 ⟨s', (srt_perm m).mem_iff.2 hs', hb⟩
    split at hq
    · rw [List.mem_singleton.1 hq] at hg; cases hg
    · rw [List.mem_singleton.1 hq]
      exact fidx_pos.2 ⟨s, (srt_perm l).mem_iff.2 hs, (isB_iff _ _ _).2 ⟨rfl, rfl⟩⟩
end Go.Proofs.Ytomcpgdpjpjioaa
