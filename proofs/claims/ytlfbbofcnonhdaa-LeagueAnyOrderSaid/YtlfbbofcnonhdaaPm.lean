/- Plain law: the lives of a knock-out's teams. -/
import Derived.Test.YtlfbbofcnonhdaaPl
namespace Go.Proofs.Ytlfbbofcnonhdaa
open Go.RowKit Go.Proofs

/-- All games have results. -/
def mW (wn : Nat → Int) : Int → Option Int := fun i => some (wn i.toNat)
def tF (wn : Nat → Int) (T : Nat) (G : List Gm) (k : Nat) : Int × Int → Option Int := tmM (mW wn) T G k
/-- How often a team has lost in the first k games. -/
def lcF (wn : Nat → Int) (T : Nat) (G : List Gm) : Nat → Int → Int
  | 0 => fun _ => 0
  | k + 1 => fun t => lcF wn T G k t + if t = atM (tF wn T G k) (sideG (G.getD k ((0, 0), (0, 0))) (1 - wn k)) then 1 else 0
theorem getD_app {G : List Gm} {g : Gm} {k : Nat} (h : k < G.length) : (G ++ [g]).getD k ((0, 0), (0, 0)) = G.getD k ((0, 0), (0, 0)) := by
  rw [List.getD_eq_getElem?_getD, List.getD_eq_getElem?_getD, List.getElem?_append_left h]
theorem getD_last (G : List Gm) (g : Gm) : (G ++ [g]).getD G.length ((0, 0), (0, 0)) = g := by
  rw [List.getD_eq_getElem?_getD, List.getElem?_append_right (Nat.le_refl _), Nat.sub_self]; rfl
theorem tF_app (wn : Nat → Int) (T : Nat) (G : List Gm) (g : Gm) : ∀ k, k ≤ G.length → tF wn T (G ++ [g]) k = tF wn T G k
  | 0, _ => rfl
  | k + 1, h => by
    have ih := tF_app wn T G g k (by omega)
    show gameM (mW wn) (tF wn T (G ++ [g]) k) (k : Nat) ((G ++ [g]).getD k ((0, 0), (0, 0))) = gameM (mW wn) (tF wn T G k) (k : Nat) (G.getD k ((0, 0), (0, 0)))
    rw [ih, getD_app (by omega)]
theorem lcF_app (wn : Nat → Int) (T : Nat) (G : List Gm) (g : Gm) : ∀ k, k ≤ G.length → lcF wn T (G ++ [g]) k = lcF wn T G k
  | 0, _ => rfl
  | k + 1, h => by
    funext t
    show lcF wn T (G ++ [g]) k t + (if t = atM (tF wn T (G ++ [g]) k) (sideG ((G ++ [g]).getD k ((0, 0), (0, 0))) (1 - wn k)) then 1 else 0) = lcF wn T G k t + _
    rw [lcF_app wn T G g k (by omega), tF_app wn T G g k (by omega), getD_app (by omega)]
/-- What holds while a knock-out is made and played: places, each with how often its team has lost. -/
structure LInv (wn : Nat → Int) (T : Nat) (G : List Gm) (P : List ((Int × Int) × Int)) : Prop where
  rg : ∀ p ∈ P, rng (T : Nat) p.1 (G.length : Nat)
  kn : ∀ p ∈ P, ∃ t, tF wn T G G.length p.1 = some t ∧ lcF wn T G G.length t = p.2
  pm : (P.map fun p => atM (tF wn T G G.length) p.1).Perm (allT T)
  gd : ∀ i (h : i < G.length), ∃ a b, tF wn T G i (G[i]'h).1 = some a ∧ tF wn T G i (G[i]'h).2 = some b ∧ a ≠ b ∧ (0 ≤ a ∧ a < T) ∧ (0 ≤ b ∧ b < T)
theorem LInv.perm {wn : Nat → Int} {T : Nat} {G : List Gm} {P Q : List ((Int × Int) × Int)} (h : LInv wn T G P) (hp : P.Perm Q) : LInv wn T G Q :=
  ⟨fun p hm => h.rg p (hp.mem_iff.2 hm), fun p hm => h.kn p (hp.mem_iff.2 hm), (hp.map _).symm.trans h.pm, h.gd⟩
theorem rng_ne {T : Int} {x : Int × Int} {n : Nat} (h : rng T x (n : Nat)) : x ≠ (1, ((n : Nat) : Int)) ∧ x ≠ (2, ((n : Nat) : Int)) := by
  unfold rng at h
  constructor
  · rintro rfl; dsimp only at h; rw [if_neg (by omega)] at h; omega
  · rintro rfl; dsimp only at h; rw [if_neg (by omega)] at h; omega
theorem rng_up {T : Int} {x : Int × Int} {n : Nat} (h : rng T x (n : Nat)) : rng T x ((n + 1 : Nat) : Int) := by
  unfold rng at h ⊢
  split at h
  · rename_i e; rw [if_pos e]; exact h
  · rename_i e; rw [if_neg e]; omega
theorem LInv.step {wn : Nat → Int} (hw : ∀ i, wn i = 0 ∨ wn i = 1) {T : Nat} {G : List Gm} {x y : Int × Int} {k : Int} {Q : List ((Int × Int) × Int)} (h : LInv wn T G ((x, k) :: (y, k) :: Q)) :
    LInv wn T (G ++ [(x, y)]) (((1, ((G.length : Nat) : Int)), k) :: ((2, ((G.length : Nat) : Int)), k + 1) :: Q) := by
  obtain ⟨tx, hx, lx⟩ := h.kn (x, k) (by simp)
  obtain ⟨ty, hy, ly⟩ := h.kn (y, k) (by simp)
  dsimp only at hx hy lx ly
  have rx := rng_ne (h.rg (x, k) (by simp))
  have ry := rng_ne (h.rg (y, k) (by simp))
  dsimp only at rx ry
  have hpm := h.pm
  simp only [List.map_cons, atM, hx, hy, Option.getD_some] at hpm
  have hnd : (tx :: ty :: Q.map fun p => (tF wn T G G.length p.1).getD (-1)).Nodup := hpm.nodup_iff.2 ((allT_inc T).imp (fun h e => by omega))
  rw [List.nodup_cons, List.nodup_cons] at hnd
  have hxy : tx ≠ ty := fun e => hnd.1 (by rw [e]; simp)
  have hbx := allT_in (hpm.mem_iff.1 (List.mem_cons_self ..))
  have hby := allT_in (hpm.mem_iff.1 (by simp : ty ∈ tx :: ty :: _))
  have hlen : (G ++ [(x, y)]).length = G.length + 1 := by simp
  -- the winner and the loser
  obtain ⟨tw, tl, hT, hF, hL⟩ : ∃ tw tl, ((tw = tx ∧ tl = ty) ∨ (tw = ty ∧ tl = tx)) ∧ tF wn T (G ++ [(x, y)]) (G.length + 1) = upd (upd (tF wn T G G.length) (1, ((G.length : Nat) : Int)) tw) (2, ((G.length : Nat) : Int)) tl ∧ atM (tF wn T G G.length) (sideG (x, y) (1 - wn G.length)) = tl := by
    have e0 : tF wn T (G ++ [(x, y)]) (G.length + 1) = gameM (mW wn) (tF wn T G G.length) (G.length : Nat) (x, y) := by
      show gameM (mW wn) (tF wn T (G ++ [(x, y)]) G.length) _ ((G ++ [(x, y)]).getD G.length _) = _
      rw [tF_app wn T G _ _ (Nat.le_refl _), getD_last]
    have em : mW wn ((G.length : Nat) : Int) = some (wn G.length) := rfl
    rw [e0]
    unfold gameM
    rw [em]
    dsimp only
    rcases hw G.length with e | e
    · rw [e]
      have s1 : sideG (x, y) 0 = x := rfl
      have s2 : sideG (x, y) (1 - 0) = y := rfl
      rw [s1, s2, hx]
      have h2 : upd (tF wn T G G.length) (1, ((G.length : Nat) : Int)) tx y = some ty := by unfold upd; rw [if_neg ry.1]; exact hy
      dsimp only
      rw [h2]
      exact ⟨tx, ty, .inl ⟨rfl, rfl⟩, rfl, by unfold atM; rw [hy]; rfl⟩
    · rw [e]
      have s1 : sideG (x, y) 1 = y := rfl
      have s2 : sideG (x, y) (1 - 1) = x := rfl
      rw [s1, s2, hy]
      have h2 : upd (tF wn T G G.length) (1, ((G.length : Nat) : Int)) ty x = some tx := by unfold upd; rw [if_neg rx.1]; exact hx
      dsimp only
      rw [h2]
      exact ⟨ty, tx, .inr ⟨rfl, rfl⟩, rfl, by unfold atM; rw [hx]; rfl⟩
  have hLc : ∀ t, lcF wn T (G ++ [(x, y)]) (G.length + 1) t = lcF wn T G G.length t + if t = tl then 1 else 0 := by
    intro t
    show lcF wn T (G ++ [(x, y)]) G.length t + (if t = atM (tF wn T (G ++ [(x, y)]) G.length) (sideG ((G ++ [(x, y)]).getD G.length _) (1 - wn G.length)) then 1 else 0) = _
    rw [lcF_app wn T G _ _ (Nat.le_refl _), tF_app wn T G _ _ (Nat.le_refl _), getD_last, hL]
  have hold : ∀ z : Int × Int, z ≠ (1, ((G.length : Nat) : Int)) → z ≠ (2, ((G.length : Nat) : Int)) → tF wn T (G ++ [(x, y)]) (G.length + 1) z = tF wn T G G.length z := by
    intro z z1 z2
    rw [hF]
    unfold upd
    rw [if_neg z2, if_neg z1]
  have hw1 : tF wn T (G ++ [(x, y)]) (G.length + 1) (1, ((G.length : Nat) : Int)) = some tw := by
    rw [hF]; unfold upd; rw [if_neg (by simp), if_pos rfl]
  have hl1 : tF wn T (G ++ [(x, y)]) (G.length + 1) (2, ((G.length : Nat) : Int)) = some tl := by
    rw [hF]; unfold upd; rw [if_pos rfl]
  have hQ : ∀ p ∈ Q, p.1 ≠ (1, ((G.length : Nat) : Int)) ∧ p.1 ≠ (2, ((G.length : Nat) : Int)) := fun p hp => rng_ne (h.rg p (by simp [hp]))
  refine ⟨?_, ?_, ?_, ?_⟩
  · intro p hp
    rw [hlen]
    rcases List.mem_cons.1 hp with rfl | hp
    · unfold rng; dsimp only; rw [if_neg (by omega)]; omega
    · rcases List.mem_cons.1 hp with rfl | hp
      · unfold rng; dsimp only; rw [if_neg (by omega)]; omega
      · exact rng_up (h.rg p (by simp [hp]))
  · intro p hp
    rw [hlen]
    rcases List.mem_cons.1 hp with rfl | hp
    · refine ⟨tw, hw1, ?_⟩
      rw [hLc, if_neg (by rcases hT with ⟨e1, e2⟩ | ⟨e1, e2⟩ <;> rw [e1, e2] <;> omega)]
      dsimp only
      rcases hT with ⟨e1, -⟩ | ⟨e1, -⟩ <;> rw [e1] <;> omega
    · rcases List.mem_cons.1 hp with rfl | hp
      · refine ⟨tl, hl1, ?_⟩
        rw [hLc, if_pos rfl]
        dsimp only
        rcases hT with ⟨-, e1⟩ | ⟨-, e1⟩ <;> rw [e1] <;> omega
      · obtain ⟨t, h1, h2⟩ := h.kn p (by simp [hp])
        refine ⟨t, by rw [hold _ (hQ p hp).1 (hQ p hp).2]; exact h1, ?_⟩
        have hm : t ∈ Q.map fun p => (tF wn T G G.length p.1).getD (-1) := List.mem_map.2 ⟨p, hp, by rw [h1]; rfl⟩
        have n1 : t ≠ tx := fun e => hnd.1 (by rw [← e]; exact List.mem_cons_of_mem _ hm)
        have n2 : t ≠ ty := fun e => hnd.2.1 (by rw [← e]; exact hm)
        rw [hLc, if_neg (by rcases hT with ⟨-, e1⟩ | ⟨-, e1⟩ <;> rw [e1] <;> assumption)]
        omega
  · rw [hlen]
    simp only [List.map_cons, atM, hw1, hl1, Option.getD_some]
    have e : (Q.map fun p => (tF wn T (G ++ [(x, y)]) (G.length + 1) p.1).getD (-1)) = Q.map fun p => (tF wn T G G.length p.1).getD (-1) :=
      List.map_congr_left (fun p hp => by rw [hold _ (hQ p hp).1 (hQ p hp).2])
    rw [e]
    rcases hT with ⟨rfl, rfl⟩ | ⟨rfl, rfl⟩
    · exact hpm
    · exact (List.Perm.swap ..).trans hpm
  · intro i hi
    rw [hlen] at hi
    rw [tF_app wn T G _ i (by omega)]
    rcases Nat.lt_or_ge i G.length with q | q
    · rw [List.getElem_append_left q]; exact h.gd i q
    · have : i = G.length := by omega
      subst this
      rw [List.getElem_append_right (Nat.le_refl _)]
      simp only [Nat.sub_self, List.getElem_cons_zero]
      exact ⟨tx, ty, hx, hy, hxy, hbx, hby⟩
/-- Places with a number. -/
def tg (l : List (Int × Int)) (k : Int) : List ((Int × Int) × Int) := l.map fun x => (x, k)
theorem tg_app (l m : List (Int × Int)) (k : Int) : tg (l ++ m) k = tg l k ++ tg m k := List.map_append ..
theorem evI_lv {wn : Nat → Int} (hw : ∀ i, wn i = 0 ∨ wn i = 1) {T : Nat} {k : Int} {u : List (Int × Int)} {s : EvS} {R : List ((Int × Int) × Int)} (h : LInv wn T s.1 (tg s.2.1 k ++ (tg s.2.2 (k + 1) ++ (R ++ tg u k)))) :
    ∀ i, 2 * i ≤ u.length → LInv wn T (evI u s i).1 (tg (evI u s i).2.1 k ++ (tg (evI u s i).2.2 (k + 1) ++ (R ++ tg (remL u i) k)))
  | 0, _ => by
    have : remL u 0 = u := by unfold remL; simp
    rw [this]; exact h
  | i + 1, hi => by
    have ih := evI_lv hw h i (by omega)
    have hst := remL_step (u := u) (i := i) (by omega)
    show LInv wn T ((evI u s i).1 ++ [(u.getD i (0, 0), u.getD (u.length - 1 - i) (0, 0))]) (tg ((evI u s i).2.1 ++ [(1, ((evI u s i).1.length : Int))]) k ++ (tg ((evI u s i).2.2 ++ [(2, ((evI u s i).1.length : Int))]) (k + 1) ++ (R ++ tg (remL u (i + 1)) k)))
    generalize evI u s i = q at *
    generalize u.getD i (0, 0) = x at *
    generalize u.getD (u.length - 1 - i) (0, 0) = y at *
    have h1 : LInv wn T q.1 ((x, k) :: (y, k) :: (tg q.2.1 k ++ (tg q.2.2 (k + 1) ++ (R ++ tg (remL u (i + 1)) k)))) := by
      refine ih.perm ?_
      rw [hst]
      rw [List.perm_iff_count]
      intro z
      simp only [tg, List.map_cons, List.map_append, List.map_nil, List.count_append, List.count_cons, List.count_nil]
      omega
    refine (h1.step hw).perm ?_
    rw [List.perm_iff_count]
    intro z
    simp only [tg, List.map_cons, List.map_append, List.map_nil, List.count_append, List.count_cons, List.count_nil]
    omega
theorem evR_lv {wn : Nat → Int} (hw : ∀ i, wn i = 0 ∨ wn i = 1) {T n : Nat} {k : Int} {s : EvS} {R : List ((Int × Int) × Int)} (h : LInv wn T s.1 (tg s.2.1 k ++ (tg s.2.2 (k + 1) ++ R))) : LInv wn T (evR n s).1 (tg (evR n s).2.1 k ++ (tg (evR n s).2.2 (k + 1) ++ R)) := by
  have hp : evP n s.2.1 = min (s.2.1.length / 2) (s.2.1.length - n) := rfl
  unfold evR
  generalize evP n s.2.1 = p at *
  have hul : (s.2.1.drop (s.2.1.length - 2 * p)).length = 2 * p := by rw [List.length_drop]; omega
  have h1 : LInv wn T (s.1, s.2.1.take (s.2.1.length - 2 * p), s.2.2).1 (tg (s.1, s.2.1.take (s.2.1.length - 2 * p), s.2.2).2.1 k ++ (tg (s.1, s.2.1.take (s.2.1.length - 2 * p), s.2.2).2.2 (k + 1) ++ (R ++ tg (s.2.1.drop (s.2.1.length - 2 * p)) k))) := by
    refine h.perm ?_
    have e : tg s.2.1 k = tg (s.2.1.take (s.2.1.length - 2 * p)) k ++ tg (s.2.1.drop (s.2.1.length - 2 * p)) k := by rw [← tg_app, List.take_append_drop]
    rw [e, List.perm_iff_count]
    intro z
    simp only [List.count_append]
    omega
  have h2 := evI_lv hw h1 p (by omega)
  have h3 : remL (s.2.1.drop (s.2.1.length - 2 * p)) p = [] := by unfold remL; rw [hul, Nat.sub_self, List.take_zero]
  rw [h3, show tg [] k = [] from rfl, List.append_nil] at h2
  exact h2
theorem evW_lv {wn : Nat → Int} (hw : ∀ i, wn i = 0 ∨ wn i = 1) {T n : Nat} {k : Int} {R : List ((Int × Int) × Int)} : ∀ (f : Nat) (s : EvS), LInv wn T s.1 (tg s.2.1 k ++ (tg s.2.2 (k + 1) ++ R)) → LInv wn T (evW n f s).1 (tg (evW n f s).2.1 k ++ (tg (evW n f s).2.2 (k + 1) ++ R))
  | 0, _, h => h
  | f + 1, s, h => by
    unfold evW
    split
    · exact evW_lv hw f _ (evR_lv hw h)
    · exact h
theorem evR_n {n : Nat} {s : EvS} (h : n < s.2.1.length) (hn : 1 ≤ n) : n ≤ (evR n s).2.1.length ∧ (evR n s).2.1.length < s.2.1.length := by
  have hp : evP n s.2.1 = min (s.2.1.length / 2) (s.2.1.length - n) := rfl
  unfold evR
  generalize evP n s.2.1 = p at *
  obtain ⟨-, h2, -⟩ := evI_len (s.2.1.drop (s.2.1.length - 2 * p)) (s.1, s.2.1.take (s.2.1.length - 2 * p), s.2.2) p
  dsimp only at h2
  rw [List.length_take] at h2
  omega
theorem evW_fin {n : Nat} (hn : 1 ≤ n) : ∀ (f : Nat) (s : EvS), s.2.1.length ≤ f → (evW n f s).2.1.length = min s.2.1.length n
  | 0, s, h => by show s.2.1.length = _; omega
  | f + 1, s, h => by
    unfold evW
    split
    · rename_i hl
      have := evR_n hl hn
      rw [evW_fin hn f _ (by omega)]
      omega
    · omega
/-- How often the teams have lost, place by place. -/
def lvE : List Int → Nat → Int → List Int
  | [], left, k => List.replicate left k
  | q :: qs, left, k => List.replicate (min left q.toNat) k ++ lvE qs (left - min left q.toNat) (k + 1)
theorem koF_lv {wn : Nat → Int} (hw : ∀ i, wn i = 0 ∨ wn i = 1) {T : Nat} : ∀ (tk : List Int) (k : Int) (s s' : KoS) (Rt : List ((Int × Int) × Int)), (∀ n ∈ tk, 1 ≤ n) → LInv wn T s.1 (tg s.2.1 k ++ Rt) → Rt.map (·.1) = s.2.2 → koF tk s = some s' →
    ∃ Rt', LInv wn T s'.1 (tg s'.2.1 (k + tk.length) ++ Rt') ∧ Rt'.map (·.1) = s'.2.2 ∧ Rt'.map (·.2) ++ List.replicate s'.2.1.length (k + tk.length) = Rt.map (·.2) ++ lvE tk s.2.1.length k
  | [], k, s, s', Rt, _, h, hr, e => by
    injection e with e
    subst e
    refine ⟨Rt, ?_, hr, ?_⟩
    · rw [show k + (([] : List Int).length : Nat) = k by simp]; exact h
    · rw [show k + (([] : List Int).length : Nat) = k by simp]; rfl
  | n :: ns, k, s, s', Rt, hn, h, hr, e => by
    have hn1 := hn n (by simp)
    unfold koF at e
    split at e
    · cases e
    · have h1 := evW_lv hw (n := n.toNat) (k := k) (R := Rt) s.2.1.length (s.1, s.2.1, []) (h.perm (by rw [List.perm_iff_count]; intro z; simp only [tg, List.map_nil, List.count_append, List.count_nil]; omega))
      have h2 := evW_len n.toNat s.2.1.length (s.1, s.2.1, [])
      have h3 := evW_fin (n := n.toNat) (by omega) s.2.1.length (s.1, s.2.1, []) (Nat.le_refl _)
      dsimp only at h2 h3
      simp only [List.length_nil, Nat.zero_add] at h2
      generalize evW n.toNat s.2.1.length (s.1, s.2.1, []) = W at *
      obtain ⟨Rt', q1, q2, q3⟩ := koF_lv hw ns (k + 1) (W.1, W.2.2, s.2.2 ++ W.2.1) s' (Rt ++ tg W.2.1 k) (fun m hm => hn m (by simp [hm])) (h1.perm (by rw [List.perm_iff_count]; intro z; simp only [List.count_append]; omega)) (by
        rw [List.map_append, hr]; congr 1; unfold tg; rw [List.map_map]; exact List.map_id _) e
      refine ⟨Rt', ?_, q2, ?_⟩
      · rw [show k + ((n :: ns).length : Nat) = k + 1 + (ns.length : Nat) by simp; omega]; exact q1
      · rw [show k + ((n :: ns).length : Nat) = k + 1 + (ns.length : Nat) by simp; omega, q3, List.map_append, List.append_assoc]
        congr 1
        show _ = List.replicate (min s.2.1.length n.toNat) k ++ lvE ns (s.2.1.length - min s.2.1.length n.toNat) (k + 1)
        have e1 : (tg W.2.1 k).map (·.2) = List.replicate (min s.2.1.length n.toNat) k := by
          unfold tg; rw [List.map_map, ← h3]
          exact List.map_const' ..
        have e2 : W.2.2.length = s.2.1.length - min s.2.1.length n.toNat := by omega
        rw [e1]
        dsimp only
        rw [e2]
/-- The law of a knock-out's lives. -/
structure LvOk (wn : Nat → Int) (T : Nat) (tk : List Int) (G : List Gm) (R : List (Int × Int)) : Prop where
  gd : ∀ i (h : i < G.length), ∃ a b, tF wn T G i (G[i]'h).1 = some a ∧ tF wn T G i (G[i]'h).2 = some b ∧ a ≠ b ∧ (0 ≤ a ∧ a < T) ∧ (0 ≤ b ∧ b < T)
  len : R.length = T ∧ (lvE tk T 0).length = T
  pl : ∀ i (h : i < R.length) (h' : i < (lvE tk T 0).length), ∃ t, tF wn T G G.length (R[i]'h) = some t ∧ lcF wn T G G.length t = (lvE tk T 0)[i]'h' ∧ (0 ≤ t ∧ t < T)
theorem seedL_kn (T : Nat) : ∀ t : Nat, t < T → sedM T (0, (t : Nat)) = some ((t : Nat) : Int) := by
  induction T with
  | zero => intro t h; omega
  | succ T ih =>
    intro t h
    show upd (sedM T) (0, ((T : Nat) : Int)) ((T : Nat) : Int) (0, ((t : Nat) : Int)) = _
    unfold upd
    by_cases e : t = T
    · subst e; rw [if_pos rfl]
    · rw [if_neg (by rw [Prod.mk.injEq]; omega)]; exact ih t (by omega)
theorem lv_ok {wn : Nat → Int} (hw : ∀ i, wn i = 0 ∨ wn i = 1) {T : Nat} {tk : List Int} (h : (koR (T : Nat) tk).1 = 0) : LvOk wn T tk (koR (T : Nat) tk).2.2.1 (koR (T : Nat) tk).2.2.2 := by
  have hb := ko_ok h
  unfold koR at h hb ⊢
  split at h
  · cases h
  · rename_i hn
    rw [if_neg hn] at hb ⊢
    have hq : ∀ n ∈ tk, 1 ≤ n := fun n hm => by
      have h1 : ¬ tk.any (koBad (T : Nat)) = true := fun h => hn (.inr (.inr h))
      rw [Bool.not_eq_true] at h1
      have := List.any_eq_false.1 h1 n hm
      simp [koBad] at this
      omega
    cases hk : koF tk ([], seedL (T : Int).toNat, []) with
    | none => rw [hk] at h; cases h
    | some s =>
      rw [hk] at h hb
      dsimp only at h hb ⊢
      split at h
      · rename_i hg
        rw [if_pos hg] at hb ⊢
        dsimp only at hb ⊢
        have hTT : (T : Int).toNat = T := rfl
        rw [hTT] at hk
        have h0 : LInv wn T [] (tg (seedL T) 0 ++ []) := by
          rw [List.append_nil]
          refine ⟨fun p hp => ?_, fun p hp => ?_, ?_, fun i hi => absurd hi (Nat.not_lt_zero _)⟩
          · obtain ⟨x, hx, rfl⟩ := List.mem_map.1 hp
            obtain ⟨t, ht, rfl⟩ := List.mem_map.1 hx
            have := List.mem_range.1 ht
            unfold rng; dsimp only; rw [if_pos rfl]; omega
          · obtain ⟨x, hx, rfl⟩ := List.mem_map.1 hp
            obtain ⟨t, ht, rfl⟩ := List.mem_map.1 hx
            exact ⟨((t : Nat) : Int), seedL_kn T t (List.mem_range.1 ht), rfl⟩
          · have e : ((tg (seedL T) 0).map fun p => atM (tF wn T [] 0) p.1) = allT T := by
              unfold tg seedL allT
              rw [List.map_map, List.map_map]
              refine List.map_congr_left (fun t ht => ?_)
              show atM (sedM T) (0, ((t : Nat) : Int)) = _
              unfold atM
              rw [seedL_kn T t (List.mem_range.1 ht)]; rfl
            exact e ▸ List.Perm.refl _
        obtain ⟨Rt, q1, q2, q3⟩ := koF_lv hw tk 0 _ s [] hq h0 rfl hk
        dsimp only at q3
        rw [seedL_len, List.map_nil, List.nil_append] at q3
        have hl1 : (lvE tk T 0).length = T := by
          rw [← q3, List.length_append, List.length_replicate, List.length_map]
          have := hb.r
          rw [List.length_append, List.length_reverse, ← q2, List.length_map] at this
          omega
        have hlen := hb.r
        refine ⟨q1.gd, ⟨by omega, hl1⟩, fun i hi hi' => ?_⟩
        -- the places, with their numbers
        have hZ : (Rt ++ tg s.2.1.reverse (0 + tk.length)).map (·.1) = s.2.2 ++ s.2.1.reverse := by
          rw [List.map_append, q2]; congr 1; unfold tg; rw [List.map_map]; exact List.map_id _
        have hE : (Rt ++ tg s.2.1.reverse (0 + tk.length)).map (·.2) = lvE tk T 0 := by
          rw [List.map_append, ← q3]; congr 1
          unfold tg; rw [List.map_map]
          have : s.2.1.length = s.2.1.reverse.length := List.length_reverse.symm
          rw [this]
          exact List.map_const' ..
        have hl : (Rt ++ tg s.2.1.reverse (0 + tk.length)).length = (s.2.2 ++ s.2.1.reverse).length := by rw [← hZ, List.length_map]
        have hi2 : i < (Rt ++ tg s.2.1.reverse (0 + tk.length)).length := by omega
        have e1 : (s.2.2 ++ s.2.1.reverse)[i]'hi = ((Rt ++ tg s.2.1.reverse (0 + tk.length))[i]'hi2).1 := by
          have : ((Rt ++ tg s.2.1.reverse (0 + tk.length)).map (·.1))[i]'(by rw [List.length_map]; exact hi2) = ((Rt ++ tg s.2.1.reverse (0 + tk.length))[i]'hi2).1 := List.getElem_map ..
          rw [← this]; simp only [hZ]
        have e2 : (lvE tk T 0)[i]'hi' = ((Rt ++ tg s.2.1.reverse (0 + tk.length))[i]'hi2).2 := by
          have : ((Rt ++ tg s.2.1.reverse (0 + tk.length)).map (·.2))[i]'(by rw [List.length_map]; exact hi2) = ((Rt ++ tg s.2.1.reverse (0 + tk.length))[i]'hi2).2 := List.getElem_map ..
          rw [← this]; simp only [hE]
        have q4 : LInv wn T s.1 (Rt ++ tg s.2.1.reverse (0 + tk.length)) := q1.perm (by
          rw [List.perm_iff_count]; intro z
          unfold tg
          rw [List.map_reverse]
          simp only [List.count_append, List.count_reverse]
          omega)
        have hm := List.getElem_mem hi2
        obtain ⟨t, t1, t2⟩ := q4.kn _ hm
        refine ⟨t, by rw [e1]; exact t1, by rw [e2]; exact t2, ?_⟩
        have := q4.pm.mem_iff.1 (List.mem_map.2 ⟨_, hm, rfl⟩)
        unfold atM at this
        rw [t1] at this
        exact allT_in this
      · cases h
end Go.Proofs.Ytlfbbofcnonhdaa
