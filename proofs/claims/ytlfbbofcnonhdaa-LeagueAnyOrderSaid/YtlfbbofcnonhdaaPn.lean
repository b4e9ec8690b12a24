/- LeagueLives: plain part of the walk; won. -/
import Derived.Test.YtlfbbofcnonhdaaPm
import Derived.Test.YtlfbbofcnonhdaaEb
namespace Go.Proofs.Ytlfbbofcnonhdaa
open Go Go.RowKit Go.Proofs

theorem ko_nil {T : Int} {tk : List Int} (h : (koR T tk).1 ≠ 0) : (koR T tk).2.2.1 = [] := by
  unfold koR at h ⊢
  split at h
  · rename_i hn; rw [if_pos hn]
  · rename_i hn
    rw [if_neg hn]
    cases hk : koF tk ([], seedL T.toNat, []) with
    | none => rfl
    | some s =>
      rw [hk] at h
      dsimp only at h ⊢
      split at h
      · exact absurd rfl h
      · rename_i hg; rw [if_neg hg]
theorem ko_T {T : Int} {tk : List Int} (h : (koR T tk).1 = 0) : (koR T tk).2.1 = T ∧ ∀ n ∈ tk, 1 ≤ n ∧ n ≤ T := by
  unfold koR at h ⊢
  split at h
  · cases h
  · rename_i hn
    rw [if_neg hn]
    have hq : ∀ n ∈ tk, 1 ≤ n ∧ n ≤ T := fun n hm => by
      have h1 : ¬ tk.any (koBad T) = true := fun h => hn (.inr (.inr h))
      rw [Bool.not_eq_true] at h1
      have := List.any_eq_false.1 h1 n hm
      simpa [koBad] using this
    refine ⟨?_, hq⟩
    cases hk : koF tk ([], seedL T.toNat, []) with
    | none => rw [hk] at h; cases h
    | some s =>
      rw [hk] at h
      dsimp only at h ⊢
      split at h
      · rename_i hg; rw [if_pos hg]
      · cases h
/-- Who wins a game. -/
def wonN (ws : List Bool) (i : Nat) : Int := if ws.getD (i % ws.length) false then 1 else 0
theorem wonN_v (ws : List Bool) (i : Nat) : wonN ws i = 0 ∨ wonN ws i = 1 := by unfold wonN; split <;> simp
/-- The results of the first games. -/
def rmF (wn : Nat → Int) : Nat → Int → Option Int
  | 0 => fun _ => none
  | k + 1 => upd (rmF wn k) ((k : Nat) : Int) (wn k)
theorem rmF_get (wn : Nat → Int) : ∀ (k : Nat) (j : Int), rmF wn k j = if 0 ≤ j ∧ j < k then some (wn j.toNat) else none
  | 0, j => by rw [if_neg (by omega)]; rfl
  | k + 1, j => by
    show upd (rmF wn k) ((k : Nat) : Int) (wn k) j = _
    unfold upd
    by_cases e : j = ((k : Nat) : Int)
    · subst e; rw [if_pos rfl, if_pos (by omega)]; rfl
    · rw [if_neg e, rmF_get wn k j]
      by_cases q : 0 ≤ j ∧ j < (k : Int)
      · rw [if_pos q, if_pos (by omega)]
      · rw [if_neg q, if_neg (by omega)]
theorem rmF_v {wn : Nat → Int} (hw : ∀ i, wn i = 0 ∨ wn i = 1) (k : Nat) : ∀ i r, rmF wn k i = some r → r = 0 ∨ r = 1 := by
  intro i r h
  rw [rmF_get] at h
  split at h
  · injection h with h; subst h; exact hw _
  · cases h
theorem tm_cut (wn : Nat → Int) (T : Nat) (G : List Gm) (i : Nat) : ∀ j, tmM (rmF wn i) T G j = tF wn T G (min j i)
  | 0 => by rw [Nat.zero_min]; rfl
  | j + 1 => by
    show gameM (rmF wn i) (tmM (rmF wn i) T G j) (j : Nat) (G.getD j ((0, 0), (0, 0))) = _
    rw [tm_cut wn T G i j]
    rcases Nat.lt_or_ge j i with h | h
    · rw [Nat.min_eq_left (by omega), Nat.min_eq_left (by omega)]
      show _ = gameM (mW wn) (tF wn T G j) (j : Nat) (G.getD j ((0, 0), (0, 0)))
      unfold gameM
      rw [rmF_get, if_pos (by omega)]
      rfl
    · rw [Nat.min_eq_right (by omega), Nat.min_eq_right (by omega)]
      unfold gameM
      rw [rmF_get, if_neg (by omega)]
theorem rep_ok {wn : Nat → Int} (hw : ∀ i, wn i = 0 ∨ wn i = 1) {G : List Gm} {i : Nat} (h : i < G.length) : repE G (rmF wn i) (i : Nat) (wn i) = 0 ∧ repM G (rmF wn i) (i : Nat) (wn i) = rmF wn (i + 1) := by
  have h0 : repE G (rmF wn i) (i : Nat) (wn i) = 0 := by
    have hm : rmF wn i ((i : Nat) : Int) = none := by rw [rmF_get, if_neg (by omega)]
    have h1 := hw i
    unfold repE
    rw [if_neg (fun h' => h' (by omega)), if_neg (fun h' => h' (by omega)), hm]
    rfl
  refine ⟨h0, ?_⟩
  unfold repM
  rw [if_pos h0]; rfl
/-- How often teams have lost, as a map. -/
def lsF (wn : Nat → Int) (T : Nat) (G : List Gm) (k : Nat) : Int := atM (tF wn T G k) (sideG (G.getD k ((0, 0), (0, 0))) (1 - wn k))
def lmF (wn : Nat → Int) (T : Nat) (G : List Gm) : Nat → Int → Option Int
  | 0 => fun _ => none
  | k + 1 => upd (lmF wn T G k) (lsF wn T G k) ((lmF wn T G k (lsF wn T G k)).getD 0 + 1)
theorem lmF_get (wn : Nat → Int) (T : Nat) (G : List Gm) : ∀ k t, (lmF wn T G k t).getD 0 = lcF wn T G k t ∧ (0 ≤ lcF wn T G k t ∧ lcF wn T G k t ≤ k)
  | 0, t => ⟨rfl, by show (0 : Int) ≤ 0 ∧ (0 : Int) ≤ _; omega⟩
  | k + 1, t => by
    have ih := lmF_get wn T G k
    have e : lcF wn T G (k + 1) t = lcF wn T G k t + if t = lsF wn T G k then 1 else 0 := rfl
    rw [e]
    show (upd (lmF wn T G k) (lsF wn T G k) ((lmF wn T G k (lsF wn T G k)).getD 0 + 1) t).getD 0 = _ ∧ _
    unfold upd
    have h1 := (ih t).2
    by_cases q : t = lsF wn T G k
    · rw [if_pos q, if_pos q, (ih (lsF wn T G k)).1, ← q]
      exact ⟨rfl, by omega⟩
    · rw [if_neg q, if_neg q, (ih t).1]
      omega
theorem lvE_get {tk : List Int} {k left at' : Nat} {E : List Int} {n : Int} (hk : k < tk.length) (hn : tk[k]'hk = n) (h : lvE (tk.drop k) left (k : Nat) = E.drop at') :
    lvE (tk.drop (k + 1)) (left - min left n.toNat) ((k + 1 : Nat) : Int) = E.drop (at' + min left n.toNat) ∧ ∀ i, i < min left n.toNat → E[at' + i]? = some ((k : Nat) : Int) := by
  rw [List.drop_eq_getElem_cons hk, hn] at h
  have h' : List.replicate (min left n.toNat) ((k : Nat) : Int) ++ lvE (tk.drop (k + 1)) (left - min left n.toNat) ((k : Int) + 1) = E.drop at' := h
  constructor
  · have e : E.drop (at' + min left n.toNat) = (E.drop at').drop (min left n.toNat) := by rw [List.drop_drop]
    rw [e, ← h', List.drop_left' (List.length_replicate ..)]; rfl
  · intro i hi
    rw [← List.getElem?_drop, ← h', List.getElem?_append_left (by rw [List.length_replicate]; exact hi), List.getElem?_replicate, if_pos hi]
set_option maxRecDepth 100000 in
set_option maxHeartbeats 4000000 in
theorem won37 (ws : List Bool) (i : Nat) (w : World) (A : Option Addr) (c : Nat) (hA : ws ≠ [] → ∃ b o, A = some ⟨b, o, none⟩ ∧ HoldL 1 eB w b o ws) (hi : i ≤ 1000000) : Calls Try.prog 37 #[.slice A ws.length c, .int .i64 (i : Nat)] w (Back (.int .i64 (wonN ws i)) w) := by
 refine J_enter (fun _ => False) (vs := [.slice A ws.length c, .int .i64 (i : Nat)]) (k := 15) (l := [(0, .slice A ws.length c), (1, .int .i64 (i : Nat))]) Try.func37 rfl rfl Try.ntmps37 rfl rfl (Wd.start _) ?_
 refine J_seq ?_
 refine J_reg ?_
 refine JN rfl rfl rfl rfl rfl ?_
 refine JL_nil ?_
 refine JQ_then_n ?_
 refine J_seq ?_
 refine J_seq ?_
 refine J_reg ?_
 refine JM rfl rfl rfl rfl rfl ?_
 refine JP (rp1 rfl (fun ρ hx w => ex_len (A := _) (c := _) rfl Try.underlying62 hx)) ?_
 refine JP (rp2 rfl rfl (fun ρ hx hy w => ex_gtrD rfl hx hy)) ?_
 refine JL_dec (fun h7 => ?_) (fun h7 => ?_)
 ·obtain ⟨b, p, rfl, hh⟩ := hA (by intro e; subst e; simp at h7)
  have hmd : i % ws.length < ws.length := Nat.mod_lt _ (by omega)
  obtain ⟨v, hv⟩ : ∃ v, ws[i % ws.length]'hmd = v := ⟨_, rfl⟩
  have hvd : ws.getD (i % ws.length) false = v := by rw [List.getD_eq_getElem?_getD, List.getElem?_eq_getElem hmd]; exact hv
  refine JM rfl rfl rfl rfl rfl ?_
  refine JPg (rp_move rfl rfl) ?_
  refine JPg (rp_move rfl rfl) ?_
  refine JPg (rp_move rfl rfl) ?_
  refine JPg (rp1 rfl (fun ρ hx w => ex_len (A := _) (c := _) rfl Try.underlying62 hx)) ?_
  refine JPg (rp2 rfl rfl (fun ρ hx hy w => ex_rem rfl hx hy (by omega) (by omega))) ?_
  refine JPg (rp2 rfl rfl (fun ρ hx hy w => ex_indexI (k := (i % ws.length)) rfl hx hy rfl Try.underlying62 sz_4 (by omega))) ?_
  refine JVg (rv_hold (v := .bool v) rfl rfl ag_4 (fun h => h) hh hmd (by omega) (by rw [hv]; rfl)) ?_
  refine JL_bool (fun h15 => ?_) (fun h15 => ?_)
  ·refine JP (rp_pickT rfl rfl rfl) ?_
   refine JL_nil ?_
   refine JQ_then_n ?_
   refine J_yes rfl rfl ?_
   refine J_seq ?_
   refine J_keep (l' := []) trivial ?_
   refine J_reg ?_
   refine JN rfl rfl rfl rfl rfl ?_
   refine JL_nil ?_
   refine JQ_then_n ?_
   refine J_ret ?_
   refine JQ_then_r ?_
   refine JR_one rfl (rr_tmp rfl) ?_
   intro w' hw
   have e : wonN ws i = 1 := by unfold wonN; rw [hvd, h15]; rfl
   rw [e]
   exact ⟨rfl, hw.bel⟩
  ·refine JP (rp_pickT rfl rfl rfl) ?_
   refine JL_nil ?_
   refine JQ_then_n ?_
   refine J_no rfl rfl ?_
   refine J_skip ?_
   refine JQ_then_n ?_
   refine J_seq ?_
   refine J_keep (l' := []) trivial ?_
   refine J_reg ?_
   refine JN rfl rfl rfl rfl rfl ?_
   refine JL_nil ?_
   refine JQ_then_n ?_
   refine J_ret ?_
   refine JR_one rfl (rr_tmp rfl) ?_
   intro w' hw
   have e : wonN ws i = 0 := by unfold wonN; rw [hvd, h15]; rfl
   rw [e]
   exact ⟨rfl, hw.bel⟩
 ·refine JM rfl rfl rfl rfl rfl ?_
  refine JF ?_
  refine JF ?_
  refine JF ?_
  refine JF ?_
  refine JF ?_
  refine JF ?_
  refine JF ?_
  refine JP (rp_pickF rfl rfl rfl) ?_
  refine JL_nil ?_
  refine JQ_then_n ?_
  refine J_no rfl rfl ?_
  refine J_skip ?_
  refine JQ_then_n ?_
  refine J_seq ?_
  refine J_keep (l' := []) trivial ?_
  refine J_reg ?_
  refine JN rfl rfl rfl rfl rfl ?_
  refine JL_nil ?_
  refine JQ_then_n ?_
  refine J_ret ?_
  refine JR_one rfl (rr_tmp rfl) ?_
  intro w' hw
  have e : wonN ws i = 0 := by unfold wonN; rw [show ws.getD (i % ws.length) false = false by rw [List.length_eq_zero_iff.1 (show ws.length = 0 by omega)]; rfl]; rfl
  rw [e]
  exact ⟨rfl, hw.bel⟩
end Go.Proofs.Ytlfbbofcnonhdaa
