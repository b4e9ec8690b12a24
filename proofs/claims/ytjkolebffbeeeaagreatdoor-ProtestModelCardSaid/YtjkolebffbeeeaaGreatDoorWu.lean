/- The document: Rising. -/
import Derived.Test.YtjkolebffbeeeaaGreatDoorWt
import Derived.Test.YtjkolebffbeeeaaGreatDoorG11
namespace Go.Proofs.YtjkolebffbeeeaaGreatDoor
open Go Go.RowKit Go.Proofs
attribute [local irreducible] J JQ JL JA JD

def atR (x : ByteArray) (L : List ByteArray) : Nat := (L.takeWhile (fun y => ltS y x)).length
def insR (x : ByteArray) (L : List ByteArray) : List ByteArray := if L[atR x L]? = some x then L else ((([] : List ByteArray) ++ L.take (atR x L)) ++ [x]) ++ L.drop (atR x L)
def risF (l : List ByteArray) : List ByteArray := l.foldl (fun L x => insR x L) []
theorem risF_s {l : List ByteArray} {k : Nat} {y : ByteArray} (h : k < l.length) (hy : l[k]'h = y) : risF (l.take (k + 1)) = insR y (risF (l.take k)) := by
 unfold risF; rw [List.take_succ_eq_append_getElem h, List.foldl_append, hy]; rfl
theorem atR_s {x y : ByteArray} {L : List ByteArray} {j : Nat} (h : j < L.length) (hy : L[j]'h = y) : atR x (L.drop j) = if ltS y x = true then atR x (L.drop (j + 1)) + 1 else 0 := by
 unfold atR; rw [List.drop_eq_getElem_cons h, hy, List.takeWhile_cons]
 split <;> simp
theorem insR_len (x : ByteArray) (L : List ByteArray) : (insR x L).length ≤ L.length + 1 := by
 unfold insR; split
 ·omega
 ·simp; omega
theorem risF_len (l : List ByteArray) : ∀ k, k ≤ l.length → (risF (l.take k)).length ≤ k
 | 0, _ => by rw [List.take_zero]; exact Nat.le_refl _
 | k + 1, h => by
  rw [risF_s (show k < l.length by omega) rfl]
  exact Nat.le_trans (insR_len _ _) (Nat.succ_le_succ (risF_len l k (by omega)))
theorem atR_le (x : ByteArray) (L : List ByteArray) : atR x L ≤ L.length := by
 unfold atR; exact (List.takeWhile_sublist _).length_le
set_option maxRecDepth 100000 in
set_option maxHeartbeats 4000000 in
theorem Rising18 (l : List ByteArray) (lA : Option Addr) (lc : Nat) (w : World) (hl : Arr 1 eS w (.slice lA l.length lc) l) (hn : l.length ≤ 1000) : Calls Tryz.prog 18 #[.slice lA l.length lc] w (RetS 9 1 eS (risF l) w) := by
 obtain ⟨hlb, hlA⟩ := arr_parts hl
 refine J_enter (fun _ => False) (vs := [.slice lA l.length lc]) (k := 62) (l := [(0, .slice lA l.length lc)]) Tryz.func18 rfl rfl Tryz.ntmps18 rfl rfl (Wd.start _) ?_
 refine s12 ?_
 refine J_own0 9 1 ?_
 refine s5 ?_
 refine xL (T := Nat × Option Addr × Nat) (fun q => q.1 ≤ l.length) (fun q => [(0, .slice lA l.length lc), (3, .slice q.2.1 (risF (l.take q.1)).length q.2.2), (4, .int .i64 (q.1 : Nat))]) (fun q => [ownB 9 1 q.2.1 (risF (l.take q.1)).length q.2.2 ((risF (l.take q.1)).flatMap eS)]) (fun q => l.length - q.1) (0, none, 0) (Nat.zero_le _) ?_
 rintro ⟨k, vA, vc⟩ hk
 dsimp only at hk ⊢
 have hrl := risF_len l k hk
 refine s7 ?_
 refine JL_dec (fun h10 => ?_) (fun h10 => ?_)
 ·refine s8 ?_
  have hlty : k < l.length := by omega
  obtain ⟨bqy, pqy, rfl, hhl⟩ := hlA (by intro e; subst e; simp at hlty)
  obtain ⟨y, hy⟩ : ∃ y, l[k]'hlty = y := ⟨_, rfl⟩
  have hmy : y ∈ l := by rw [← hy]; exact List.getElem_mem _
  refine kJ [(0, _), (3, _), (4, _)] ?_
  refine s4 ?_
  refine xC (T := Unit) (fun _u => True) (fun _u => [(0, .slice (some ⟨bqy, pqy, none⟩) l.length lc), (3, .slice vA (risF (l.take k)).length vc), (4, .int .i64 (k : Nat)), (5, .int .i64 (atR y (risF (l.take k)) : Nat))]) (fun _u => [ownB 9 1 vA (risF (l.take k)).length vc ((risF (l.take k)).flatMap eS)]) ?_ ?_
  ·refine s1 ?_
   refine xL (T := Nat) (fun j => j ≤ (risF (l.take k)).length ∧ atR y (risF (l.take k)) = j + atR y ((risF (l.take k)).drop j)) (fun j => [(0, .slice (some ⟨bqy, pqy, none⟩) l.length lc), (3, .slice vA (risF (l.take k)).length vc), (4, .int .i64 (k : Nat)), (5, .int .i64 (j : Nat))]) (fun j => [ownB 9 1 vA (risF (l.take k)).length vc ((risF (l.take k)).flatMap eS)]) (fun j => (risF (l.take k)).length - j) 0 ⟨Nat.zero_le _, by rw [List.drop_zero, Nat.zero_add]⟩ ?_
   rintro j ⟨hj, hat⟩
   refine s2 ?_
   rcases Nat.lt_or_ge j (risF (l.take k)).length with hjl | hjl
   ·obtain ⟨z, hz⟩ : ∃ z, (risF (l.take k))[j]'hjl = z := ⟨_, rfl⟩
    have hst := atR_s (x := y) hjl hz
    refine J_fact (fun hw => ?_)
    obtain ⟨ob, rfl⟩ := own_some hw (ty := 9) (k := 1) (m := (risF (l.take k)).length) (c := vc) (xs := (risF (l.take k)).flatMap eS) (by repeat constructor) (by omega)
    clear hw
    refine xD [0, 1, 2, 3, 4, 5, 6, 7, 8, 9, 10, 11, 12, 13] [8, 12] ?_
    refine s4 ?_
    refine dDecT ?_
    refine s4 ?_
    refine dL rfl (vOwn ES rfl rfl (by repeat constructor) hjl (by omega) (by rw [hz]; rfl)) ?_
    refine s3 ?_
    refine dL rfl (vHold rfl rfl (fun h => h) hhl hlty (by omega) (by rw [hy]; rfl)) ?_
    refine s1 ?_
    refine dBool (fun h26 => ?_) (fun h26 => ?_)
    ·refine dO [14] ?_
     refine s7 ?_
     refine kJ [(0, _), (3, _), (4, _), (5, _)] ?_
     refine s6 ?_
     rw [if_pos h26] at hst
     exact xR (j + 1) ⟨by omega, by omega⟩ (by omega) (hl := ⟨rfl, rfl, rfl, (congrArg some (by go_num)), trivial⟩)
    ·refine dO [14] ?_
     refine s8 ?_
     rw [if_neg (by rw [h26]; decide)] at hst
     exact xE () trivial (by rw [hat, hst]; exact cov)
   ·refine xD [0, 1, 2, 3, 4, 5, 6, 7, 8, 9, 10, 11, 12, 13, 14] [8, 12] ?_
    refine s4 ?_
    refine dDecF ?_
    refine s18 ?_
    have hd0 : atR y ((risF (l.take k)).drop j) = 0 := by rw [List.drop_eq_nil_of_le (by omega)]; rfl
    exact xE () trivial (by rw [hat, hd0]; exact cov)
  ·rintro - -
   refine s1 ?_
   have hml := atR_le y (risF (l.take k))
   rcases Nat.lt_or_ge (atR y (risF (l.take k))) (risF (l.take k)).length with hmlt | hmge
   ·obtain ⟨z, hz⟩ : ∃ z, (risF (l.take k))[atR y (risF (l.take k))]'hmlt = z := ⟨_, rfl⟩
    refine J_fact (fun hw => ?_)
    obtain ⟨ob, rfl⟩ := own_some hw (ty := 9) (k := 1) (m := (risF (l.take k)).length) (c := vc) (xs := (risF (l.take k)).flatMap eS) (by repeat constructor) (by omega)
    clear hw
    refine xD [0, 1, 2, 3, 4, 5, 6, 7, 8, 9, 10, 11, 12, 13] [8, 12] ?_
    refine s4 ?_
    refine dDecF ?_
    refine s4 ?_
    refine dL rfl (vOwn ES rfl rfl (by repeat constructor) hmlt (by omega) (by rw [hz]; rfl)) ?_
    refine s3 ?_
    refine dL rfl (vHold rfl rfl (fun h => h) hhl hlty (by omega) (by rw [hy]; rfl)) ?_
    refine s1 ?_
    refine dDec (fun h43 => ?_) (fun h43 => ?_)
    ·refine dO [14] ?_
     refine s5 ?_
     refine J_fact (fun hw => ?_)
     obtain ⟨hc1, hc2⟩ := (own_cn hw (ty := 9) (k := 1) (m := (risF (l.take k)).length) (c := vc) (xs := (risF (l.take k)).flatMap eS) (by repeat constructor)).1
     clear hw
     refine kJ [(0, _), (3, _), (4, _), (5, _)] ?_
     refine s1 ?_
     refine aW (ow_slice0 (k := 1) (ty := 9) rfl rfl rfl (fun _ => by kernel_rfl)) (fun b45 hb45 => ?_)
     refine s2 ?_
     refine aP (rp_sliceTo (k := atR y (risF (l.take k))) rfl rfl rfl Und.h Siz.h rfl (by omega)) ?_
     refine aS (oAppX (sl := 23) ES ([] : List ByteArray) ((risF (l.take k)).take (atR y (risF (l.take k)))) (fun w hw => (own_arr ES hw (by repeat constructor) (by omega)).takeC hml) (by rw [List.length_take]; omega) (Nat.le_refl _) (hl := by rw [List.length_take, List.length_nil]; omega)) (fun A49 c49 => ?_)
     refine s4 ?_
     have hlt1 : (([] : List ByteArray) ++ (risF (l.take k)).take (atR y (risF (l.take k)))).length ≤ k := by rw [List.nil_append, List.length_take]; omega
     refine kJ [(0, _), (3, _), (4, _), (5, _), (6, _)] ?_
     refine s5 ?_
     refine aV (vHold rfl rfl (fun h => h) hhl hlty (by omega) (by rw [hy]; rfl)) ?_
     refine aW (ow_sliceC (vs := [_]) (ty := 9) rfl rfl (by rfl) rfl rfl (fun _ => by kernel_rfl)) (fun b55 hb55 => ?_)
     refine aS (oApp (sl := 23) ES (y)) (fun A56 c56 => ?_)
     refine s3 ?_
     have hlt2 : ((([] : List ByteArray) ++ (risF (l.take k)).take (atR y (risF (l.take k)))) ++ [y]).length ≤ k + 1 := by rw [List.length_append, List.length_singleton]; omega
     refine J_fact (fun hw => ?_)
     have hc3 := (own_cn hw (ty := 9) (k := 1) (m := ((([] : List ByteArray) ++ (risF (l.take k)).take (atR y (risF (l.take k)))) ++ [y]).length) (c := c56) (A := A56) (xs := ((([] : List ByteArray) ++ (risF (l.take k)).take (atR y (risF (l.take k)))) ++ [y]).flatMap eS) (by repeat constructor)).1.1
     clear hw
     refine kJ [(0, _), (3, _), (4, _), (5, _), (6, _)] ?_
     refine s4 ?_
     refine aP (rp_sliceFrom (k := atR y (risF (l.take k))) rfl rfl rfl Und.h Siz.h rfl (by omega)) ?_
     refine aS (oAppX (sl := 23) ES ((([] : List ByteArray) ++ (risF (l.take k)).take (atR y (risF (l.take k)))) ++ [y]) ((risF (l.take k)).drop (atR y (risF (l.take k)))) (fun w hw => (own_arr ES hw (by repeat constructor) (by omega)).drop hml) (by rw [List.length_drop]) hc3 (hl := by rw [List.length_drop]; omega)) (fun A61 c61 => ?_)
     refine s4 ?_
     refine kJ [(0, _), (3, _), (4, _)] ?_
     refine s5 ?_
     have hs : risF (l.take (k + 1)) = (((([] : List ByteArray) ++ (risF (l.take k)).take (atR y (risF (l.take k)))) ++ [y]) ++ (risF (l.take k)).drop (atR y (risF (l.take k)))) := by rw [risF_s hlty hy]; unfold insR; rw [if_neg (by rw [List.getElem?_eq_getElem hmlt, hz]; intro e; exact h43 (Option.some.inj e))]
     exact xR (k + 1, A61, c61) (by dsimp only; omega) (by dsimp only; omega) (hl := ⟨rfl, (by dsimp only; rw [hs]; rfl), (congrArg some (by go_num)), trivial⟩) (hH := by (try dsimp only); rw [hs]; repeat constructor)
    ·refine dO [14] ?_
     refine s7 ?_
     refine kJ [(0, _), (3, _), (4, _)] ?_
     refine s5 ?_
     have hs : risF (l.take (k + 1)) = (risF (l.take k)) := by rw [risF_s hlty hy]; unfold insR; rw [if_pos (by rw [List.getElem?_eq_getElem hmlt, hz, Decidable.not_not.1 h43])]
     exact xR (k + 1, some ⟨ob, 0, none⟩, vc) (by dsimp only; omega) (by dsimp only; omega) (hl := ⟨rfl, (by dsimp only; rw [hs]; rfl), (congrArg some (by go_num)), trivial⟩) (hH := by (try dsimp only); rw [hs]; repeat constructor)
   ·have hme : atR y (risF (l.take k)) = (risF (l.take k)).length := by omega
    refine xD [0, 1, 2, 3, 4, 5, 6, 7, 8, 9, 10, 11, 12, 13, 14] [8, 12] ?_
    refine s4 ?_
    refine dDecT ?_
    refine s15 ?_
    refine J_fact (fun hw => ?_)
    obtain ⟨hc1, hc2⟩ := (own_cn hw (ty := 9) (k := 1) (m := (risF (l.take k)).length) (c := vc) (xs := (risF (l.take k)).flatMap eS) (by repeat constructor)).1
    clear hw
    refine kJ [(0, _), (3, _), (4, _), (5, _)] ?_
    refine s1 ?_
    refine aW (ow_slice0 (k := 1) (ty := 9) rfl rfl rfl (fun _ => by kernel_rfl)) (fun b45 hb45 => ?_)
    refine s2 ?_
    refine aP (rp_sliceTo (k := atR y (risF (l.take k))) rfl rfl rfl Und.h Siz.h rfl (by omega)) ?_
    refine aS (oAppX (sl := 23) ES ([] : List ByteArray) ((risF (l.take k)).take (atR y (risF (l.take k)))) (fun w hw => (own_arr ES hw (by repeat constructor) (by omega)).takeC hml) (by rw [List.length_take]; omega) (Nat.le_refl _) (hl := by rw [List.length_take, List.length_nil]; omega)) (fun A49 c49 => ?_)
    refine s4 ?_
    have hlt1 : (([] : List ByteArray) ++ (risF (l.take k)).take (atR y (risF (l.take k)))).length ≤ k := by rw [List.nil_append, List.length_take]; omega
    refine kJ [(0, _), (3, _), (4, _), (5, _), (6, _)] ?_
    refine s5 ?_
    refine aV (vHold rfl rfl (fun h => h) hhl hlty (by omega) (by rw [hy]; rfl)) ?_
    refine aW (ow_sliceC (vs := [_]) (ty := 9) rfl rfl (by rfl) rfl rfl (fun _ => by kernel_rfl)) (fun b55 hb55 => ?_)
    refine aS (oApp (sl := 23) ES (y)) (fun A56 c56 => ?_)
    refine s3 ?_
    have hlt2 : ((([] : List ByteArray) ++ (risF (l.take k)).take (atR y (risF (l.take k)))) ++ [y]).length ≤ k + 1 := by rw [List.length_append, List.length_singleton]; omega
    refine J_fact (fun hw => ?_)
    have hc3 := (own_cn hw (ty := 9) (k := 1) (m := ((([] : List ByteArray) ++ (risF (l.take k)).take (atR y (risF (l.take k)))) ++ [y]).length) (c := c56) (A := A56) (xs := ((([] : List ByteArray) ++ (risF (l.take k)).take (atR y (risF (l.take k)))) ++ [y]).flatMap eS) (by repeat constructor)).1.1
    clear hw
    refine kJ [(0, _), (3, _), (4, _), (5, _), (6, _)] ?_
    refine s4 ?_
    refine aP (rp_sliceFrom (k := atR y (risF (l.take k))) rfl rfl rfl Und.h Siz.h rfl (by omega)) ?_
    refine aS (oAppX (sl := 23) ES ((([] : List ByteArray) ++ (risF (l.take k)).take (atR y (risF (l.take k)))) ++ [y]) ((risF (l.take k)).drop (atR y (risF (l.take k)))) (fun w hw => (own_arr ES hw (by repeat constructor) (by omega)).drop hml) (by rw [List.length_drop]) hc3 (hl := by rw [List.length_drop]; omega)) (fun A61 c61 => ?_)
    refine s4 ?_
    refine kJ [(0, _), (3, _), (4, _)] ?_
    refine s5 ?_
    have hs : risF (l.take (k + 1)) = (((([] : List ByteArray) ++ (risF (l.take k)).take (atR y (risF (l.take k)))) ++ [y]) ++ (risF (l.take k)).drop (atR y (risF (l.take k)))) := by rw [risF_s hlty hy]; unfold insR; rw [if_neg (by rw [List.getElem?_eq_none (by omega)]; simp)]
    exact xR (k + 1, A61, c61) (by dsimp only; omega) (by dsimp only; omega) (hl := ⟨rfl, (by dsimp only; rw [hs]; rfl), (congrArg some (by go_num)), trivial⟩) (hH := by (try dsimp only); rw [hs]; repeat constructor)
 ·refine s9 ?_
  refine kJ [(3, _)] ?_
  refine s6 ?_
  refine JR_one rfl (rr_tmp rfl) ?_
  intro w' hw
  obtain rfl : k = l.length := by omega
  rw [List.take_length] at hw
  exact ⟨vA, vc, by rw [List.take_length], hw⟩
end Go.Proofs.YtjkolebffbeeeaaGreatDoor
