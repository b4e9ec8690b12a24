/- The program: strings.Join, Text. -/
import Derived.Test.YtjkolebffbeeeaaGreatDoorXf
namespace Go.Proofs.YtjkolebffbeeeaaGreatDoor
open Go Go.RowKit Go.Proofs
attribute [local irreducible] J JQ JL JA JD

def szS (l : List ByteArray) : Nat := (l.map ByteArray.size).sum
theorem szS_s {l : List ByteArray} {k : Nat} {y : ByteArray} (h : k < l.length) (hy : l[k]'h = y) : szS (l.take (k + 1)) = szS (l.take k) + y.size := by
 unfold szS; rw [List.take_succ_eq_append_getElem h, List.map_append, List.sum_append, hy]; simp
theorem szS_le {l : List ByteArray} (h : ∀ s ∈ l, s.size ≤ 32) : ∀ k, k ≤ l.length → szS (l.take k) ≤ 32 * k
 | 0, _ => by rw [List.take_zero]; exact Nat.le_refl _
 | k + 1, hk => by
  have ih := szS_le h k (by omega)
  have := h (l[k]'(by omega)) (List.getElem_mem _)
  rw [szS_s (show k < l.length by omega) rfl]; omega
theorem jnL_two {l : List ByteArray} (h : 2 ≤ l.length) : 2 ≤ (jnL l).size := by
 obtain ⟨k, hk⟩ : ∃ k, l.length = k + 1 := ⟨l.length - 1, by omega⟩
 have e : jnL l = jnL (l.take (k + 1)) := by rw [← hk, List.take_length]
 rw [e, jnL_s (show 0 < k by omega) (show k < l.length by omega) rfl, ByteArray.size_append, ByteArray.size_append]
 have : comS.size = 2 := rfl
 omega
theorem nil_app (s : ByteArray) : (⟨#[]⟩ : ByteArray) ++ s = s := by
 apply ByteArray.ext; rw [ByteArray.data_append]; exact Array.empty_append
set_option maxRecDepth 100000 in
set_option maxHeartbeats 4000000 in
theorem Join51 (l : List ByteArray) (lA : Option Addr) (lc : Nat) (w : World) (hl : Arr 1 eS w (.slice lA l.length lc) l) (hn : l.length ≤ 1000) (hsz : ∀ s ∈ l, s.size ≤ 32) : Calls Tryz.prog 51 #[.slice lA l.length lc, .string comS] w (Back (.string (jnL l)) w) := by
 obtain ⟨hlb, hlA⟩ := arr_parts hl
 refine J_enter (fun _ => False) (vs := [.slice lA l.length lc, .string comS]) (k := 73) (l := [(0, .slice lA l.length lc), (1, .string comS)]) Tryz.func51 rfl rfl Tryz.ntmps51 rfl rfl (Wd.start _) ?_
 refine s14 ?_
 rcases Nat.lt_or_ge 1 l.length with hll | hll
 ·refine s2 ?_
  refine aDecF ?_
  refine s5 ?_
  skip
  ·refine kJ [(0, _), (1, _), (12, _)] ?_
   refine s2 ?_
   refine aDecF ?_
   refine s18 ?_
   refine aDecT ?_ (by decide)
   refine s5 ?_
   have hq3 : 3 ≤ (9223372036854775807 : Int) / (((l.length : Nat) : Int) - 1) := (Int.le_ediv_iff_mul_le (by omega)).2 (by omega)
   refine kJ [(0, _), (1, _), (5, _)] ?_
   refine s8 ?_
   refine aDecF ?_ (Int.not_le.2 (Int.lt_of_lt_of_le (by decide) hq3))
   refine s5 ?_
   refine kJ [(0, _), (1, _), (5, _)] ?_
   refine s4 ?_
   have hc2 : comS.size = 2 := rfl
   rw [hc2]
   refine s10 ?_
   refine kJ [(0, _), (1, _), (5, _)] ?_
   refine s7 ?_
   refine xL (T := Nat) (fun k => k ≤ l.length) (fun k => [(0, .slice lA l.length lc), (1, .string comS), (5, .int .i64 ((2 * (l.length - 1) + szS (l.take k) : Nat) : Int)), (39, .slice lA l.length lc), (40, .int .i64 (l.length : Nat)), (41, .int .i64 (k : Nat))]) (fun k => []) (fun k => l.length - k) 0 (Nat.zero_le _) ?_ (hl := ⟨rfl, rfl, (congrArg (fun x => some (Value.int .i64 x)) (by have : szS (l.take 0) = 0 := rfl; rw [this]; have hc2 : (comS.size : Nat) = 2 := rfl; omega)), rfl, rfl, rfl, trivial⟩)
   rintro k hk
   have hzs := szS_le hsz k (by omega)
   refine s3 ?_
   refine JL_dec (fun h42 => ?_) (fun h42 => ?_)
   ·refine s9 ?_
    have hlty : k < l.length := by omega
    obtain ⟨bqy, pqy, rfl, hhy⟩ := hlA (by intro e; rw [e] at hlty; simp at hlty)
    obtain ⟨y, hy⟩ : ∃ y, l[k]'hlty = y := ⟨_, rfl⟩
    have hmy : y ∈ l := by rw [← hy]; exact List.getElem_mem _
    refine s2 ?_
    refine aV (vHold rfl rfl (fun h => h) hhy hlty (by omega) (by rw [hy]; rfl)) ?_
    refine s5 ?_
    have hy32 := hsz y hmy
    refine s6 ?_
    refine aDecF ?_
    refine s5 ?_
    refine kJ [(0, _), (1, _), (5, _), (7, _), (39, _), (40, _), (41, _)] ?_
    refine s9 ?_
    refine kJ [(0, _), (1, _), (5, _), (39, _), (40, _), (41, _)] ?_
    refine s4 ?_
    have hs := szS_s hlty hy
    exact xR (k + 1) (by omega) (by omega) (hl := ⟨rfl, rfl, (congrArg (fun x => some (Value.int .i64 x)) (by rw [hs]; omega)), rfl, rfl, (congrArg some (by go_num)), trivial⟩)
   ·refine s10 ?_
    obtain rfl : k = l.length := by omega
    rw [List.take_length]
    have hzs2 := szS_le hsz l.length (Nat.le_refl _)
    rw [List.take_length] at hzs2
    refine kJ [(0, _), (1, _), (5, _)] ?_
    refine s1 ?_
    refine aW oA (fun b8 hb8 => ?_)
    refine s5 ?_
    refine aW (oL [cellB b8 [.pointer none, .slice none 0 0] 82] [] (fun w hw h0 => Grow76 b8 (2 * (l.length - 1) + szS l) _ w (by omega) (by omega) h0)) (fun t57 ht57 => ?_)
    obtain ⟨g, c⟩ := t57
    obtain ⟨hgc1, hgc2⟩ := ht57
    dsimp only at hgc1 hgc2 ⊢
    refine s3 ?_
    have hltz : 0 < l.length := by omega
    obtain ⟨bqz, pqz, rfl, hhz⟩ := hlA (by intro e; rw [e] at hltz; simp at hltz)
    obtain ⟨z, hz⟩ : ∃ y, l[0]'hltz = y := ⟨_, rfl⟩
    have hmz : z ∈ l := by rw [← hz]; exact List.getElem_mem _
    refine s2 ?_
    refine aP (pIdxI (0) rfl rfl rfl) ?_
    refine aV (vHold rfl rfl (fun h => h) hhz hltz (by omega) (by rw [hz]; rfl)) ?_
    refine aW (oL [cellB b8 [.pointer (some ⟨b8, 0, none⟩), .slice (some ⟨g, 0, none⟩) (⟨#[]⟩ : ByteArray).size c] 82, bytB 5 (some ⟨g, 0, none⟩) c ⟨#[]⟩] [] (fun w hw h0 => WriteString50 b8 _ (some ⟨g, 0, none⟩) c ⟨#[]⟩ z _ w (.inr rfl) (by have := hsz z hmz; have e0 : (⟨#[]⟩ : ByteArray).size = 0 := rfl; omega) h0)) (fun t61 _ => ?_)
    obtain ⟨A61, c61⟩ := t61
    dsimp only
    refine s4 ?_
    have hdr := hl.drop (m := 1) (by omega)
    have hlc : l.length ≤ lc := by
     obtain ⟨_, _, e, h, -⟩ := hl
     injection e with _ _ e3
     subst e3; exact h
    have hY : (if lc = 1 then some ⟨bqz, pqz, none⟩ else (some ⟨bqz, pqz, none⟩ : Option Addr).map (·.add (1 * 1))) = some ⟨bqz, pqz + 1, none⟩ := by rw [if_neg (by omega)]; show some (Addr.add _ _) = _; rw [Addr.add_mid]
    rw [hY] at hdr
    obtain ⟨-, hdA⟩ := arr_parts hdr
    have hj1 : jnL (l.take (0 + 1)) = (⟨#[]⟩ : ByteArray) ++ z := jnL_1 hltz hz
    refine kJ [(0, _), (1, _), (8, _)] ?_
    refine s2 ?_
    refine aP (rp_sliceFrom (k := 1) rfl rfl rfl Und.h Siz.h rfl (by omega)) ?_
    rw [hY]
    refine s5 ?_
    refine xL (T := Nat × Option Addr × Nat) (fun q => q.1 ≤ l.length - 1) (fun q => [(1, .string comS), (8, .pointer (some ⟨b8, 0, none⟩)), (63, .slice (some ⟨bqz, pqz + 1, none⟩) (l.length - 1) (lc - 1)), (64, .int .i64 ((l.length - 1 : Nat) : Int)), (65, .int .i64 (q.1 : Nat))]) (fun q => [cellB b8 [.pointer (some ⟨b8, 0, none⟩), .slice q.2.1 (jnL (l.take (q.1 + 1))).size q.2.2] 82, bytB 5 q.2.1 q.2.2 (jnL (l.take (q.1 + 1)))]) (fun q => l.length - 1 - q.1) (0, A61, c61) (Nat.zero_le _) ?_ (hH := by (try dsimp only); rw [hj1]; repeat constructor)
    rintro ⟨k, vA, vc⟩ hk
    dsimp only at hk ⊢
    have hjz := jnL_len hsz (k + 1) (by omega)
    refine s3 ?_
    refine JL_dec (fun h66 => ?_) (fun h66 => ?_)
    ·refine s9 ?_
     have hly : k + 1 < l.length := by omega
     have hlr : k < (l.drop 1).length := by rw [List.length_drop]; omega
     obtain ⟨bqr, pqr, hbq, hhr⟩ := hdA (by intro e; rw [e] at hlr; simp at hlr)
     injection hbq with hbq
     injection hbq with hb1 hb2
     subst hb1 hb2
     obtain ⟨y, hy⟩ : ∃ y, l[k + 1]'hly = y := ⟨_, rfl⟩
     have hmy : y ∈ l := by rw [← hy]; exact List.getElem_mem _
     have hyr : (l.drop 1)[k]'hlr = y := by rw [List.getElem_drop, ← hy]; congr 1; omega
     refine s2 ?_
     refine aV (vHold rfl rfl (fun h => h) hhr hlr (by omega) (by rw [hyr]; rfl)) ?_
     refine s6 ?_
     refine aW (oL [cellB b8 [.pointer (some ⟨b8, 0, none⟩), .slice vA (jnL (l.take (k + 1))).size vc] 82, bytB 5 vA vc (jnL (l.take (k + 1)))] [] (fun w hw h0 => WriteString50 b8 _ vA vc (jnL (l.take (k + 1))) comS _ w (.inr rfl) (by have hc2 : (comS.size : Nat) = 2 := rfl; omega) h0)) (fun t70 _ => ?_)
     obtain ⟨A70, c70⟩ := t70
     dsimp only
     refine s2 ?_
     refine kJ [(1, _), (8, _), (10, _), (63, _), (64, _), (65, _)] ?_
     refine s2 ?_
     refine aW (oL [cellB b8 [.pointer (some ⟨b8, 0, none⟩), .slice A70 ((jnL (l.take (k + 1))) ++ comS).size c70] 82, bytB 5 A70 c70 ((jnL (l.take (k + 1))) ++ comS)] [] (fun w hw h0 => WriteString50 b8 _ A70 c70 ((jnL (l.take (k + 1))) ++ comS) y _ w (.inr rfl) (by rw [ByteArray.size_append]; have hc2 : (comS.size : Nat) = 2 := rfl; have := hsz y hmy; omega) h0)) (fun t72 _ => ?_)
     obtain ⟨A72, c72⟩ := t72
     dsimp only
     refine s7 ?_
     have hs : jnL (l.take (k + 1 + 1)) = (jnL (l.take (k + 1)) ++ comS) ++ y := jnL_s (by omega) hly hy
     exact xR (k + 1, A72, c72) (by dsimp only; omega) (by dsimp only; omega) (hl := ⟨rfl, rfl, rfl, rfl, (congrArg some (by go_num)), trivial⟩) (hH := by (try dsimp only); rw [hs]; repeat constructor)
    ·refine s10 ?_
     obtain rfl : k = l.length - 1 := by omega
     have hjl : jnL (l.take (l.length - 1 + 1)) = jnL l := by rw [Nat.sub_add_cancel (by omega), List.take_length]
     have hj2 : 2 ≤ (jnL (l.take (l.length - 1 + 1))).size := by rw [hjl]; exact jnL_two (by omega)
     refine J_fact (fun hw => ?_)
     obtain ⟨g2, rfl⟩ := own_some hw (ty := 5) (k := 1) (m := (jnL (l.take (l.length - 1 + 1))).size) (c := vc) (A := vA) (xs := Lib.strCells (jnL (l.take (l.length - 1 + 1)))) (by repeat constructor) (by omega)
     obtain ⟨hgc, -⟩ := (own_cn hw (ty := 5) (k := 1) (m := (jnL (l.take (l.length - 1 + 1))).size) (c := vc) (A := some ⟨g2, 0, none⟩) (xs := Lib.strCells (jnL (l.take (l.length - 1 + 1)))) (by repeat constructor)).1
     clear hw
     refine kJ [(8, _)] ?_
     refine s1 ?_
     refine aW (oL [cellB b8 [.pointer (some ⟨b8, 0, none⟩), .slice (some ⟨g2, 0, none⟩) (jnL (l.take (l.length - 1 + 1))).size vc] 82, bytB 5 (some ⟨g2, 0, none⟩) vc (jnL (l.take (l.length - 1 + 1)))] [] (fun w hw h0 => String52 b8 _ (some ⟨g2, 0, none⟩) vc (jnL (l.take (l.length - 1 + 1))) _ w h0 (.inr (by omega)) (fun h => (by cases h)))) (fun _ _ => ?_)
     refine s4 ?_
     refine JR_one rfl (rr_tmp rfl) ?_
     intro w' hw
     rw [hjl]
     exact ⟨rfl, hw.bel⟩
 ·refine s2 ?_
  refine JL_dec (fun h14 => ?_) (fun h14 => ?_)
  ·refine s5 ?_
   refine kJ [] ?_
   refine s7 ?_
   refine JR_one rfl (rr_tmp rfl) ?_
   intro w' hw
   obtain rfl : l = [] := List.length_eq_zero_iff.1 (by omega)
   exact ⟨rfl, hw.bel⟩
  ·refine s5 ?_
   skip
   ·refine kJ [(0, _), (1, _), (12, _)] ?_
    refine s2 ?_
    refine aDecT ?_
    refine s5 ?_
    have hltz : 0 < l.length := by omega
    obtain ⟨bqz, pqz, rfl, hhz⟩ := hlA (by intro e; rw [e] at hltz; simp at hltz)
    obtain ⟨z, hz⟩ : ∃ y, l[0]'hltz = y := ⟨_, rfl⟩
    have hmz : z ∈ l := by rw [← hz]; exact List.getElem_mem _
    refine kJ [(0, _)] ?_
    refine s2 ?_
    refine aP (pIdxI (0) rfl rfl rfl) ?_
    refine aV (vHold rfl rfl (fun h => h) hhz hltz (by omega) (by rw [hz]; rfl)) ?_
    refine s6 ?_
    refine JR_one rfl (rr_tmp rfl) ?_
    intro w' hw
    have e : jnL l = z := by rw [← List.take_length (l := l), show l.length = 0 + 1 by omega, jnL_1 hltz hz, nil_app]
    rw [e]; exact ⟨rfl, hw.bel⟩
end Go.Proofs.YtjkolebffbeeeaaGreatDoor
