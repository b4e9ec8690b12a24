import Derived.Test.YtjkolebffbeeeaaGreatDoorWl
/- The program: indices. -/
namespace Go.Proofs.YtjkolebffbeeeaaGreatDoor
open Go Go.RowKit Go.Proofs
attribute [local irreducible] J JQ JL JA JD

def inB (Bk : List Cl) (i : Int) : Bool := decide (0 ≤ i ∧ i ≤ ((Bk.length : Nat) : Int) - 1)
theorem arr_partsI {w : World} {A : Option Addr} {n c : Nat} {l : List Int} (h : Arr 1 eI w (.slice A n c) l) : l.length ≤ 9223372036854775807 ∧ (l ≠ [] → ∃ b o, A = some ⟨b, o, none⟩ ∧ HoldL 1 eI w b o l) := by
 obtain ⟨A', c', e, -, ⟨h1, -⟩, h2⟩ := h
 injection e with e1
 rw [e1]; exact ⟨h1, h2⟩
/-- Indices, or a refusal. -/
def RetIx (Bk : List Cl) (l : List Int) (w : World) (e : Ending) (w' : World) : Prop := if l.all (inB Bk) = true then Back (.tuple #[]) w e w' else Fails (-1) 4 w e w'

set_option maxRecDepth 100000 in
set_option maxHeartbeats 4000000 in
theorem index43 (Bk : List Cl) (BA : Option Addr) (bc lb bp : Nat) (top : Int) (l : List Int) (lA : Option Addr) (lc : Nat) (w : World) (hbk : (bookB bp BA Bk.length bc lb top).holds w) (hBl : Bk.length ≤ 64) (hl : Arr 1 eI w (.slice lA l.length lc) l) : Calls Tryz.prog 43 #[.pointer (some ⟨bp, 0, none⟩), .slice lA l.length lc] w (RetIx Bk l w) := by
 obtain ⟨hlb, hlA⟩ := arr_partsI hl
 refine J_enter (fun _ => False) (vs := [.pointer (some ⟨bp, 0, none⟩), .slice lA l.length lc]) (k := 20) (l := [(0, .pointer (some ⟨bp, 0, none⟩)), (1, .slice lA l.length lc)]) Tryz.func43 rfl rfl Tryz.ntmps43 rfl rfl (Wd.start _) ?_
 refine s8 ?_
 refine xL (T := Nat) (fun k => k ≤ l.length ∧ l.all (inB Bk) = (l.drop k).all (inB Bk)) (fun k => [(0, .pointer (some ⟨bp, 0, none⟩)), (6, .slice lA l.length lc), (7, .int .i64 (l.length : Nat)), (8, .int .i64 (k : Nat))]) (fun k => []) (fun k => l.length - k) 0 ⟨Nat.zero_le _, rfl⟩ ?_
 rintro k ⟨hk, hall⟩
 refine s3 ?_
 refine JL_dec (fun h9 => ?_) (fun h9 => ?_)
 ·refine s9 ?_
  have hlty : k < l.length := by omega
  obtain ⟨bqy, pqy, rfl, hhl⟩ := hlA (by intro e; subst e; simp at hlty)
  obtain ⟨y, hy⟩ : ∃ y, l[k]'hlty = y := ⟨_, rfl⟩
  have hmy : y ∈ l := by rw [← hy]; exact List.getElem_mem _
  refine s2 ?_
  refine aV (vHold rfl rfl (fun h => h) hhl hlty (by omega) (by rw [hy]; rfl)) ?_
  refine s8 ?_
  refine aV (vOld rfl rfl (fun h => h) (cellB_get hbk rfl)) ?_
  refine s2 ?_
  refine aCB (fun w hw => within65 _ _ _ w) ?_
  refine JL_dec (fun h19 => ?_) (fun h19 => ?_)
  ·refine aCB (fun w hw => need_yes _ _ w) ?_
   refine s3 ?_
   refine kJ [(0, _), (6, _), (7, _), (8, _)] ?_
   refine s4 ?_
   have hn : l.all (inB Bk) = (l.drop (k + 1)).all (inB Bk) := by rw [hall, List.drop_eq_getElem_cons hlty, hy, List.all_cons, show inB Bk y = true from decide_eq_true h19, Bool.true_and]
   exact xR (k + 1) ⟨by omega, hn⟩ (by omega)
  ·refine aPan (ecF rfl rfl) (fun w hw => need_no _ _ w) ?_
   refine s4 ?_
   refine JR_panic ?_
   intro w' hw
   unfold RetIx; rw [if_neg (by rw [hall, List.drop_eq_getElem_cons hlty, hy, List.all_cons, show inB Bk y = false from decide_eq_false h19, Bool.false_and]; simp)]
   exact ⟨rfl, hw.bel⟩
 ·refine s8 ?_
  refine JR_end rfl ?_
  intro w' hw
  obtain rfl : k = l.length := by omega
  unfold RetIx; rw [if_pos (by rw [hall, List.drop_length]; rfl)]
  exact ⟨rfl, hw.bel⟩
end Go.Proofs.YtjkolebffbeeeaaGreatDoor

/- The document: Stands, indices, Less, Check. -/
namespace Go.Proofs.YtjkolebffbeeeaaGreatDoor
open Go Go.RowKit Go.Proofs
attribute [local irreducible] J JQ JL JA JD

set_option maxRecDepth 100000 in
set_option maxHeartbeats 4000000 in
theorem Stands23 (c : Cl) (ed : Int) (w : World) : Calls Tryz.prog 23 #[Clv c, .int .i64 ed] w (Back (.bool (decide (c.f ≤ ed ∧ ed ≤ c.t))) w) := by
 refine J_enter (fun _ => False) (vs := [Clv c, .int .i64 ed]) (k := 9) (l := [(0, Clv c), (1, .int .i64 ed)]) Tryz.func23 rfl rfl Tryz.ntmps23 rfl rfl (Wd.start _) ?_
 refine s2 ?_
 refine aW (oX [_, _, _, _, _, _]) (fun b2 hb2 => ?_)
 refine s10 ?_
 refine aCB (fun w hw => in58 _ _ _ w) ?_
 refine s4 ?_
 refine JR_one rfl (rr_tmp rfl) ?_
 intro w' hw
 exact ⟨rfl, hw.bel⟩
set_option maxRecDepth 100000 in
set_option maxHeartbeats 4000000 in
theorem indices47 (Bk : List Cl) (BA : Option Addr) (bc : Nat) (l : List Int) (lA : Option Addr) (lc : Nat) (w : World) (hBl : Bk.length ≤ 9223372036854775807) (hl : Arr 1 eI w (.slice lA l.length lc) l) : Calls Tryz.prog 47 #[.slice BA Bk.length bc, .slice lA l.length lc] w (Back (.bool (l.all (inB Bk))) w) := by
 obtain ⟨hlb, hlA⟩ := arr_partsI hl
 refine J_enter (fun _ => False) (vs := [.slice BA Bk.length bc, .slice lA l.length lc]) (k := 19) (l := [(0, .slice BA Bk.length bc), (1, .slice lA l.length lc)]) Tryz.func47 rfl rfl Tryz.ntmps47 rfl rfl (Wd.start _) ?_
 refine s12 ?_
 refine xL (T := Nat) (fun k => k ≤ l.length ∧ l.all (inB Bk) = (l.drop k).all (inB Bk)) (fun k => [(0, .slice BA Bk.length bc), (1, .slice lA l.length lc), (5, .int .i64 (k : Nat))]) (fun k => []) (fun k => l.length - k) 0 ⟨Nat.zero_le _, rfl⟩ ?_
 rintro k ⟨hk, hall⟩
 refine s7 ?_
 refine JL_dec (fun h9 => ?_) (fun h9 => ?_)
 ·refine s8 ?_
  have hlty : k < l.length := by omega
  obtain ⟨bqy, pqy, rfl, hhl⟩ := hlA (by intro e; subst e; simp at hlty)
  obtain ⟨y, hy⟩ : ∃ y, l[k]'hlty = y := ⟨_, rfl⟩
  have hmy : y ∈ l := by rw [← hy]; exact List.getElem_mem _
  refine kJ [(0, _), (1, _), (5, _)] ?_
  refine s4 ?_
  refine aV (vHold rfl rfl (fun h => h) hhl hlty (by omega) (by rw [hy]; rfl)) ?_
  refine s3 ?_
  refine aCB (fun w hw => in58 _ _ _ w) ?_
  refine JL_dec (fun h19 => ?_) (fun h19 => ?_)
  ·refine s7 ?_
   refine kJ [(0, _), (1, _), (5, _)] ?_
   refine s5 ?_
   have hn : l.all (inB Bk) = (l.drop (k + 1)).all (inB Bk) := by rw [hall, List.drop_eq_getElem_cons hlty, hy, List.all_cons, show inB Bk y = true from decide_eq_true h19, Bool.true_and]
   exact xR (k + 1) ⟨by omega, hn⟩ (by omega) (hl := ⟨rfl, rfl, (congrArg some (by go_num)), trivial⟩)
  ·refine s5 ?_
   refine kJ [] ?_
   refine s10 ?_
   refine JR_one rfl (rr_tmp rfl) ?_
   intro w' hw
   exact ⟨by rw [hall, List.drop_eq_getElem_cons hlty, hy, List.all_cons, show inB Bk y = false from decide_eq_false h19, Bool.false_and], hw.bel⟩
 ·refine s9 ?_
  refine kJ [] ?_
  refine s5 ?_
  refine JR_one rfl (rr_tmp rfl) ?_
  intro w' hw
  obtain rfl : k = l.length := by omega
  exact ⟨by rw [hall, List.drop_length]; rfl, hw.bel⟩
/-- The strings of a list that another one has not. -/
def lesL (l m : List ByteArray) : List ByteArray := l.filter (fun x => !decide (x ∈ m))
theorem lesL_s {l m : List ByteArray} {k : Nat} {y : ByteArray} (h : k < l.length) (hy : l[k]'h = y) : lesL (l.take (k + 1)) m = if y ∈ m then lesL (l.take k) m else lesL (l.take k) m ++ [y] := by
 unfold lesL; rw [List.take_succ_eq_append_getElem h, List.filter_append, hy]
 by_cases e : y ∈ m <;> simp [e]
theorem lesL_len (l m : List ByteArray) (k : Nat) : (lesL (l.take k) m).length ≤ k := Nat.le_trans (List.length_filter_le _ _) (by rw [List.length_take]; omega)
set_option maxRecDepth 100000 in
set_option maxHeartbeats 4000000 in
theorem Less19 (l m : List ByteArray) (lA : Option Addr) (lc : Nat) (mv : Value) (w : World) (hl : Arr 1 eS w (.slice lA l.length lc) l) (hm : Arr 1 eS w mv m) (hn : l.length ≤ 1000) : Calls Tryz.prog 19 #[.slice lA l.length lc, mv] w (RetS 9 1 eS (lesL l m) w) := by
 obtain ⟨hlb, hlA⟩ := arr_parts hl
 refine J_enter (fun _ => False) (vs := [.slice lA l.length lc, mv]) (k := 26) (l := [(0, .slice lA l.length lc), (1, mv)]) Tryz.func19 rfl rfl Tryz.ntmps19 rfl rfl (Wd.start _) ?_
 refine s12 ?_
 refine J_own0 9 1 ?_
 refine s5 ?_
 refine xL (T := Nat × Option Addr × Nat) (fun q => q.1 ≤ l.length) (fun q => [(0, .slice lA l.length lc), (1, mv), (5, .slice q.2.1 (lesL (l.take q.1) m).length q.2.2), (6, .int .i64 (q.1 : Nat))]) (fun q => [ownB 9 1 q.2.1 (lesL (l.take q.1) m).length q.2.2 ((lesL (l.take q.1) m).flatMap eS)]) (fun q => l.length - q.1) (0, none, 0) (Nat.zero_le _) ?_
 rintro ⟨k, oA, oc⟩ hk
 dsimp only at hk ⊢
 refine s7 ?_
 refine JL_dec (fun h10 => ?_) (fun h10 => ?_)
 ·refine s8 ?_
  have hlty : k < l.length := by omega
  obtain ⟨bqy, pqy, rfl, hhl⟩ := hlA (by intro e; subst e; simp at hlty)
  obtain ⟨y, hy⟩ : ∃ y, l[k]'hlty = y := ⟨_, rfl⟩
  have hmy : y ∈ l := by rw [← hy]; exact List.getElem_mem _
  have hll := lesL_len l m k
  refine kJ [(0, _), (1, _), (5, _), (6, _)] ?_
  refine s5 ?_
  refine aV (vHold rfl rfl (fun h => h) hhl hlty (by omega) (by rw [hy]; rfl)) ?_
  refine aCB (fun w hw => Has22 m y mv w (hm.up ES hw.bel)) ?_
  refine JL_dec (fun h18 => ?_) (fun h18 => ?_)
  ·refine s7 ?_
   refine kJ [(0, _), (1, _), (5, _), (6, _)] ?_
   refine s5 ?_
   have hs : lesL (l.take (k + 1)) m = lesL (l.take k) m := by rw [lesL_s hlty hy, if_pos h18]
   exact xR (k + 1, oA, oc) (by dsimp only; omega) (by dsimp only; omega) (hl := ⟨rfl, rfl, (by dsimp only; rw [hs]; rfl), (congrArg some (by go_num)), trivial⟩) (hH := by (try dsimp only); rw [hs]; repeat constructor)
  ·refine s4 ?_
   refine kJ [(0, _), (1, _), (5, _), (6, _)] ?_
   refine s5 ?_
   refine aV (vHold rfl rfl (fun h => h) hhl hlty (by omega) (by rw [hy]; rfl)) ?_
   refine aW (ow_sliceC (vs := [_]) (ty := 9) rfl rfl (by rfl) rfl rfl (fun _ => by kernel_rfl)) (fun b25 hb25 => ?_)
   refine aS (oApp (sl := 23) ES (y)) (fun A26 c26 => ?_)
   refine s4 ?_
   refine kJ [(0, _), (1, _), (5, _), (6, _)] ?_
   refine s5 ?_
   have hs : lesL (l.take (k + 1)) m = lesL (l.take k) m ++ [y] := by rw [lesL_s hlty hy, if_neg h18]
   exact xR (k + 1, A26, c26) (by dsimp only; omega) (by dsimp only; omega) (hl := ⟨rfl, rfl, (by dsimp only; rw [hs]; rfl), (congrArg some (by go_num)), trivial⟩) (hH := by (try dsimp only); rw [hs]; repeat constructor)
 ·refine s9 ?_
  obtain rfl : k = l.length := by omega
  refine kJ [(5, _)] ?_
  refine s6 ?_
  refine JR_one rfl (rr_tmp rfl) ?_
  intro w' hw
  rw [List.take_length] at hw
  exact ⟨oA, oc, by rw [List.take_length], hw⟩
end Go.Proofs.YtjkolebffbeeeaaGreatDoor

/- The document: Check, Level, asked. -/
namespace Go.Proofs.YtjkolebffbeeeaaGreatDoor
open Go Go.RowKit Go.Proofs
attribute [local irreducible] J JQ JL JA JD

theorem bnd_lv {Bk : List Cl} (hb : bndF Bk = none) : ∃ lv, lvl Bk = some lv := by
 unfold bndF at hb; split at hb
 ·cases hb
 ·split at hb
  ·cases hb
  ·split at hb
   ·cases hb
   ·rename_i m h; exact ⟨m, h⟩
theorem bnd_ne {Bk : List Cl} {a n : Int} (hb : bndF Bk = some (a, n)) : n ≠ 0 := by
 unfold bndF at hb; split at hb
 ·cases hb; decide
 ·split at hb
  ·cases hb; decide
  ·split at hb <;> cases hb; decide
theorem levels_no {Bk : List Cl} {A : Option Addr} {c : Nat} {w : World} (h : BkW w Bk A c) (h64 : Bk.length ≤ 64) (hl : lvl Bk = none) : Calls Tryz.prog 60 #[.slice A Bk.length c] w (Back (.tuple #[.map none, .bool false]) w) := by
 have := levels60 Bk _ w h.row h.cl h64
 rw [hl] at this; exact this
theorem levels_yes {Bk : List Cl} {A : Option Addr} {c : Nat} {w : World} {lv : LM} (h : BkW w Bk A c) (h64 : Bk.length ≤ 64) (hl : lvl Bk = some lv) : Calls Tryz.prog 60 #[.slice A Bk.length c] w (Ret w (fun _ : Nat => True) (fun b => .tuple #[.map (some b), .bool true]) (fun b => [lvI b 4096 lv])) := by
 have := levels60 Bk _ w h.row h.cl h64
 rw [hl] at this; exact this
set_option maxRecDepth 100000 in
set_option maxHeartbeats 4000000 in
theorem Check25 (Bk : List Cl) (A : Option Addr) (c : Nat) (w : World) (hbk : BkW w Bk A c) : Calls Tryz.prog 25 #[.slice A Bk.length c] w (Back (.tuple #[.int .i64 (chkR (bndF Bk)).1, .int .i64 (chkR (bndF Bk)).2]) w) := by
 obtain ⟨hBb, hBA⟩ := arr_partsC hbk.row
 refine J_enter (fun _ => False) (vs := [.slice A Bk.length c]) (k := 29) (l := [(0, .slice A Bk.length c)]) Tryz.func25 rfl rfl Tryz.ntmps25 rfl rfl (Wd.start _) ?_
 refine s12 ?_
 refine JL_dec (fun h9 => ?_) (fun h9 => ?_)
 ·refine s4 ?_
  refine kJ [] ?_
  refine s7 ?_
  refine JR_two rfl (rr_tmp rfl) (rr_tmp rfl) ?_
  intro w' hw
  have e : bndF Bk = some (-1, 3) := by unfold bndF; rw [if_pos (by omega)]
  rw [e]
  exact ⟨rfl, hw.bel⟩
 ·refine s7 ?_
  refine kJ [(0, _)] ?_
  refine s5 ?_
  refine xL (T := Nat) (fun i => i ≤ Bk.length ∧ fstBad Bk 0 = fstBad (Bk.drop i) i) (fun i => [(0, .slice A Bk.length c), (4, .int .i64 (i : Nat))]) (fun i => []) (fun i => Bk.length - i) 0 ⟨Nat.zero_le _, rfl⟩ ?_
  rintro i ⟨hi, hfst⟩
  refine s7 ?_
  refine JL_dec (fun h13 => ?_) (fun h13 => ?_)
  ·refine s8 ?_
   have hlt : i < Bk.length := by omega
   obtain ⟨bB, pB, rfl, hhB⟩ := hBA (by intro e; subst e; simp at hlt)
   obtain ⟨⟨cn, cf, ct, ⟨fA, fn, fc, fl⟩, ⟨uA, un, uc, ul⟩, th⟩, hc⟩ : ∃ c, Bk[i]'hlt = c := ⟨_, rfl⟩
   have hcm : (⟨cn, cf, ct, ⟨fA, fn, fc, fl⟩, ⟨uA, un, uc, ul⟩, th⟩ : Cl) ∈ Bk := by rw [← hc]; exact List.getElem_mem _
   obtain ⟨hfs, hus, hfk, huk, hnk, htk⟩ := hbk.cl _ hcm
   obtain rfl : fn = fl.length := dv_nc hfs
   obtain rfl : un = ul.length := dv_nc hus
   dsimp only [Dv.v] at hfs hus hfk huk hnk htk
   obtain ⟨hfb, hfA⟩ := arr_parts hfs
   obtain ⟨hub, huA⟩ := arr_parts hus
   refine kJ [(0, _), (4, _)] ?_
   refine s4 ?_
   refine aV (vHoldA (cs := [.string cn, .int .i64 cf, .int .i64 ct, .slice fA fl.length fc, .slice uA ul.length uc, .string th]) EC6 rfl rfl (fun h => h) hhB hlt (by rw [hc]; rfl)) ?_
   refine aCB (fun w hw => CheckClause29 _ w ((hbk.cl _ hcm).up hw.bel)) ?_
   refine JL_bool (fun h20 => ?_) (fun h20 => ?_)
   ·refine s7 ?_
    refine kJ [(0, _), (4, _)] ?_
    refine s5 ?_
    have hn : fstBad Bk 0 = fstBad (Bk.drop (i + 1)) (i + 1) := by rw [hfst, List.drop_eq_getElem_cons hlt, hc]; show (if clB _ = true then _ else _) = _; rw [h20]; rfl
    exact xR (i + 1) ⟨by omega, hn⟩ (by omega) (hl := ⟨rfl, (congrArg some (by go_num)), trivial⟩)
   ·refine s5 ?_
    refine kJ [(4, _)] ?_
    refine s12 ?_
    refine JR_two rfl (rr_tmp rfl) (rr_tmp rfl) ?_
    intro w' hw
    have e : bndF Bk = some (((i : Nat) : Int), 2) := by unfold bndF; rw [if_neg (by omega), hfst, List.drop_eq_getElem_cons hlt, hc]; unfold fstBad; rw [h20]; rfl
    rw [e]
    exact ⟨rfl, hw.bel⟩
  ·refine s9 ?_
   cases hlv : lvl Bk
   ·obtain rfl : i = Bk.length := by omega
    rw [List.drop_length] at hfst
    replace hfst : fstBad Bk 0 = none := hfst
    refine kJ [(0, _)] ?_
    refine s2 ?_
    refine aCB (fun w hw => levels_no (hbk.up hw.bel) (by omega) hlv) ?_
    refine s9 ?_
    refine kJ [(6, _)] ?_
    refine s14 ?_
    refine JR_two rfl (rr_tmp rfl) (rr_tmp rfl) ?_
    intro w' hw
    have e : bndF Bk = some (-1, 9) := by unfold bndF; rw [if_neg (by omega), hfst, hlv]
    rw [e]
    exact ⟨rfl, hw.bel⟩
   ·obtain rfl : i = Bk.length := by omega
    rw [List.drop_length] at hfst
    replace hfst : fstBad Bk 0 = none := hfst
    refine kJ [(0, _)] ?_
    refine s2 ?_
    refine aW (oR (fun w hw => levels_yes (hbk.up hw.bel) (by omega) hlv)) (fun t25 _ => ?_)
    refine s9 ?_
    refine kJ [(6, _)] ?_
    refine s15 ?_
    refine JR_two rfl (rr_tmp rfl) (rr_tmp rfl) ?_
    intro w' hw
    have e : bndF Bk = none := by unfold bndF; rw [if_neg (by omega), hfst, hlv]
    rw [e]
    exact ⟨rfl, hw.bel⟩
theorem check_yes {Bk : List Cl} {A : Option Addr} {c : Nat} {w : World} (h : BkW w Bk A c) (hb : bndF Bk = none) : Calls Tryz.prog 25 #[.slice A Bk.length c] w (Back (.tuple #[.int .i64 (-1), .int .i64 0]) w) := by
 have := Check25 Bk A c w h
 rw [hb] at this; exact this
theorem check_no {Bk : List Cl} {A : Option Addr} {c : Nat} {w : World} {a n : Int} (h : BkW w Bk A c) (hb : bndF Bk = some (a, n)) : Calls Tryz.prog 25 #[.slice A Bk.length c] w (Back (.tuple #[.int .i64 a, .int .i64 n]) w) := by
 have := Check25 Bk A c w h
 rw [hb] at this; exact this
set_option maxRecDepth 100000 in
set_option maxHeartbeats 4000000 in
theorem Level27 (Bk : List Cl) (A : Option Addr) (c : Nat) (x : ByteArray) (hx : okS x) (w : World) (hbk : BkW w Bk A c) : Calls Tryz.prog 27 #[.slice A Bk.length c, .string x] w (Back (.tuple #[.int .i64 (levR Bk x).1, .int .i64 (levR Bk x).2]) w) := by
 refine J_enter (fun _ => False) (vs := [.slice A Bk.length c, .string x]) (k := 27) (l := [(0, .slice A Bk.length c), (1, .string x)]) Tryz.func27 rfl rfl Tryz.ntmps27 rfl rfl (Wd.start _) ?_
 refine s7 ?_
 obtain hb | ⟨a, n, hb⟩ := opt2 (bndF Bk)
 ·obtain ⟨lv, hlv⟩ := bnd_lv hb
  have h64 := bnd_64 hb
  refine s2 ?_
  refine aCB (fun w hw => check_yes (hbk.up hw.bel) hb) ?_
  refine s9 ?_
  refine kJ [(0, _), (1, _), (7, _)] ?_
  refine s3 ?_
  refine aDecF ?_ (by decide)
  refine s9 ?_
  refine aCB (fun w hw => Name46 x w) ?_
  refine JL_bool (fun h19 => ?_) (fun h19 => ?_)
  ·refine s7 ?_
   refine kJ [(0, _), (1, _)] ?_
   refine s2 ?_
   refine aW (oR (fun w hw => levels_yes (hbk.up hw.bel) h64 hlv)) (fun t23 _ => ?_)
   refine s8 ?_
   refine kJ [(1, _), (8, _)] ?_
   refine s3 ?_
   refine aV (rv_lookK KS LI64 x Und.h rfl rfl rfl (by repeat constructor) rfl hx) ?_
   refine s5 ?_
   refine JR_two rfl (rr_tmp rfl) (rr_tmp rfl) ?_
   intro w' hw
   exact ⟨by unfold levR lvlQ; rw [hb]; simp [h19, lvOf, hlv]; rfl, hw.bel⟩
  ·refine s5 ?_
   refine kJ [] ?_
   refine s7 ?_
   refine JR_two rfl (rr_tmp rfl) (rr_tmp rfl) ?_
   intro w' hw
   exact ⟨by unfold levR lvlQ; rw [hb]; simp [h19], hw.bel⟩
 ·have hnz := bnd_ne hb
  refine s2 ?_
  refine aCB (fun w hw => check_no (hbk.up hw.bel) hb) ?_
  refine s9 ?_
  refine kJ [(0, _), (1, _), (7, _)] ?_
  refine s3 ?_
  refine aDecT ?_ (by exact hnz)
  refine s4 ?_
  refine kJ [(7, _)] ?_
  refine s8 ?_
  refine JR_two rfl (rr_tmp rfl) (rr_tmp rfl) ?_
  intro w' hw
  exact ⟨by unfold levR lvlQ; rw [hb], hw.bel⟩
/-- Why a question is none. -/
def askR (Bk : List Cl) (ed : Int) (fl0 : List ByteArray) : Int := match hldQ Bk ed fl0 with | some (_, n) => n | none => 0
set_option maxRecDepth 100000 in
set_option maxHeartbeats 4000000 in
theorem asked45 (Bk : List Cl) (A : Option Addr) (c : Nat) (ed : Int) (fl0 : List ByteArray) (fA0 : Option Addr) (fc0 : Nat) (hok : ∀ s ∈ fl0, okS s) (w : World) (hbk : BkW w Bk A c) (hfl : Arr 1 eS w (.slice fA0 fl0.length fc0) fl0) : Calls Tryz.prog 45 #[.slice A Bk.length c, .int .i64 ed, .slice fA0 fl0.length fc0] w (Back (.int .i64 (askR Bk ed fl0)) w) := by
 refine J_enter (fun _ => False) (vs := [.slice A Bk.length c, .int .i64 ed, .slice fA0 fl0.length fc0]) (k := 22) (l := [(0, .slice A Bk.length c), (1, .int .i64 ed), (2, .slice fA0 fl0.length fc0)]) Tryz.func45 rfl rfl Tryz.ntmps45 rfl rfl (Wd.start _) ?_
 refine s6 ?_
 obtain hb | ⟨a, n, hb⟩ := opt2 (bndF Bk)
 ·obtain ⟨lv, hlv⟩ := bnd_lv hb
  have h64 := bnd_64 hb
  refine s2 ?_
  refine aCB (fun w hw => check_yes (hbk.up hw.bel) hb) ?_
  refine s9 ?_
  refine kJ [(1, _), (2, _), (8, _)] ?_
  refine s3 ?_
  refine aDecF ?_ (by decide)
  refine s9 ?_
  refine aCB (fun w hw => in58 _ _ _ w) ?_
  refine JL_dec (fun h18 => ?_) (fun h18 => ?_)
  ·refine s3 ?_
   refine aCB (fun w hw => Facts74 fl0 _ w (hfl.up ES hw.bel) hok) ?_
   refine JL_bool (fun h22 => ?_) (fun h22 => ?_)
   ·refine s8 ?_
    refine kJ [] ?_
    refine s5 ?_
    refine JR_one rfl (rr_tmp rfl) ?_
    intro w' hw
    exact ⟨by unfold askR hldQ; rw [hb]; unfold askB; simp [h18, h22], hw.bel⟩
   ·refine s6 ?_
    refine kJ [] ?_
    refine s6 ?_
    refine JR_one rfl (rr_tmp rfl) ?_
    intro w' hw
    exact ⟨by unfold askR hldQ; rw [hb]; unfold askB; simp [h18, h22], hw.bel⟩
  ·refine s10 ?_
   refine kJ [] ?_
   refine s6 ?_
   refine JR_one rfl (rr_tmp rfl) ?_
   intro w' hw
   exact ⟨by unfold askR hldQ; rw [hb]; unfold askB; simp [h18], hw.bel⟩
 ·have hnz := bnd_ne hb
  refine s2 ?_
  refine aCB (fun w hw => check_no (hbk.up hw.bel) hb) ?_
  refine s9 ?_
  refine kJ [(1, _), (2, _), (8, _)] ?_
  refine s3 ?_
  refine aDecT ?_ (by exact hnz)
  refine s4 ?_
  refine kJ [(8, _)] ?_
  refine s7 ?_
  refine JR_one rfl (rr_tmp rfl) ?_
  intro w' hw
  exact ⟨by unfold askR hldQ; rw [hb], hw.bel⟩
end Go.Proofs.YtjkolebffbeeeaaGreatDoor

/- The document: Fires. -/
namespace Go.Proofs.YtjkolebffbeeeaaGreatDoor
open Go Go.RowKit Go.Proofs
attribute [local irreducible] J JQ JL JA JD

/-- Whether a clause would make its Then hold. -/
def firR (ed : Int) (S : List ByteArray) (c : Cl) : Bool := c.fs.l.all (fun x => decide (x ∈ S)) && !c.us.l.any (fun x => decide (x ∈ S)) && decide (c.f ≤ ed ∧ ed ≤ c.t)
set_option maxRecDepth 100000 in
set_option maxHeartbeats 4000000 in
theorem Fires20 (c : Cl) (ed : Int) (S : List ByteArray) (sv : Value) (w : World) (hc : ClW w c) (hS : Arr 1 eS w sv S) : Calls Tryz.prog 20 #[Clv c, .int .i64 ed, sv] w (Back (.bool (firR ed S c)) w) := by
 obtain ⟨cn, cf, ct, ⟨fA, fn, fc, fl⟩, ⟨uA, un, uc, ul⟩, th⟩ := c
 obtain ⟨hfs, hus, hfk, huk, hnk, htk⟩ := hc
 obtain rfl : fn = fl.length := dv_nc hfs
 obtain rfl : un = ul.length := dv_nc hus
 dsimp only [Dv.v] at hfs hus hfk huk hnk htk
 obtain ⟨hfb, hfA⟩ := arr_parts hfs
 obtain ⟨hub, huA⟩ := arr_parts hus
 refine J_enter (fun _ => False) (vs := [.agg #[.string cn, .int .i64 cf, .int .i64 ct, .slice fA fl.length fc, .slice uA ul.length uc, .string th], .int .i64 ed, sv]) (k := 38) (l := [(0, .agg #[.string cn, .int .i64 cf, .int .i64 ct, .slice fA fl.length fc, .slice uA ul.length uc, .string th]), (1, .int .i64 ed), (2, sv)]) Tryz.func20 rfl rfl Tryz.ntmps20 rfl rfl (Wd.start _) ?_
 refine s2 ?_
 refine aW (oX [_, _, _, _, _, _]) (fun b3 hb3 => ?_)
 refine s10 ?_
 refine xL (T := Nat) (fun k => k ≤ fl.length ∧ fl.all (fun x => decide (x ∈ S)) = (fl.drop k).all (fun x => decide (x ∈ S))) (fun k => [(1, .int .i64 ed), (2, sv), (3, .pointer (some ⟨b3, 0, none⟩)), (7, .int .i64 (k : Nat))]) (fun k => [cellB b3 [.string cn, .int .i64 cf, .int .i64 ct, .slice fA fl.length fc, .slice uA ul.length uc, .string th] 40]) (fun k => fl.length - k) 0 ⟨Nat.zero_le _, rfl⟩ ?_
 rintro k ⟨hk, hall⟩
 refine s8 ?_
 refine JL_dec (fun h13 => ?_) (fun h13 => ?_)
 ·refine s8 ?_
  have hlty : k < fl.length := by omega
  obtain ⟨bqy, pqy, rfl, hhf⟩ := hfA (by intro e; subst e; simp at hlty)
  obtain ⟨y, hy⟩ : ∃ y, fl[k]'hlty = y := ⟨_, rfl⟩
  have hmy : y ∈ fl := by rw [← hy]; exact List.getElem_mem _
  refine kJ [(1, _), (2, _), (3, _), (7, _)] ?_
  refine s6 ?_
  refine aV (vHold rfl rfl (fun h => h) hhf hlty (by omega) (by rw [hy]; rfl)) ?_
  refine aCB (fun w hw => Has22 S y sv w (hS.up ES hw.bel)) ?_
  refine JL_dec (fun h22 => ?_) (fun h22 => ?_)
  ·refine s7 ?_
   refine kJ [(1, _), (2, _), (3, _), (7, _)] ?_
   refine s5 ?_
   have hn : fl.all (fun x => decide (x ∈ S)) = (fl.drop (k + 1)).all (fun x => decide (x ∈ S)) := by rw [hall, List.drop_eq_getElem_cons hlty, hy, List.all_cons]; simp [h22]
   exact xR (k + 1) ⟨by omega, hn⟩ (by omega) (hl := ⟨rfl, rfl, rfl, (congrArg some (by go_num)), trivial⟩)
  ·refine s5 ?_
   refine kJ [] ?_
   refine s10 ?_
   refine JR_one rfl (rr_tmp rfl) ?_
   intro w' hw
   have e : firR ed S ⟨cn, cf, ct, ⟨some ⟨bqy, pqy, none⟩, fl.length, fc, fl⟩, ⟨uA, ul.length, uc, ul⟩, th⟩ = false := by unfold firR; dsimp only; rw [hall, List.drop_eq_getElem_cons hlty, hy, List.all_cons]; simp [h22]
   rw [e]; exact ⟨rfl, hw.bel⟩
 ·refine s10 ?_
  obtain rfl : k = fl.length := by omega
  have hfa : fl.all (fun x => decide (x ∈ S)) = true := by rw [hall, List.drop_length]; rfl
  refine kJ [(1, _), (2, _), (3, _)] ?_
  refine s5 ?_
  refine xL (T := Nat) (fun k => k ≤ ul.length ∧ ul.any (fun x => decide (x ∈ S)) = (ul.drop k).any (fun x => decide (x ∈ S))) (fun k => [(1, .int .i64 ed), (2, sv), (3, .pointer (some ⟨b3, 0, none⟩)), (8, .int .i64 (k : Nat))]) (fun k => [cellB b3 [.string cn, .int .i64 cf, .int .i64 ct, .slice fA fl.length fc, .slice uA ul.length uc, .string th] 40]) (fun k => ul.length - k) 0 ⟨Nat.zero_le _, rfl⟩ ?_
  rintro k ⟨hk, hany⟩
  refine s8 ?_
  refine JL_dec (fun h28 => ?_) (fun h28 => ?_)
  ·refine s8 ?_
   have hlty : k < ul.length := by omega
   obtain ⟨bqy, pqy, rfl, hhu⟩ := huA (by intro e; subst e; simp at hlty)
   obtain ⟨y, hy⟩ : ∃ y, ul[k]'hlty = y := ⟨_, rfl⟩
   have hmy : y ∈ ul := by rw [← hy]; exact List.getElem_mem _
   refine kJ [(1, _), (2, _), (3, _), (8, _)] ?_
   refine s6 ?_
   refine aV (vHold rfl rfl (fun h => h) hhu hlty (by omega) (by rw [hy]; rfl)) ?_
   refine aCB (fun w hw => Has22 S y sv w (hS.up ES hw.bel)) ?_
   refine JL_dec (fun h37 => ?_) (fun h37 => ?_)
   ·refine s4 ?_
    refine kJ [] ?_
    refine s10 ?_
    refine JR_one rfl (rr_tmp rfl) ?_
    intro w' hw
    have e : firR ed S ⟨cn, cf, ct, ⟨fA, fl.length, fc, fl⟩, ⟨some ⟨bqy, pqy, none⟩, ul.length, uc, ul⟩, th⟩ = false := by unfold firR; dsimp only; rw [hany, List.drop_eq_getElem_cons hlty, hy, List.any_cons]; simp [h37]
    rw [e]; exact ⟨rfl, hw.bel⟩
   ·refine s6 ?_
    refine kJ [(1, _), (2, _), (3, _), (8, _)] ?_
    refine s5 ?_
    have hn : ul.any (fun x => decide (x ∈ S)) = (ul.drop (k + 1)).any (fun x => decide (x ∈ S)) := by rw [hany, List.drop_eq_getElem_cons hlty, hy, List.any_cons]; simp [h37]
    exact xR (k + 1) ⟨by omega, hn⟩ (by omega) (hl := ⟨rfl, rfl, rfl, (congrArg some (by go_num)), trivial⟩)
  ·refine s9 ?_
   refine kJ [(1, _), (3, _)] ?_
   refine s3 ?_
   refine aCB (fun w hw => Stands23 ⟨cn, cf, ct, ⟨fA, fl.length, fc, fl⟩, ⟨uA, ul.length, uc, ul⟩, th⟩ ed w) ?_
   refine s4 ?_
   refine JR_one rfl (rr_tmp rfl) ?_
   intro w' hw
   obtain rfl : k = ul.length := by omega
   have e : firR ed S ⟨cn, cf, ct, ⟨fA, fl.length, fc, fl⟩, ⟨uA, ul.length, uc, ul⟩, th⟩ = decide (cf ≤ ed ∧ ed ≤ ct) := by unfold firR; dsimp only; rw [hfa, hany, List.drop_length]; simp
   rw [e]; exact ⟨rfl, hw.bel⟩
end Go.Proofs.YtjkolebffbeeeaaGreatDoor

/- The document: joined; the law: spoil. -/
namespace Go.Proofs.YtjkolebffbeeeaaGreatDoor
open Go Go.RowKit Go.Proofs
attribute [local irreducible] J JQ JL JA JD

abbrev comS : ByteArray := ⟨#[44, 32]⟩
/-- Strings with a comma and a blank between. -/
def jnL : List ByteArray → ByteArray
 | [] => ⟨#[]⟩
 | x :: r => r.foldl (fun s y => (s ++ comS) ++ y) (⟨#[]⟩ ++ x)
theorem jnL_1 {l : List ByteArray} {y : ByteArray} (h : 0 < l.length) (hy : l[0]'h = y) : jnL (l.take 1) = ⟨#[]⟩ ++ y := by
 cases l with
 | nil => simp at h
 | cons x r => simp at hy; subst hy; rfl
theorem jnL_s {l : List ByteArray} {k : Nat} {y : ByteArray} (h0 : 0 < k) (h : k < l.length) (hy : l[k]'h = y) : jnL (l.take (k + 1)) = (jnL (l.take k) ++ comS) ++ y := by
 cases l with
 | nil => simp at h
 | cons x r =>
  obtain ⟨j, rfl⟩ : ∃ j, k = j + 1 := ⟨k - 1, by omega⟩
  have hj : j < r.length := by simpa using h
  rw [List.take_succ_cons, List.take_succ_cons, List.take_succ_eq_append_getElem hj]
  show (List.take j r ++ [r[j]]).foldl (fun s y => (s ++ comS) ++ y) (⟨#[]⟩ ++ x) = _
  rw [List.foldl_append]
  simp at hy
  rw [hy]; rfl
theorem jnL_len {l : List ByteArray} (hs : ∀ s ∈ l, s.size ≤ 32) : ∀ k, k ≤ l.length → (jnL (l.take k)).size ≤ 34 * k
 | 0, _ => by rw [List.take_zero]; exact Nat.le_refl _
 | k + 1, hk => by
  have ih := jnL_len hs k (by omega)
  have h1 := hs (l[k]'(by omega)) (List.getElem_mem _)
  by_cases h0 : 0 < k
  ·rw [jnL_s h0 (by omega) rfl, ByteArray.size_append, ByteArray.size_append]
   have : comS.size = 2 := rfl
   omega
  ·obtain rfl : k = 0 := by omega
   rw [jnL_1 (by omega) rfl, ByteArray.size_append]
   have : (⟨#[]⟩ : ByteArray).size = 0 := rfl
   omega
set_option maxRecDepth 100000 in
set_option maxHeartbeats 4000000 in
theorem joined53 (l : List ByteArray) (lA : Option Addr) (lc : Nat) (w : World) (hl : Arr 1 eS w (.slice lA l.length lc) l) (hn : l.length ≤ 1000) (hsz : ∀ s ∈ l, s.size ≤ 32) : Calls Tryz.prog 53 #[.slice lA l.length lc] w (Back (.string (jnL l)) w) := by
 obtain ⟨hlb, hlA⟩ := arr_parts hl
 refine J_enter (fun _ => False) (vs := [.slice lA l.length lc]) (k := 21) (l := [(0, .slice lA l.length lc)]) Tryz.func53 rfl rfl Tryz.ntmps53 rfl rfl (Wd.start _) ?_
 refine s17 ?_
 refine xL (T := Nat) (fun k => k ≤ l.length) (fun k => [(0, .slice lA l.length lc), (3, .string (jnL (l.take k))), (4, .int .i64 (k : Nat))]) (fun k => []) (fun k => l.length - k) 0 (Nat.zero_le _) ?_ (hl := ⟨rfl, rfl, rfl, trivial⟩)
 rintro k hk
 refine s7 ?_
 refine JL_dec (fun h8 => ?_) (fun h8 => ?_)
 ·refine s9 ?_
  have hlty : k < l.length := by omega
  obtain ⟨bqy, pqy, rfl, hhl⟩ := hlA (by intro e; subst e; simp at hlty)
  obtain ⟨y, hy⟩ : ∃ y, l[k]'hlty = y := ⟨_, rfl⟩
  have hmy : y ∈ l := by rw [← hy]; exact List.getElem_mem _
  have hz := jnL_len hsz k (by omega)
  have hy32 := hsz y hmy
  have hcz : ({ data := #[44, 32] } : ByteArray).size = 2 := rfl
  refine kJ [(0, _), (3, _), (4, _)] ?_
  refine s3 ?_
  refine JL_dec (fun h12 => ?_) (fun h12 => ?_)
  ·refine s9 ?_
   have hz2 : (jnL (l.take k) ++ ({ data := #[44, 32] } : ByteArray)).size = (jnL (l.take k)).size + 2 := by rw [ByteArray.size_append, hcz]
   refine kJ [(0, _), (3, _), (4, _)] ?_
   refine s5 ?_
   refine aV (vHold rfl rfl (fun h => h) hhl hlty (by omega) (by rw [hy]; rfl)) ?_
   refine s5 ?_
   refine kJ [(0, _), (3, _), (4, _)] ?_
   refine s5 ?_
   have hs : jnL (l.take (k + 1)) = (jnL (l.take k) ++ comS) ++ y := jnL_s (by omega) hlty hy
   exact xR (k + 1) (by omega) (by omega) (hl := ⟨rfl, (by rw [hs]; rfl), (congrArg some (by go_num)), trivial⟩)
  ·refine s5 ?_
   have hz2 : (jnL (l.take k) ++ ({ data := #[44, 32] } : ByteArray)).size = (jnL (l.take k)).size + 2 := by rw [ByteArray.size_append, hcz]
   refine s5 ?_
   refine aV (vHold rfl rfl (fun h => h) hhl hlty (by omega) (by rw [hy]; rfl)) ?_
   refine s5 ?_
   refine kJ [(0, _), (3, _), (4, _)] ?_
   refine s5 ?_
   obtain rfl : k = 0 := by omega
   have hs : jnL (l.take (0 + 1)) = jnL (l.take 0) ++ y := jnL_1 hlty hy
   exact xR (0 + 1) (by omega) (by omega) (hl := ⟨rfl, (by rw [hs]; rfl), (congrArg some (by go_num)), trivial⟩)
 ·refine s9 ?_
  refine kJ [(3, _)] ?_
  refine s6 ?_
  refine JR_one rfl (rr_tmp rfl) ?_
  intro w' hw
  obtain rfl : k = l.length := by omega
  rw [List.take_length]
  exact ⟨rfl, hw.bel⟩
end Go.Proofs.YtjkolebffbeeeaaGreatDoor
