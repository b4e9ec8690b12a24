import Derived.Test.YtjkolebffbeeeaaGreatDoorWg
import Derived.Test.YtjkolebffbeeeaaGreatDoorG9
/- What holds: which clauses fire, round by round. -/
namespace Go.Proofs.YtjkolebffbeeeaaGreatDoor
open Go Go.RowKit Go.Proofs
attribute [local irreducible] J JQ JL JA JD

/-! The plain model of what holds. -/
/-- What holds so far (the last first), the reasons, the order. -/
structure MS where
 S : List ByteArray
 R : LM
 O : List Int
def mkC (Bk : List Cl) (m : MS) (i : Nat) : MS := match Bk[i]? with
 | none => m
 | some c => if c.th ∈ m.S then m else ⟨c.th :: m.S, upd m.R c.th (i : Nat), m.O ++ [((i : Nat) : Int)]⟩
def mkL (Bk : List Cl) (m : MS) (l : List Nat) : MS := l.foldl (mkC Bk) m
def firB (ed : Int) (S : List ByteArray) (c : Cl) : Bool := decide (c.f ≤ ed ∧ ed ≤ c.t) && !decide (c.th ∈ S) && c.fs.l.all (fun x => decide (x ∈ S)) && !c.us.l.any (fun x => decide (x ∈ S))
/-- Whether clause i fires at a level. -/
def fiB (Bk : List Cl) (lv : LM) (n ed : Int) (S : List ByteArray) (i : Nat) : Bool := match Bk[i]? with
 | none => false
 | some c => decide (gM lv c.th = n) && firB ed S c
def firL (Bk : List Cl) (lv : LM) (n ed : Int) (S : List ByteArray) (k : Nat) : List Nat := (List.range k).filter (fiB Bk lv n ed S)
def rndF (Bk : List Cl) (lv : LM) (n ed : Int) : Nat → MS → MS
 | 0, m => m
 | k + 1, m => if firL Bk lv n ed m.S Bk.length = [] then m else rndF Bk lv n ed k (mkL Bk m (firL Bk lv n ed m.S Bk.length))
def muS (Bk : List Cl) (S : List ByteArray) : Nat := (Bk.filter (fun c => !decide (c.th ∈ S))).length
def levF (Bk : List Cl) (lv : LM) (ed : Int) (m : MS) (n : Nat) : MS := rndF Bk lv n ed (Bk.length + 1) m
def madF (Bk : List Cl) (lv : LM) (ed : Int) (k : Nat) (m : MS) : MS := (List.range k).foldl (levF Bk lv ed) m
theorem firL_s {Bk : List Cl} {lv : LM} {n ed : Int} {S : List ByteArray} {k : Nat} {c : Cl} (h : k < Bk.length) (hc : Bk[k]'h = c) : firL Bk lv n ed S (k + 1) = if gM lv c.th = n ∧ firB ed S c = true then firL Bk lv n ed S k ++ [k] else firL Bk lv n ed S k := by
 unfold firL
 rw [List.range_succ, List.filter_append]
 have e : fiB Bk lv n ed S k = (decide (gM lv c.th = n) && firB ed S c) := by unfold fiB; rw [List.getElem?_eq_getElem h, hc]
 by_cases h1 : gM lv c.th = n
 ·by_cases h2 : firB ed S c = true
  ·rw [if_pos ⟨h1, h2⟩]; simp [e, h1, h2]
  ·rw [if_neg (fun h => h2 h.2)]; simp [e, h1, h2]
 ·rw [if_neg (fun h => h1 h.1)]; simp [e, h1]
theorem firL_mem {Bk : List Cl} {lv : LM} {n ed : Int} {S : List ByteArray} {k i : Nat} (h : i ∈ firL Bk lv n ed S k) : i < k ∧ ∃ c, Bk[i]? = some c ∧ gM lv c.th = n ∧ firB ed S c = true := by
 unfold firL at h
 rw [List.mem_filter, List.mem_range] at h
 refine ⟨h.1, ?_⟩
 have h2 := h.2
 unfold fiB at h2
 cases hc : Bk[i]? with
 | none => rw [hc] at h2; cases h2
 | some c => rw [hc] at h2; simp at h2; exact ⟨c, rfl, h2.1, h2.2⟩
theorem mkC_sub (Bk : List Cl) (m : MS) (i : Nat) : ∀ x ∈ m.S, x ∈ (mkC Bk m i).S := by
 intro x hx; unfold mkC; split
 ·exact hx
 ·split
  ·exact hx
  ·exact List.mem_cons_of_mem _ hx
theorem mkL_sub (Bk : List Cl) : ∀ (l : List Nat) (m : MS), ∀ x ∈ m.S, x ∈ (mkL Bk m l).S
 | [], _, _, h => h
 | i :: l, m, x, h => mkL_sub Bk l (mkC Bk m i) x (mkC_sub Bk m i x h)
theorem mkC_has {Bk : List Cl} {m : MS} {i : Nat} {c : Cl} (h : Bk[i]? = some c) : c.th ∈ (mkC Bk m i).S := by
 unfold mkC; rw [h]; dsimp only; split
 ·assumption
 ·exact List.mem_cons_self
theorem muS_le {Bk : List Cl} {S S' : List ByteArray} (h : ∀ x ∈ S, x ∈ S') : muS Bk S' ≤ muS Bk S := by
 unfold muS
 induction Bk with
 | nil => exact Nat.le_refl _
 | cons c Bk ih =>
  rw [List.filter_cons, List.filter_cons]
  by_cases h1 : c.th ∈ S
  ·simp [h1, h _ h1, ih]
  ·by_cases h2 : c.th ∈ S'
   ·simp [h1, h2]; exact Nat.le_succ_of_le ih
   ·simp [h1, h2, ih]
theorem muS_lt {S S' : List ByteArray} (h : ∀ x ∈ S, x ∈ S') : ∀ {Bk : List Cl} {c : Cl}, c ∈ Bk → c.th ∉ S → c.th ∈ S' → muS Bk S' < muS Bk S
 | d :: Bk, c, hm, h1, h2 => by
  have hle := muS_le (Bk := Bk) h
  rcases List.mem_cons.1 hm with rfl | hm
  ·unfold muS at hle ⊢
   rw [List.filter_cons, List.filter_cons]
   simp [h1, h2]; omega
  ·have ih := muS_lt h hm h1 h2
   unfold muS at ih ⊢
   rw [List.filter_cons, List.filter_cons]
   by_cases h3 : d.th ∈ S
   ·simp [h3, h _ h3, ih]
   ·by_cases h4 : d.th ∈ S'
    ·simp [h3, h4]; omega
    ·simp [h3, h4, ih]
theorem muS_0 (Bk : List Cl) (S : List ByteArray) : muS Bk S ≤ Bk.length := List.length_filter_le _ _
/-- How much holds, at most. -/
theorem mkC_cnt {Bk : List Cl} {m : MS} {i : Nat} : (mkC Bk m i).S.length + muS Bk (mkC Bk m i).S ≤ m.S.length + muS Bk m.S := by
 unfold mkC
 cases hc : Bk[i]? with
 | none => exact Nat.le_refl _
 | some c =>
  dsimp only
  split
  ·exact Nat.le_refl _
  ·rename_i h
   have := muS_lt (S := m.S) (S' := c.th :: m.S) (fun x hx => List.mem_cons_of_mem _ hx) (List.mem_of_getElem? hc) h List.mem_cons_self
   dsimp only [List.length_cons]; omega
theorem mkL_cnt {Bk : List Cl} : ∀ (l : List Nat) (m : MS), (mkL Bk m l).S.length + muS Bk (mkL Bk m l).S ≤ m.S.length + muS Bk m.S
 | [], _ => Nat.le_refl _
 | i :: l, m => Nat.le_trans (mkL_cnt l (mkC Bk m i)) mkC_cnt
theorem mkL_dec {Bk : List Cl} {lv : LM} {n ed : Int} {m : MS} (h : firL Bk lv n ed m.S Bk.length ≠ []) : muS Bk (mkL Bk m (firL Bk lv n ed m.S Bk.length)).S < muS Bk m.S := by
 cases hl : firL Bk lv n ed m.S Bk.length with
 | nil => exact absurd hl h
 | cons i r =>
  obtain ⟨hi, c, hc, -, hf⟩ := firL_mem (i := i) (by rw [hl]; exact List.mem_cons_self)
  refine muS_lt (mkL_sub Bk (i :: r) m) (List.mem_of_getElem? hc) ?_ (mkL_sub Bk r _ _ (mkC_has hc))
  unfold firB at hf
  simp at hf
  exact hf.1.1.2
theorem mkL_s (Bk : List Cl) (m : MS) (l : List Nat) (k : Nat) (h : k < l.length) : mkL Bk m (l.take (k + 1)) = mkC Bk (mkL Bk m (l.take k)) (l[k]'h) := by
 unfold mkL; rw [List.take_succ_eq_append_getElem h, List.foldl_append]; rfl
theorem madF_s (Bk : List Cl) (lv : LM) (ed : Int) (k : Nat) (m : MS) : madF Bk lv ed (k + 1) m = levF Bk lv ed (madF Bk lv ed k m) k := by
 unfold madF; rw [List.range_succ, List.foldl_append]; rfl

set_option maxRecDepth 100000 in
set_option maxHeartbeats 4000000 in
theorem stands73 (c : Cl) (ed : Int) (w : World) : Calls Tryz.prog 73 #[Clv c, .int .i64 ed] w (Back (.bool (decide (c.f ≤ ed ∧ ed ≤ c.t))) w) := by
 refine J_enter (fun _ => False) (vs := [Clv c, .int .i64 ed]) (k := 9) (l := [(0, Clv c), (1, .int .i64 ed)]) Tryz.func73 rfl rfl Tryz.ntmps73 rfl rfl (Wd.start _) ?_
 refine s2 ?_
 refine aW (oX [_, _, _, _, _, _]) (fun b2 hb2 => ?_)
 refine s10 ?_
 refine aCB (fun w hw => within65 _ _ _ w) ?_
 refine s4 ?_
 refine JR_one rfl (rr_tmp rfl) ?_
 intro w' hw
 exact ⟨rfl, hw.bel⟩
set_option maxRecDepth 100000 in
set_option maxHeartbeats 4000000 in
theorem fires87 (c : Cl) (S : List ByteArray) (ed : Int) (wp bp hb gb rb : Nat) (ov : Value) (w : World) (hrec : (cellB wp [.pointer (some ⟨bp, 0, none⟩), .int .i64 ed, .map (some hb), .map (some gb), .map (some rb), ov] 71).holds w) (hS : (setB Tryz.prog 9 kS okS hb S).holds w) (hc : ClW w c) : Calls Tryz.prog 87 #[.pointer (some ⟨wp, 0, none⟩), Clv c] w (Back (.bool (firB ed S c)) w) := by
 refine J_enter (fun _ => False) (vs := [.pointer (some ⟨wp, 0, none⟩), Clv c]) (k := 38) (l := [(0, .pointer (some ⟨wp, 0, none⟩)), (1, Clv c)]) Tryz.func87 rfl rfl Tryz.ntmps87 rfl rfl (Wd.start _) ?_
 refine s2 ?_
 refine aW (oX [_, _, _, _, _, _]) (fun b3 hb3 => ?_)
 refine s4 ?_
 refine xD [0, 1, 2, 3, 4, 5] [0, 4, 10, 12, 13, 20, 22, 29, 31] ?_
 refine s4 ?_
 refine dL rfl (vOld rfl rfl (fun h => h) (cellB_get hrec rfl)) ?_
 refine dCB rfl (fun w hw => stands73 c ed w) ?_
 refine dDec (fun h10 => ?_) (fun h10 => ?_)
 ·refine dO [6, 7, 8, 9, 10, 11, 12, 13] ?_
  refine s4 ?_
  refine dL rfl (vOld rfl rfl (fun h => h) (cellB_get hrec rfl)) ?_
  refine s2 ?_
  refine dL rfl (rv_lookSO KS LBool c.th Und.h rfl rfl rfl (fun h => h) hS rfl hc.tk) ?_
  refine dDec (fun h18 => ?_) (fun h18 => ?_)
  ·refine dO [14, 15, 16, 17, 18, 19, 20, 21, 22, 23, 24, 25, 26, 27, 28, 29, 30, 31, 32, 33, 34, 35] ?_
   refine s25 ?_
   refine JR_one rfl (rr_tmp rfl) ?_
   intro w' hw
   have e : firB ed S c = false := by unfold firB; rw [decide_eq_true h10, decide_eq_true h18] <;> simp
   rw [e]; exact ⟨rfl, hw.bel⟩
  ·refine dO [14, 15, 16, 17, 18, 19, 20, 21, 22, 23] ?_
   refine s6 ?_
   refine dL rfl (vOld rfl rfl (fun h => h) (cellB_get hrec rfl)) ?_
   refine s2 ?_
   refine dCB rfl (fun w hw => all102 c.fs.l S _ hb w (setB_up hS hw.bel) (hc.up hw.bel).fs hc.fk) ?_
   refine dBool (fun h28 => ?_) (fun h28 => ?_)
   ·refine dO [24, 25, 26, 27, 28, 29, 30, 31, 32] ?_
    refine s5 ?_
    refine dL rfl (vOld rfl rfl (fun h => h) (cellB_get hrec rfl)) ?_
    refine s2 ?_
    refine dCB rfl (fun w hw => any64 c.us.l S _ hb w (setB_up hS hw.bel) (hc.up hw.bel).us hc.uk) ?_
    refine dBool (fun h37 => ?_) (fun h37 => ?_)
    ·refine dO [33, 34, 35] ?_
     refine s6 ?_
     refine JR_one rfl (rr_tmp rfl) ?_
     intro w' hw
     have e : firB ed S c = false := by unfold firB; rw [decide_eq_true h10, decide_eq_false h18, h28, h37] <;> simp
     rw [e]; exact ⟨rfl, hw.bel⟩
    ·refine dO [33, 34, 35] ?_
     refine s6 ?_
     refine JR_one rfl (rr_tmp rfl) ?_
     intro w' hw
     have e : firB ed S c = true := by unfold firB; rw [decide_eq_true h10, decide_eq_false h18, h28, h37] <;> simp
     rw [e]; exact ⟨rfl, hw.bel⟩
   ·refine dO [24, 25, 26, 27, 28, 29, 30, 31, 32, 33, 34, 35] ?_
    refine s15 ?_
    refine JR_one rfl (rr_tmp rfl) ?_
    intro w' hw
    have e : firB ed S c = false := by unfold firB; rw [decide_eq_true h10, decide_eq_false h18, h28] <;> simp
    rw [e]; exact ⟨rfl, hw.bel⟩
 ·refine dO [6, 7, 8, 9, 10, 11, 12, 13, 14, 15, 16, 17, 18, 19, 20, 21, 22, 23, 24, 25, 26, 27, 28, 29, 30, 31, 32, 33, 34, 35] ?_
  refine s33 ?_
  refine JR_one rfl (rr_tmp rfl) ?_
  intro w' hw
  have e : firB ed S c = false := by unfold firB; rw [decide_eq_false h10] <;> simp
  rw [e]; exact ⟨rfl, hw.bel⟩
end Go.Proofs.YtjkolebffbeeeaaGreatDoor

/- What holds: the rounds of a level. -/
namespace Go.Proofs.YtjkolebffbeeeaaGreatDoor
open Go Go.RowKit Go.Proofs
attribute [local irreducible] J JQ JL JA JD

/-- Numbers as the program has them. -/
def ints (l : List Nat) : List Int := l.map (fun i => ((i : Nat) : Int))
theorem firL_len (Bk : List Cl) (lv : LM) (n ed : Int) (S : List ByteArray) (k : Nat) : (ints (firL Bk lv n ed S k)).length ≤ k := by
 rw [show (ints (firL Bk lv n ed S k)).length = (firL Bk lv n ed S k).length from List.length_map _]
 exact Nat.le_trans (List.length_filter_le _ _) (by rw [List.length_range]; exact Nat.le_refl _)
theorem ints_len (l : List Nat) : (ints l).length = l.length := List.length_map _
/-- A world's state, with the row of its order. -/
structure RS where
 m : MS
 A : Option Addr
 c : Nat
abbrev bookB (bp : Nat) (BA : Option Addr) (bn bc lb : Nat) (top : Int) : It := cellB bp [.slice BA bn bc, .map (some lb), .int .i64 top] 84
abbrev recB (wp bp hb gb rb : Nat) (ed : Int) (t : RS) : It := cellB wp [.pointer (some ⟨bp, 0, none⟩), .int .i64 ed, .map (some hb), .map (some gb), .map (some rb), .slice t.A t.m.O.length t.c] 71

set_option maxRecDepth 100000 in
set_option maxHeartbeats 4000000 in
theorem rounds70 (wp : Nat) (n : Int) (w : World) : Calls Tryz.prog 70 #[.pointer (some ⟨wp, 0, none⟩), .int .i64 n] w (Ret w (fun _ : Nat × Nat => True) (fun t => .func (.func 86) #[] #[.pointer (some ⟨t.1, 0, none⟩), .pointer (some ⟨t.2, 0, none⟩)]) (fun t => [cellB t.1 [.pointer (some ⟨wp, 0, none⟩)] 60, cellB t.2 [.int .i64 n] 3])) := by
 refine J_enter (fun _ => False) (vs := [.pointer (some ⟨wp, 0, none⟩), .int .i64 n]) (k := 4) (l := [(0, .pointer (some ⟨wp, 0, none⟩)), (1, .int .i64 n)]) Tryz.func70 rfl rfl Tryz.ntmps70 rfl rfl (Wd.start _) ?_
 refine s2 ?_
 refine aW (oX [_]) (fun b2 hb2 => ?_)
 refine aW (oX [_]) (fun b3 hb3 => ?_)
 refine s10 ?_
 refine JR_one rfl (rr_tmp rfl) ?_
 intro w' hw
 exact ⟨(b2, b3), trivial, rfl, hw.pick (by repeat constructor)⟩
theorem YieldAt.mono' {F : Fence} {m : Nat} {P : Program} {l : Nat} {args : Array Value} {W : World} {R R' : Ending → World → Prop} (h : YieldAt F m P l args W R) (hR : ∀ e W, R e W → R' e W) : YieldAt F m P l args W R' := by
 obtain ⟨fn, tmps, assign, body, h1, h2⟩ := h
 exact ⟨fn, tmps, assign, body, h1, h2.mono hR⟩
set_option maxRecDepth 100000 in
set_option maxHeartbeats 4000000 in
theorem rounds86 (Bk : List Cl) (lv : LM) (BA : Option Addr) (bc lb : Nat) (top n ed : Int) (wp bp hb gb rb b2 b3 : Nat) (w0 : World) (E1 E2 : It) (φ : RS → Prop) (hbk : (bookB bp BA Bk.length bc lb top).holds w0) (hlv : (mapK Tryz.prog 9 3 kS okS dI lb (4096) lv).holds w0) (hB : Arr 6 eC w0 (.slice BA Bk.length bc) Bk) (hcl : ∀ c ∈ Bk, ClW w0 c) (hBl : Bk.length ≤ 64) : Itr Tryz.prog (T := RS) (Y := Option Addr × Nat × List Int) 86 #[.pointer (some ⟨b2, 0, none⟩), .pointer (some ⟨b3, 0, none⟩)] ⟨w0, fun _ => False, none, []⟩ φ (fun t X => [cellB b2 [.pointer (some ⟨wp, 0, none⟩)] 60, cellB b3 [.int .i64 n] 3, recB wp bp hb gb rb ed t, setB Tryz.prog 9 kS okS hb t.m.S, mapK Tryz.prog 9 3 kS okS dI rb (t.m.S.length) t.m.R, ownB 3 1 t.A t.m.O.length t.c (t.m.O.flatMap eI), E1, E2, X]) (fun t y => y.2.2 = (ints (firL Bk lv n ed t.m.S Bk.length)) ∧ y.2.2 ≠ []) (fun y => .slice y.1 y.2.2.length y.2.1) (fun t y X => [ownB 3 1 y.1 y.2.2.length y.2.1 (y.2.2.flatMap eI), cellB b2 [.pointer (some ⟨wp, 0, none⟩)] 60, cellB b3 [.int .i64 n] 3, recB wp bp hb gb rb ed t, setB Tryz.prog 9 kS okS hb t.m.S, mapK Tryz.prog 9 3 kS okS dI rb (t.m.S.length) t.m.R, ownB 3 1 t.A t.m.O.length t.c (t.m.O.flatMap eI), E1, E2, X]) (fun t t' => t'.m = mkL Bk t.m (firL Bk lv n ed t.m.S Bk.length)) (fun t => firL Bk lv n ed t.m.S Bk.length = []) := by
 intro lp X t0 W h0 hW hY
 obtain ⟨hBb, hBA⟩ := arr_partsC hB
 refine J_start (B := ⟨w0, fun _ => False, none, []⟩) rfl rfl (vs := [.func (.yield lp) #[] #[], .pointer (some ⟨b2, 0, none⟩), .pointer (some ⟨b3, 0, none⟩)]) (k := 48) (l := [(0, .func (.yield lp) #[] #[]), (1, .pointer (some ⟨b2, 0, none⟩)), (2, .pointer (some ⟨b3, 0, none⟩))]) Tryz.func86 rfl rfl Tryz.ntmps86 rfl rfl (hW) ?_
 refine s1 ?_
 refine xL (T := RS) (fun t => φ t) (fun t => [(0, .func (.yield lp) #[] #[]), (1, .pointer (some ⟨b2, 0, none⟩)), (2, .pointer (some ⟨b3, 0, none⟩))]) (fun t => [cellB b2 [.pointer (some ⟨wp, 0, none⟩)] 60, cellB b3 [.int .i64 n] 3, recB wp bp hb gb rb ed t, setB Tryz.prog 9 kS okS hb t.m.S, mapK Tryz.prog 9 3 kS okS dI rb (t.m.S.length) t.m.R, ownB 3 1 t.A t.m.O.length t.c (t.m.O.flatMap eI), E1, E2, X]) (fun t => muS Bk t.m.S) t0 h0 ?_
 rintro t ht
 refine s8 ?_
 refine J_own0 3 1 ?_
 refine s7 ?_
 refine aV (vOld rfl rfl (fun h => h) (cellB_get hbk rfl)) ?_
 refine s5 ?_
 refine xL (T := Nat × Option Addr × Nat) (fun q => q.1 ≤ Bk.length) (fun q => [(0, .func (.yield lp) #[] #[]), (1, .pointer (some ⟨b2, 0, none⟩)), (2, .pointer (some ⟨b3, 0, none⟩)), (4, .slice q.2.1 (ints (firL Bk lv n ed t.m.S q.1)).length q.2.2), (13, .slice BA Bk.length bc), (14, .int .i64 (Bk.length : Nat)), (15, .int .i64 (q.1 : Nat))]) (fun q => [ownB 3 1 q.2.1 (ints (firL Bk lv n ed t.m.S q.1)).length q.2.2 ((ints (firL Bk lv n ed t.m.S q.1)).flatMap eI), cellB b2 [.pointer (some ⟨wp, 0, none⟩)] 60, cellB b3 [.int .i64 n] 3, recB wp bp hb gb rb ed t, setB Tryz.prog 9 kS okS hb t.m.S, mapK Tryz.prog 9 3 kS okS dI rb (t.m.S.length) t.m.R, ownB 3 1 t.A t.m.O.length t.c (t.m.O.flatMap eI), E1, E2, X]) (fun q => Bk.length - q.1) (0, none, 0) (Nat.zero_le _) ?_
 rintro ⟨k, lA, lc⟩ hk
 dsimp only at hk ⊢
 refine s3 ?_
 refine JL_dec (fun h16 => ?_) (fun h16 => ?_)
 ·refine s9 ?_
  have hlt : k < Bk.length := by omega
  obtain ⟨bB, pB, rfl, hhB⟩ := hBA (by intro e; subst e; simp at hlt)
  obtain ⟨⟨cn, cf, ct, ⟨fA, fn, fc, fl⟩, ⟨uA, un, uc, ul⟩, th⟩, hc⟩ : ∃ c, Bk[k]'hlt = c := ⟨_, rfl⟩
  have hcm : (⟨cn, cf, ct, ⟨fA, fn, fc, fl⟩, ⟨uA, un, uc, ul⟩, th⟩ : Cl) ∈ Bk := by rw [← hc]; exact List.getElem_mem _
  obtain ⟨hfs, hus, hfk, huk, hnk, htk⟩ := hcl _ hcm
  obtain rfl : fn = fl.length := dv_nc hfs
  obtain rfl : un = ul.length := dv_nc hus
  dsimp only [Dv.v] at hfs hus hfk huk hnk htk
  obtain ⟨hfb, hfA⟩ := arr_parts hfs
  obtain ⟨hub, huA⟩ := arr_parts hus
  refine s3 ?_
  refine aV (vHoldA (cs := [.string cn, .int .i64 cf, .int .i64 ct, .slice fA fl.length fc, .slice uA ul.length uc, .string th]) EC6 rfl rfl (fun h => h) hhB hlt (by rw [hc]; rfl)) ?_
  refine aW oA (fun b6 hb6 => ?_)
  refine s5 ?_
  refine kJ [(0, _), (1, _), (2, _), (4, _), (5, _), (6, _), (13, _), (14, _), (15, _)] ?_
  refine xD [0, 1, 2, 3, 4, 5, 6, 7, 8, 9, 10, 11] [0, 3, 6, 8, 9, 10, 13, 14] ?_
  refine s6 ?_
  refine dL rfl (vOld rfl rfl (fun h => h) (cellB_get hbk rfl)) ?_
  refine s2 ?_
  refine dL rfl (rv_lookKO KS LI64 th Und.h rfl rfl rfl (fun h => h) hlv rfl htk) ?_
  refine s2 ?_
  refine dDec (fun h31 => ?_) (fun h31 => ?_)
  ·refine dO [12, 13, 14, 15] ?_
   refine s3 ?_
   refine dCB rfl (fun w hw => fires87 ⟨cn, cf, ct, ⟨fA, fl.length, fc, fl⟩, ⟨uA, ul.length, uc, ul⟩, th⟩ t.m.S ed wp bp hb gb rb _ w (hw.ok (recB wp bp hb gb rb ed t) (by repeat constructor)).1 (hw.ok (setB Tryz.prog 9 kS okS hb t.m.S) (by repeat constructor)).1 ((hcl _ hcm).up hw.bel)) ?_
   refine dBool (fun h35 => ?_) (fun h35 => ?_)
   ·refine dO [16] ?_
    refine s4 ?_
    have hll := firL_len Bk lv n ed t.m.S k
    refine kJ [(0, _), (1, _), (2, _), (4, _), (5, _), (13, _), (14, _), (15, _)] ?_
    refine s3 ?_
    refine aW (ow_sliceC (vs := [_]) (ty := 3) rfl rfl (by rfl) rfl rfl (fun _ => by kernel_rfl)) (fun b39 hb39 => ?_)
    refine aS (oApp (sl := 24) EI (((k : Nat) : Int))) (fun A40 c40 => ?_)
    refine s4 ?_
    refine kJ [(0, _), (1, _), (2, _), (4, _), (13, _), (14, _), (15, _)] ?_
    refine s4 ?_
    have hs : (ints (firL Bk lv n ed t.m.S (k + 1))) = (ints (firL Bk lv n ed t.m.S k)) ++ [((k : Nat) : Int)] := by rw [firL_s hlt hc, if_pos ⟨h31, h35⟩]; unfold ints; rw [List.map_append]; rfl
    exact xR (k + 1, A40, c40) (by dsimp only; omega) (by dsimp only; omega) (hl := ⟨rfl, rfl, rfl, (by dsimp only; rw [hs]; rfl), rfl, rfl, (congrArg some (by go_num)), trivial⟩) (hH := by (try dsimp only); rw [hs]; repeat constructor)
   ·refine dO [16] ?_
    refine s7 ?_
    refine kJ [(0, _), (1, _), (2, _), (4, _), (13, _), (14, _), (15, _)] ?_
    refine s4 ?_
    have hs : (ints (firL Bk lv n ed t.m.S (k + 1))) = (ints (firL Bk lv n ed t.m.S k)) := by rw [firL_s hlt hc, if_neg (fun h => by have := h.2; rw [h35] at this; cases this)]
    exact xR (k + 1, lA, lc) (by dsimp only; omega) (by dsimp only; omega) (hl := ⟨rfl, rfl, rfl, (by dsimp only; rw [hs]; rfl), rfl, rfl, (congrArg some (by go_num)), trivial⟩) (hH := by (try dsimp only); rw [hs]; repeat constructor)
  ·refine dO [12, 13, 14, 15, 16] ?_
   refine s11 ?_
   refine kJ [(0, _), (1, _), (2, _), (4, _), (13, _), (14, _), (15, _)] ?_
   refine s4 ?_
   have hs : (ints (firL Bk lv n ed t.m.S (k + 1))) = (ints (firL Bk lv n ed t.m.S k)) := by rw [firL_s hlt hc, if_neg (fun h => h31 h.1)]
   exact xR (k + 1, lA, lc) (by dsimp only; omega) (by dsimp only; omega) (hl := ⟨rfl, rfl, rfl, (by dsimp only; rw [hs]; rfl), rfl, rfl, (congrArg some (by go_num)), trivial⟩) (hH := by (try dsimp only); rw [hs]; repeat constructor)
 ·refine s10 ?_
  by_cases hne : (ints (firL Bk lv n ed t.m.S Bk.length)) = []
  ·obtain rfl : k = Bk.length := by omega
   refine kJ [(0, _), (1, _), (2, _), (4, _)] ?_
   refine s4 ?_
   refine aDecT ?_ (by rw [hne]; rfl)
   refine s13 ?_
   refine JR_none rfl ?_
   intro w' hw
   exact ⟨⟨_, rfl⟩, t, ht, by unfold ints at hne; exact List.map_eq_nil_iff.1 hne, hw.pick (by repeat constructor)⟩
  ·obtain rfl : k = Bk.length := by omega
   refine kJ [(0, _), (1, _), (2, _), (4, _)] ?_
   refine J_regI ?_
   refine iV (RP.rv (rp_move rfl rfl)) ?_
   refine iV (RP.rv gCall) ?_
   refine iV (RP.rv gBin) ?_
   refine iKF (p := ((((ints (firL Bk lv n ed t.m.S Bk.length))).length : Nat) : Int) = 0) (by have := List.length_pos_iff.2 hne; omega) ?_
   refine iV (RP.rv (rp_move rfl rfl)) ?_
   refine iV (RP.rv (rp_move rfl rfl)) ?_
   refine iV (RP.rv (rp_move rfl rfl)) ?_
   refine iY (T := RS) (φ := fun t' => t'.m = mkL Bk t.m (firL Bk lv n ed t.m.S Bk.length) ∧ φ t') (HH := fun t' => [cellB b2 [.pointer (some ⟨wp, 0, none⟩)] 60, cellB b3 [.int .i64 n] 3, recB wp bp hb gb rb ed t', setB Tryz.prog 9 kS okS hb t'.m.S, mapK Tryz.prog 9 3 kS okS dI rb (t'.m.S.length) t'.m.R, ownB 3 1 t'.A t'.m.O.length t'.c (t'.m.O.flatMap eI), E1, E2, X]) (fun W1 hW1 m => YieldAt.mono' (hY t (lA, lc, (ints (firL Bk lv n ed t.m.S Bk.length))) W1 ht ⟨rfl, hne⟩ (hW1.pick (by repeat constructor)) m) (fun e W2 h => ⟨h.1, h.2.imp fun t' h => ⟨⟨h.1, h.2.1⟩, h.2.2⟩⟩)) (fun t' ht'' => ?_)
   obtain ⟨hRn, ht'⟩ := ht''
   refine iV (RP.rv (pNot rfl rfl)) ?_
   refine iV (RP.rv pAny) ?_
   refine iN ?_
   refine s4 ?_
   exact xR t' ht' (by have := mkL_dec (Bk := Bk) (lv := lv) (n := n) (ed := ed) (m := t.m) (fun e => hne (by rw [e]; rfl)); rw [hRn]; omega)
end Go.Proofs.YtjkolebffbeeeaaGreatDoor

/- What holds by a book, in an edition: made. -/
namespace Go.Proofs.YtjkolebffbeeeaaGreatDoor
open Go Go.RowKit Go.Proofs
attribute [local irreducible] J JQ JL JA JD

structure MdT where
 wp : Nat
 hb : Nat
 gb : Nat
 rb : Nat
 t : RS
/-- What is asked is asked well. -/
def askB (ed : Int) (l : List ByteArray) : Bool := decide (0 ≤ ed ∧ ed ≤ 1000) && namesB l 64
def MdP (Bk : List Cl) (lv : LM) (tp : Nat) (ed : Int) (fl0 : List ByteArray) (t : MdT) : Prop := t.t.m = madF Bk lv ed (tp + 1) ⟨fl0.reverse, fun _ => none, []⟩ ∧ t.t.m.S.length ≤ 128 ∧ t.t.m.O.length ≤ t.t.m.S.length
def MdG (bp : Nat) (ed : Int) (fl0 : List ByteArray) (t : MdT) : List It := [recB t.wp bp t.hb t.gb t.rb ed t.t, setB Tryz.prog 9 kS okS t.hb t.t.m.S, mapK Tryz.prog 9 3 kS okS dI t.rb (t.t.m.S.length) t.t.m.R, ownB 3 1 t.t.A t.t.m.O.length t.t.c (t.t.m.O.flatMap eI), setB Tryz.prog 9 kS okS t.gb fl0.reverse]
def RetMd (Bk : List Cl) (lv : LM) (tp : Nat) (bp : Nat) (ed : Int) (fl0 : List ByteArray) (w : World) (e : Ending) (w' : World) : Prop := if askB ed fl0 = true then Ret w (MdP Bk lv tp ed fl0) (fun t => .pointer (some ⟨t.wp, 0, none⟩)) (MdG bp ed fl0) e w' else Fails (-1) 2 w e w'

set_option maxRecDepth 100000 in
set_option maxHeartbeats 4000000 in
theorem made40 (Bk : List Cl) (lv : LM) (BA : Option Addr) (bc lb tp bp : Nat) (ed : Int) (fl0 : List ByteArray) (fA0 : Option Addr) (fc0 : Nat) (w : World) (hbk : (bookB bp BA Bk.length bc lb (tp : Nat)).holds w) (hlv : (mapK Tryz.prog 9 3 kS okS dI lb (4096) lv).holds w) (hB : Arr 6 eC w (.slice BA Bk.length bc) Bk) (hcl : ∀ c ∈ Bk, ClW w c) (hBl : Bk.length ≤ 64) (htp : tp ≤ 64) (hfl : Arr 1 eS w (.slice fA0 fl0.length fc0) fl0) (hok : ∀ s ∈ fl0, okS s) : Calls Tryz.prog 40 #[.pointer (some ⟨bp, 0, none⟩), .int .i64 ed, .slice fA0 fl0.length fc0] w (RetMd Bk lv tp bp ed fl0 w) := by
 obtain ⟨hBb, hBA⟩ := arr_partsC hB
 refine J_startM (B := bs w) rfl rfl (vs := [.pointer (some ⟨bp, 0, none⟩), .int .i64 ed, .slice fA0 fl0.length fc0]) (k := 89) (l := [(0, .pointer (some ⟨bp, 0, none⟩)), (1, .int .i64 ed), (2, .slice fA0 fl0.length fc0)]) Tryz.func40 rfl rfl Tryz.ntmps40 rfl rfl (Wd.start (bs w)) ?_
 refine s8 ?_
 refine aCB (fun w hw => within65 _ _ _ w) ?_
 refine JL_dec (fun h14 => ?_) (fun h14 => ?_)
 ·refine s2 ?_
  refine aCB (fun w hw => rising62 fl0 64 _ w (hfl.up ES hw.bel) hok) ?_
  refine JL_bool (fun h17 => ?_) (fun h17 => ?_)
  ·refine s1 ?_
   refine aCB (fun w hw => need_yes _ _ w) ?_
   refine s3 ?_
   have hfn := namesB_len h17
   have hll : fl0.length ≤ 64 := by omega
   refine kJ [(0, _), (1, _), (2, _)] ?_
   refine s4 ?_
   refine aW (oR (fun w hw => of63 fl0 _ w (hfl.up ES hw.bel) hok (by omega))) (fun b23 _ => ?_)
   refine s1 ?_
   refine aW (oR (fun w hw => of63 fl0 _ w (hfl.up ES hw.bel) hok (by omega))) (fun b25 _ => ?_)
   refine aW (ow_makeK (kt := 9) (e := 3) (kv := kS) (ok := okS) (ed := dI) rfl rfl rfl (fun _ => by kernel_rfl)) (fun b26 hb26 => ?_)
   refine aP (rp_buildC (fun us => [us.getD 0 undef, us.getD 1 undef, us.getD 2 undef, us.getD 3 undef, us.getD 4 undef, .slice none 0 0]) rfl rfl (fun w => by kernel_rfl)) ?_
   refine aW (oX [_, _, _, _, _, _]) (fun b28 hb28 => ?_)
   refine aW oA (fun b7 hb7 => ?_)
   refine s5 ?_
   refine J_own0 3 1 ?_
   refine J_defs ?_
   refine J_leK (k' := fl0.reverse.length) (by repeat constructor) (Nat.zero_le _) ?_
   refine kJ [(0, _), (7, _)] ?_
   refine s4 ?_
   refine aV (vOld rfl rfl (fun h => h) (cellB_get hbk rfl)) ?_
   refine s5 ?_
   refine J_loopD (T := Nat × RS × List Nat) (fun q => ⟨w, fun _ => False, none, q.2.2.map mark⟩) (r := none) (fun _ => rfl) (fun q => q.1 ≤ tp + 1 ∧ q.2.1.m = madF Bk lv ed q.1 ⟨fl0.reverse, fun _ => none, []⟩ ∧ q.2.1.m.S.length + muS Bk q.2.1.m.S ≤ 128 ∧ q.2.1.m.O.length ≤ q.2.1.m.S.length) (fun q => [(0, .pointer (some ⟨bp, 0, none⟩)), (7, .pointer (some ⟨b7, 0, none⟩)), (33, .int .i64 ((tp : Nat) + 1)), (34, .int .i64 (q.1 : Nat))]) (fun q => [recB b28 bp b23 b25 b26 ed q.2.1, setB Tryz.prog 9 kS okS b23 q.2.1.m.S, mapK Tryz.prog 9 3 kS okS dI b26 (q.2.1.m.S.length) q.2.1.m.R, ownB 3 1 q.2.1.A q.2.1.m.O.length q.2.1.c (q.2.1.m.O.flatMap eI), cellB b7 [.pointer (some ⟨b28, 0, none⟩)] 60, setB Tryz.prog 9 kS okS b25 fl0.reverse, defsB q.2.2]) (fun q => tp + 1 - q.1) (0, ⟨⟨fl0.reverse, fun _ => none, []⟩, none, 0⟩, []) ⟨Nat.zero_le _, rfl, by dsimp only; rw [List.length_reverse]; have := muS_0 Bk fl0.reverse; omega, Nat.zero_le _⟩ (by exact cov) (by repeat constructor) ?_
   rintro ⟨k, t0, Ds⟩ ⟨hk, hm0, hc1, hc2⟩
   dsimp only at hk hm0 hc1 hc2 ⊢
   refine s3 ?_
   refine JL_dec (fun h35 => ?_) (fun h35 => ?_)
   ·refine s18 ?_
    refine aW (oR (fun w hw => rounds70 b28 (k : Nat) w)) (fun t39 _ => ?_)
    obtain ⟨cw1, cw2⟩ := t39
    dsimp only
    refine s3 ?_
    refine kJ [(0, _), (7, _), (33, _), (34, _), (39, _)] ?_
    refine J_range (T := RS) (Y := Option Addr × Nat × List Int) (p := 40) (fun t => (∃ j, levF Bk lv ed (madF Bk lv ed k ⟨fl0.reverse, fun _ => none, []⟩) k = rndF Bk lv ((k : Nat) : Int) ed j t.m ∧ muS Bk t.m.S < j) ∧ t.m.S.length + muS Bk t.m.S ≤ 128 ∧ t.m.O.length ≤ t.m.S.length) (fun t X => [cellB cw1 [.pointer (some ⟨b28, 0, none⟩)] 60, cellB cw2 [.int .i64 (k : Nat)] 3, recB b28 bp b23 b25 b26 ed t, setB Tryz.prog 9 kS okS b23 t.m.S, mapK Tryz.prog 9 3 kS okS dI b26 (t.m.S.length) t.m.R, ownB 3 1 t.A t.m.O.length t.c (t.m.O.flatMap eI), cellB b7 [.pointer (some ⟨b28, 0, none⟩)] 60, setB Tryz.prog 9 kS okS b25 fl0.reverse, X]) (fun t y => y.2.2 = ints (firL Bk lv ((k : Nat) : Int) ed t.m.S Bk.length) ∧ y.2.2 ≠ []) (fun y => .slice y.1 y.2.2.length y.2.1) (fun t y X => [ownB 3 1 y.1 y.2.2.length y.2.1 (y.2.2.flatMap eI), cellB cw1 [.pointer (some ⟨b28, 0, none⟩)] 60, cellB cw2 [.int .i64 (k : Nat)] 3, recB b28 bp b23 b25 b26 ed t, setB Tryz.prog 9 kS okS b23 t.m.S, mapK Tryz.prog 9 3 kS okS dI b26 (t.m.S.length) t.m.R, ownB 3 1 t.A t.m.O.length t.c (t.m.O.flatMap eI), cellB b7 [.pointer (some ⟨b28, 0, none⟩)] 60, setB Tryz.prog 9 kS okS b25 fl0.reverse, X]) (fun t t' => t'.m = mkL Bk t.m (firL Bk lv ((k : Nat) : Int) ed t.m.S Bk.length)) (fun t => (firL Bk lv ((k : Nat) : Int) ed t.m.S Bk.length) = []) (fun y => [(7, .pointer (some ⟨b7, 0, none⟩)), (9, .slice y.1 y.2.2.length y.2.1)]) (rounds86 Bk lv BA bc lb tp (k : Nat) ed b28 bp b23 b25 b26 cw1 cw2 w (cellB b7 [.pointer (some ⟨b28, 0, none⟩)] 60) (setB Tryz.prog 9 kS okS b25 fl0.reverse) _ hbk hlv hB hcl hBl) (t0) (⟨⟨Bk.length + 1, by rw [hm0]; rfl, by have := muS_0 Bk t0.m.S; omega⟩, hc1, hc2⟩) ?_ ?_ ?_
    ·rintro lp t ⟨yA, yc, yl⟩ X ⟨hfu, ht2⟩ ⟨hy1, hy2⟩
     dsimp only at hy1 hy2 ⊢
     refine kJ [(7, _), (40, _)] ?_
     refine s3 ?_
     exact xE () trivial
    ·rintro lp t ⟨yA, yc, yl⟩ X ⟨hfu, ht2⟩ ⟨hy1, hy2⟩
     dsimp only at hy1 hy2 ⊢
     refine s9 ?_
     refine xL (T := Nat × RS) (fun q => q.1 ≤ yl.length ∧ q.2.m = mkL Bk t.m ((firL Bk lv ((k : Nat) : Int) ed t.m.S Bk.length).take q.1) ∧ q.2.m.S.length + muS Bk q.2.m.S ≤ 128 ∧ q.2.m.O.length ≤ q.2.m.S.length) (fun q => [(7, .pointer (some ⟨b7, 0, none⟩)), (41, .slice yA yl.length yc), (42, .int .i64 (yl.length : Nat)), (43, .int .i64 (q.1 : Nat))]) (fun q => [ownB 3 1 yA yl.length yc (yl.flatMap eI), cellB cw1 [.pointer (some ⟨b28, 0, none⟩)] 60, cellB cw2 [.int .i64 (k : Nat)] 3, recB b28 bp b23 b25 b26 ed q.2, setB Tryz.prog 9 kS okS b23 q.2.m.S, mapK Tryz.prog 9 3 kS okS dI b26 (q.2.m.S.length) q.2.m.R, ownB 3 1 q.2.A q.2.m.O.length q.2.c (q.2.m.O.flatMap eI), cellB b7 [.pointer (some ⟨b28, 0, none⟩)] 60, setB Tryz.prog 9 kS okS b25 fl0.reverse, X]) (fun q => yl.length - q.1) (0, t) ⟨Nat.zero_le _, rfl, ht2⟩ ?_
     rintro ⟨j, t1⟩ ⟨hj, hm1, hd1, hd2⟩
     dsimp only at hj hm1 hd1 hd2 ⊢
     refine s3 ?_
     refine JL_dec (fun h44 => ?_) (fun h44 => ?_)
     ·refine s9 ?_
      have hltj : j < yl.length := by omega
      have hyb : yl.length ≤ Bk.length := by rw [hy1]; exact firL_len _ _ _ _ _ _
      refine J_fact (fun hw => ?_)
      obtain ⟨yg, rfl⟩ := own_some hw (ty := 3) (k := 1) (m := yl.length) (c := yc) (A := yA) (xs := yl.flatMap eI) (by repeat constructor) (by omega)
      clear hw
      have hjl : j < (firL Bk lv ((k : Nat) : Int) ed t.m.S Bk.length).length := by rw [← ints_len, ← hy1]; exact hltj
      obtain ⟨i, hi⟩ : ∃ i, (firL Bk lv ((k : Nat) : Int) ed t.m.S Bk.length)[j]'hjl = i := ⟨_, rfl⟩
      have hij : yl[j]'hltj = ((i : Nat) : Int) := by
       simp only [hy1, ints, List.getElem_map, hi]
      obtain ⟨hib, cc, hci, -⟩ := firL_mem (i := i) (by rw [← hi]; exact List.getElem_mem _)
      have hlt : i < Bk.length := by omega
      obtain ⟨bB, pB, rfl, hhB⟩ := hBA (by intro e; subst e; simp at hlt)
      obtain ⟨⟨cn, cf, ct, ⟨fA, fn, fc, fl⟩, ⟨uA, un, uc, ul⟩, th⟩, hc⟩ : ∃ c, Bk[i]'hlt = c := ⟨_, rfl⟩
      have hcm : (⟨cn, cf, ct, ⟨fA, fn, fc, fl⟩, ⟨uA, un, uc, ul⟩, th⟩ : Cl) ∈ Bk := by rw [← hc]; exact List.getElem_mem _
      obtain ⟨hfs, hus, hfk, huk, hnk, htk⟩ := hcl _ hcm
      obtain rfl : fn = fl.length := dv_nc hfs
      obtain rfl : un = ul.length := dv_nc hus
      dsimp only [Dv.v] at hfs hus hfk huk hnk htk
      obtain ⟨hfb, hfA⟩ := arr_parts hfs
      obtain ⟨hub, huA⟩ := arr_parts hus
      obtain rfl : cc = ⟨cn, cf, ct, ⟨fA, fl.length, fc, fl⟩, ⟨uA, ul.length, uc, ul⟩, th⟩ := by rw [List.getElem?_eq_getElem hlt, hc] at hci; exact (Option.some.inj hci).symm
      refine s2 ?_
      refine aV (vOwn EI rfl rfl (by repeat constructor) hltj (by omega) (by rw [hij]; rfl)) ?_
      refine s11 ?_
      refine aV (vOld rfl rfl (fun h => h) (cellB_get hbk rfl)) ?_
      refine s3 ?_
      refine aV (vHold rfl rfl (fun h => h) hhB hlt (by omega) (by rw [hc]; rfl)) ?_
      refine s5 ?_
      refine kJ [(7, _), (11, _), (12, _), (41, _), (42, _), (43, _)] ?_
      refine s6 ?_
      refine aV (rv_lookS KS LBool th Und.h rfl rfl rfl (by repeat constructor) rfl htk) ?_
      refine JL_dec (fun h63 => ?_) (fun h63 => ?_)
      ·refine s7 ?_
       refine kJ [(7, _), (41, _), (42, _), (43, _)] ?_
       refine s4 ?_
       have hs : mkL Bk t.m ((firL Bk lv ((k : Nat) : Int) ed t.m.S Bk.length).take (j + 1)) = t1.m := by rw [mkL_s Bk t.m _ j hjl, ← hm1, hi]; unfold mkC; rw [hci]; dsimp only; rw [if_pos h63]
       exact xR (j + 1, t1) ⟨by dsimp only; omega, hs.symm, hd1, hd2⟩ (by dsimp only; omega) (hl := ⟨rfl, rfl, rfl, (congrArg some (by go_num)), trivial⟩)
      ·refine s6 ?_
       refine J_setK (b := b23) (S := t1.m.S) (by repeat constructor) ?_
       refine kJ [(7, _), (11, _), (12, _), (41, _), (42, _), (43, _)] ?_
       refine xDx [0, 1, 2, 3, 4, 5, 6, 7, 8, 9, 10, 11, 12, 13, 14, 15, 16] [3, 8] [0, 5] [cellB b7 [.pointer (some ⟨b28, 0, none⟩)] 60] ?_
       refine s11 ?_
       refine dW rfl (ow_entK (okE := fun _ => True) (m'' := (th :: t1.m.S).length) (WideMaps.string_law Und.h) KS LBool th Und.h rfl rfl rfl rfl rfl rfl (by intro s; repeat constructor) htk (by omega) (Nat.le_refl _)) (fun t75 _ => ?_)
       refine s1 ?_
       refine dW0 rfl (ow_entStore true rfl rfl rfl rfl rfl rfl trivial (by repeat constructor)) ?_
       refine dW rfl (ow_entK (okE := W64) (m'' := (th :: t1.m.S).length) (WideMaps.string_law Und.h) KS LI64 th Und.h rfl rfl rfl rfl rfl rfl (by intro s; repeat constructor) htk (by omega) (Nat.le_refl _)) (fun t77 _ => ?_)
       refine s1 ?_
       refine dW0 rfl (ow_entStore ((i : Nat) : Int) rfl rfl rfl rfl rfl rfl (show W64 ((i : Nat) : Int) by unfold W64; omega) (by repeat constructor)) ?_
       refine s2 ?_
       refine J_kSet (b := b23) (S := t1.m.S) (x := th) (by repeat constructor) ?_
       refine kJ [(7, _), (11, _), (41, _), (42, _), (43, _)] ?_
       refine xDx [0, 1, 2, 3, 4, 5, 6, 7, 8, 9, 10] [4] [0, 1] [cellB b7 [.pointer (some ⟨b28, 0, none⟩)] 60] ?_
       refine s6 ?_
       refine dW rfl (ow_sliceC (vs := [_]) (ty := 3) rfl rfl (by rfl) rfl rfl (fun _ => by kernel_rfl)) (fun b85 hb85 => ?_)
       refine dS rfl (oApp (sl := 24) EI (((i : Nat) : Int))) (fun A86 c86 => ?_)
       refine s6 ?_
       refine kJ [(7, _), (41, _), (42, _), (43, _)] ?_
       refine s4 ?_
       have hs : mkL Bk t.m ((firL Bk lv ((k : Nat) : Int) ed t.m.S Bk.length).take (j + 1)) = ⟨th :: t1.m.S, upd t1.m.R th ((i : Nat) : Int), t1.m.O ++ [((i : Nat) : Int)]⟩ := by rw [mkL_s Bk t.m _ j hjl, ← hm1, hi]; unfold mkC; rw [hci]; dsimp only; rw [if_neg h63]
       exact xR (j + 1, ⟨⟨th :: t1.m.S, upd t1.m.R th ((i : Nat) : Int), t1.m.O ++ [((i : Nat) : Int)]⟩, A86, c86⟩) ⟨by dsimp only; omega, hs.symm, by dsimp only [List.length_cons]; have := muS_lt (S := t1.m.S) (S' := th :: t1.m.S) (fun x hx => List.mem_cons_of_mem _ hx) hcm h63 List.mem_cons_self; omega, by dsimp only; rw [List.length_append, List.length_cons]; simp; exact hd2⟩ (by dsimp only; omega) (hl := ⟨rfl, rfl, rfl, (congrArg some (by go_num)), trivial⟩)
     ·refine s9 ?_
      obtain rfl : j = yl.length := by omega
      have hl : yl.length = (firL Bk lv ((k : Nat) : Int) ed t.m.S Bk.length).length := by rw [hy1]; exact ints_len _
      rw [hl, List.take_length] at hm1
      obtain ⟨f, hf1, hf2⟩ := hfu
      obtain ⟨f, rfl⟩ : ∃ i, f = i + 1 := ⟨f - 1, by omega⟩
      have hne : (firL Bk lv ((k : Nat) : Int) ed t.m.S Bk.length) ≠ [] := fun h => hy2 (by rw [hy1, h]; rfl)
      have hdec := mkL_dec hne
      refine xE t1 ⟨hm1, ⟨f, ?_, by rw [hm1]; omega⟩, hd1, hd2⟩
      rw [hf1, hm1]; show (if _ then _ else _) = _; rw [if_neg hne]
    ·rintro D t ⟨hfu, hc3, hc4⟩ hfin
     refine s7 ?_
     refine JQ_round (B := fun q : Nat × RS × List Nat => ⟨w, fun _ => False, none, q.2.2.map mark⟩) (k + 1, t, D :: Ds) ⟨by dsimp only; omega, ?_, hc3, hc4⟩ (by dsimp only; omega) (by exact cov) (by repeat constructor)
     dsimp only
     rw [madF_s]
     obtain ⟨j, hj1, hj2⟩ := hfu
     obtain ⟨j, rfl⟩ : ∃ i, j = i + 1 := ⟨j - 1, by omega⟩
     rw [hj1]
     unfold rndF
     rw [if_pos hfin]
   ·refine s10 ?_
    refine kJ [(7, _)] ?_
    refine s6 ?_
    refine JR_marks (fun X => [recB b28 bp b23 b25 b26 ed t0, setB Tryz.prog 9 kS okS b23 t0.m.S, mapK Tryz.prog 9 3 kS okS dI b26 (t0.m.S.length) t0.m.R, ownB 3 1 t0.A t0.m.O.length t0.c (t0.m.O.flatMap eI), cellB b7 [.pointer (some ⟨b28, 0, none⟩)] 60, setB Tryz.prog 9 kS okS b25 fl0.reverse, X]) rfl (fun _ => rr_tmp rfl) ?_
    intro w' hw
    obtain rfl : k = tp + 1 := by omega
    unfold RetMd
    rw [if_pos (by unfold askB; rw [decide_eq_true h14, h17]; rfl)]
    exact ⟨⟨b28, b23, b25, b26, t0⟩, ⟨hm0, by have := hc1; dsimp only; omega, hc2⟩, rfl, (hw.un (r' := none) (d' := [])).pick (by unfold MdG; repeat constructor)⟩
  ·refine s1 ?_
   refine aPan (ecF rfl rfl) (fun w hw => need_no _ _ w) ?_
   refine s1 ?_
   refine JR_panicM ?_
   intro w' hw
   unfold RetMd
   rw [if_neg (by unfold askB; rw [h17, Bool.and_false]; simp)]
   exact ⟨rfl, hw.bel⟩
 ·refine s4 ?_
  refine aPan (ecF rfl rfl) (fun w hw => need_no _ _ w) ?_
  refine s1 ?_
  refine JR_panicM ?_
  intro w' hw
  unfold RetMd
  rw [if_neg (by unfold askB; rw [decide_eq_false h14]; simp)]
  exact ⟨rfl, hw.bel⟩
end Go.Proofs.YtjkolebffbeeeaaGreatDoor
