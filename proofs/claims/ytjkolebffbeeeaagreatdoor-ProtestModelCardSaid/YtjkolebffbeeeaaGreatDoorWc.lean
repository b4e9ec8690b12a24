/- Names, lists of names, sets, clauses: the program and the document. -/
import Derived.Test.YtjkolebffbeeeaaGreatDoorWb
import Derived.Test.YtjkolebffbeeeaaGreatDoorTrim
namespace Go.Proofs.YtjkolebffbeeeaaGreatDoor
open Go Go.RowKit Go.Proofs
attribute [local irreducible] J JQ JL JA JD

open Go.Shelf
/-- What a name is made of. -/
def cutS : List UInt8 := [97, 98, 99, 100, 101, 102, 103, 104, 105, 106, 107, 108, 109, 110, 111, 112, 113, 114, 115, 116, 117, 118, 119, 120, 121, 122, 48, 49, 50, 51, 52, 53, 54, 55, 56, 57, 45]
theorem cut_iff (c : UInt8) : cutS.contains c = ncB c := by
 have h : ∀ n : Fin 256, cutS.contains (UInt8.ofNat n.1) = ncB (UInt8.ofNat n.1) := by decide +kernel
 have := h ⟨c.toNat, c.toNat_lt⟩
 simpa using this
theorem dw_all {α : Type} (p : α → Bool) : ∀ m : List α, (m.dropWhile p).all p = m.all p
 | [] => rfl
 | x :: m => by
  rw [List.dropWhile_cons]
  cases h : p x
  ·simp [h]
  ·simp [h, dw_all p m]
theorem dw_nil {α : Type} (p : α → Bool) : ∀ m : List α, m.dropWhile p = [] ↔ m.all p = true
 | [] => by simp
 | x :: m => by
  rw [List.dropWhile_cons]
  cases h : p x
  ·simp [h]
  ·simp [h, dw_nil p m]
theorem trim_nil (s : List UInt8) : Lib.trimS s cutS = [] ↔ s.all ncB = true := by
 have e : (cutS.contains ·) = ncB := funext cut_iff
 unfold Lib.trimS Lib.trimLeftS Lib.trimRightS
 rw [e, dw_nil, List.all_reverse, dw_all, List.all_reverse]
theorem cut_ascii (j : Nat) (b : UInt8) (h : (⟨cutS.toArray⟩ : ByteArray).data.toList[j]? = some b) : b.toNat < 128 := by
 have h1 : ∀ c ∈ cutS, c.toNat < 128 := by decide
 exact h1 b (List.mem_of_getElem? h)
/-- A clause: its parts are slices of strings. -/
structure Cl where
 n : ByteArray
 f : Int
 t : Int
 fs : Dv ByteArray
 us : Dv ByteArray
 th : ByteArray
def eC (c : Cl) : List Value := [.string c.n, .int .i64 c.f, .int .i64 c.t, c.fs.v, c.us.v, .string c.th]
abbrev Clv (c : Cl) : Value := .agg #[.string c.n, .int .i64 c.f, .int .i64 c.t, c.fs.v, c.us.v, .string c.th]
theorem EC6 : Enc 6 eC := ⟨fun _ => rfl, fun x v h => by simp [eC, Dv.v] at h; rcases h with rfl | rfl | rfl | rfl | rfl | rfl <;> rfl⟩
structure ClW (w : World) (c : Cl) : Prop where
 fs : Arr 1 eS w c.fs.v c.fs.l
 us : Arr 1 eS w c.us.v c.us.l
 fk : ∀ s ∈ c.fs.l, okS s
 uk : ∀ s ∈ c.us.l, okS s
 nk : okS c.n
 tk : okS c.th
theorem ClW.up {w w' : World} {c : Cl} (h : ClW w c) (hb : Below w.heap.size w w') : ClW w' c := ⟨h.fs.up ES hb, h.us.up ES hb, h.fk, h.uk, h.nk, h.tk⟩
def clB (c : Cl) : Bool := nameB c.n && nameB c.th && decide (0 ≤ c.f ∧ c.f ≤ c.t) && decide (c.t ≤ 1000) && namesB c.fs.l 8 && namesB c.us.l 8 && !c.fs.l.any (fun x => decide (x ∈ c.us.l))
theorem any_comm (l m : List ByteArray) : l.any (fun x => decide (x ∈ m)) = m.any (fun x => decide (x ∈ l)) := by
 rw [Bool.eq_iff_iff, List.any_eq_true, List.any_eq_true]
 simp only [decide_eq_true_eq]
 exact ⟨fun ⟨x, h1, h2⟩ => ⟨x, h2, h1⟩, fun ⟨x, h1, h2⟩ => ⟨x, h2, h1⟩⟩
theorem dv_nc {w : World} {p : Dv ByteArray} (h : Arr 1 eS w p.v p.l) : p.n = p.l.length := by
 obtain ⟨A, c, e, -⟩ := h
 injection e
set_option maxRecDepth 100000 in
set_option maxHeartbeats 4000000 in
theorem named42 (s : ByteArray) (w : World) (hs : okS s) : Calls Tryz.prog 42 #[.string s] w (Back (.bool (nameB s)) w) := by
 refine J_enter (fun _ => False) (vs := [.string s]) (k := 19) (l := [(0, .string s)]) Tryz.func42 rfl rfl Tryz.ntmps42 rfl rfl (Wd.start _) ?_
 refine s7 ?_
 rcases Classical.em (1 ≤ (s.size : Int) ∧ (s.size : Int) ≤ 32) with h0 | h0
 ·obtain ⟨c0, hg0⟩ : ∃ c, s.data.toList[0]'(by rw [ba_len]; omega) = c := ⟨_, rfl⟩
  have hb0 : s[0]? = some c0 := by rw [ba_get (by omega), hg0]
  refine s3 ?_
  refine aCB (fun w hw => within65 _ _ _ w) ?_
  refine aDecT ?_ h0
  refine s3 ?_
  refine aP (pByte (i := 0) (b := c0) rfl rfl rfl hb0) ?_
  refine s1 ?_
  refine JL_dec (fun h10 => ?_) (fun h10 => ?_)
  ·refine s10 ?_
   refine kJ [] ?_
   refine s6 ?_
   refine JR_one rfl (rr_tmp rfl) ?_
   intro w' hw
   have e : nameB s = false := by unfold nameB; rw [hdB_of (by omega) hg0, decide_eq_false (by omega : ¬ (97 ≤ c0.toNat ∧ c0.toNat ≤ 122))]; simp
   rw [e]; exact ⟨rfl, hw.bel⟩
  ·refine s3 ?_
   refine aP (pByte (i := 0) (b := c0) rfl rfl rfl hb0) ?_
   refine s1 ?_
   refine JL_dec (fun h15 => ?_) (fun h15 => ?_)
   ·refine s5 ?_
    refine kJ [] ?_
    refine s6 ?_
    refine JR_one rfl (rr_tmp rfl) ?_
    intro w' hw
    have e : nameB s = false := by unfold nameB; rw [hdB_of (by omega) hg0, decide_eq_false (by omega : ¬ (97 ≤ c0.toNat ∧ c0.toNat ≤ 122))]; simp
    rw [e]; exact ⟨rfl, hw.bel⟩
   ·refine s7 ?_
    refine kJ [(0, _)] ?_
    refine s2 ?_
    refine aCB (fun w hw => Tryz.strings_Trim s ⟨cutS.toArray⟩ w hs (by decide) cut_ascii) ?_
    refine s5 ?_
    refine JR_one rfl (rr_tmp rfl) ?_
    intro w' hw
    have e : nameB s = decide ((⟨(Lib.trimS s.data.toList cutS).toArray⟩ : ByteArray) = ⟨#[]⟩) := by
     unfold nameB
     rw [hdB_of (by omega) hg0, decide_eq_true h0, decide_eq_true (by omega : 97 ≤ c0.toNat ∧ c0.toNat ≤ 122), Bool.eq_iff_iff]
     simp only [Bool.true_and, decide_eq_true_eq]
     rw [← trim_nil]
     constructor
     ·intro h; rw [h]
     ·intro h; injection h with h; simpa using h
    rw [e]; exact ⟨rfl, hw.bel⟩
 ·refine s3 ?_
  refine aCB (fun w hw => within65 _ _ _ w) ?_
  refine aDecF ?_ h0
  refine s15 ?_
  refine kJ [] ?_
  refine s6 ?_
  refine JR_one rfl (rr_tmp rfl) ?_
  intro w' hw
  have e : nameB s = false := by unfold nameB; rw [decide_eq_false h0]; rfl
  rw [e]; exact ⟨rfl, hw.bel⟩
theorem ris_step {l : List ByteArray} {k : Nat} {x : ByteArray} (h : k < l.length) (hx : l[k]'h = x) : risL (prev l k) (l.drop k) = ((nameB x && match prev l k with | none => true | some y => ltS y x) && risL (prev l (k + 1)) (l.drop (k + 1))) := by
 rw [List.drop_eq_getElem_cons h, hx]
 have : prev l (k + 1) = some x := by unfold prev; rw [if_neg (by omega), Nat.add_sub_cancel, List.getElem?_eq_getElem h, hx]
 rw [this]; rfl
theorem prev_0 (l : List ByteArray) : prev l 0 = none := rfl
theorem prev_s {l : List ByteArray} {k : Nat} (h0 : 0 < k) (h : k - 1 < l.length) : prev l k = some (l[k - 1]'h) := by unfold prev; rw [if_neg (by omega), List.getElem?_eq_getElem h]
set_option maxRecDepth 100000 in
set_option maxHeartbeats 4000000 in
theorem rising62 (l : List ByteArray) (m : Int) (v : Value) (w : World) (hl : Arr 1 eS w v l) (hok : ∀ s ∈ l, okS s) : Calls Tryz.prog 62 #[v, .int .i64 m] w (Back (.bool (namesB l m)) w) := by
 obtain ⟨A, cap, rfl, -, ⟨hlb, -⟩, hA⟩ := hl
 refine J_enter (fun _ => False) (vs := [.slice A l.length cap, .int .i64 m]) (k := 33) (l := [(0, .slice A l.length cap), (1, .int .i64 m)]) Tryz.func62 rfl rfl Tryz.ntmps62 rfl rfl (Wd.start _) ?_
 refine s14 ?_
 refine xL (T := Nat) (fun k => k ≤ l.length ∧ risL none l = risL (prev l k) (l.drop k)) (fun k => [(0, .slice A l.length cap), (1, .int .i64 m), (7, .slice A l.length cap), (8, .int .i64 (l.length : Nat)), (9, .int .i64 (k : Nat))]) (fun k => []) (fun k => l.length - k) 0 ⟨Nat.zero_le _, rfl⟩ ?_
 rintro k ⟨hk, hr⟩
 refine s3 ?_
 refine JL_dec (fun h10 => ?_) (fun h10 => ?_)
 ·refine s9 ?_
  have hlt : k < l.length := by omega
  obtain ⟨b, p, rfl, hh⟩ := hA (by intro e; subst e; simp at hlt)
  obtain ⟨y, hy⟩ : ∃ y, l[k]'hlt = y := ⟨_, rfl⟩
  have hym : y ∈ l := by rw [← hy]; exact List.getElem_mem _
  refine s3 ?_
  refine aV (vHold (j := k) rfl rfl (fun h => h) hh hlt (by omega) (by rw [hy]; rfl)) ?_
  refine s5 ?_
  refine kJ [(0, _), (1, _), (5, _), (6, _), (7, _), (8, _), (9, _)] ?_
  refine s2 ?_
  refine aCB (fun w hw => named42 y w (hok y hym)) ?_
  refine JL_bool (fun h15 => ?_) (fun h15 => ?_)
  ·refine s4 ?_
   refine JL_dec (fun h19 => ?_) (fun h19 => ?_)
   ·obtain ⟨z, hz⟩ : ∃ z, l[k - 1]'(by omega) = z := ⟨_, rfl⟩
    refine s5 ?_
    refine aP (pIdxI (k - 1) rfl rfl rfl) ?_
    refine aV (vHold (j := k - 1) rfl rfl (fun h => h) hh (by omega) (by omega) (by rw [hz]; rfl)) ?_
    refine s1 ?_
    refine JL_bool (fun h27 => ?_) (fun h27 => ?_)
    ·refine s6 ?_
     refine kJ [] ?_
     refine s10 ?_
     refine JR_one rfl (rr_tmp rfl) ?_
     intro w' hw
     have hl2 : ltS z y = false := by have := ltS_tot y z; rw [h27] at this; simpa using this
     have e : namesB l m = false := by unfold namesB; rw [hr, ris_step hlt hy, prev_s (by omega) (by omega), hz]; simp [hl2]
     rw [e]; exact ⟨rfl, hw.bel⟩
    ·refine s8 ?_
     refine kJ [(0, _), (1, _), (7, _), (8, _), (9, _)] ?_
     refine s4 ?_
     have hl2 : ltS z y = true := by have := ltS_tot y z; rw [h27] at this; simpa using this
     have hn : risL none l = risL (prev l (k + 1)) (l.drop (k + 1)) := by rw [hr, ris_step hlt hy, prev_s (by omega) (by omega), hz]; simp [h15, hl2]
     exact xR (k + 1) ⟨by omega, hn⟩ (by omega)
   ·refine s16 ?_
    refine kJ [(0, _), (1, _), (7, _), (8, _), (9, _)] ?_
    refine s4 ?_
    have hn : risL none l = risL (prev l (k + 1)) (l.drop (k + 1)) := by rw [hr, ris_step hlt hy, show prev l k = none from by unfold prev; rw [if_pos (by omega)]]; simp [h15]
    exact xR (k + 1) ⟨by omega, hn⟩ (by omega)
  ·refine s18 ?_
   refine kJ [] ?_
   refine s10 ?_
   refine JR_one rfl (rr_tmp rfl) ?_
   intro w' hw
   have e : namesB l m = false := by unfold namesB; rw [hr, ris_step hlt hy, h15]; simp
   rw [e]; exact ⟨rfl, hw.bel⟩
 ·refine s10 ?_
  refine kJ [(0, _), (1, _)] ?_
  refine s9 ?_
  refine JR_one rfl (rr_tmp rfl) ?_
  intro w' hw
  have ek : k = l.length := by omega
  subst ek
  rw [List.drop_length] at hr
  have e : namesB l m = decide ((l.length : Int) ≤ m) := by unfold namesB; rw [hr]; rfl
  rw [e]; exact ⟨rfl, hw.bel⟩
set_option maxRecDepth 100000 in
set_option maxHeartbeats 4000000 in
theorem names66 (l : List ByteArray) (m : Int) (v : Value) (w : World) (hl : Arr 1 eS w v l) (hok : ∀ s ∈ l, okS s) : Calls Tryz.prog 66 #[v, .int .i64 m] w (Back (.bool (namesB l m)) w) := by
 obtain ⟨A, cap, rfl, -, ⟨hlb, -⟩, hA⟩ := hl
 refine J_enter (fun _ => False) (vs := [.slice A l.length cap, .int .i64 m]) (k := 36) (l := [(0, .slice A l.length cap), (1, .int .i64 m)]) Tryz.func66 rfl rfl Tryz.ntmps66 rfl rfl (Wd.start _) ?_
 refine s12 ?_
 refine xL (T := Nat) (fun k => k ≤ l.length ∧ risL none l = risL (prev l k) (l.drop k)) (fun k => [(0, .slice A l.length cap), (1, .int .i64 m), (5, .int .i64 (k : Nat))]) (fun k => []) (fun k => l.length - k) 0 ⟨Nat.zero_le _, rfl⟩ ?_
 rintro k ⟨hk, hr⟩
 refine s7 ?_
 refine JL_dec (fun h9 => ?_) (fun h9 => ?_)
 ·refine s8 ?_
  have hlt : k < l.length := by omega
  obtain ⟨b, p, rfl, hh⟩ := hA (by intro e; subst e; simp at hlt)
  obtain ⟨y, hy⟩ : ∃ y, l[k]'hlt = y := ⟨_, rfl⟩
  have hym : y ∈ l := by rw [← hy]; exact List.getElem_mem _
  refine kJ [(0, _), (1, _), (5, _)] ?_
  refine xD [0, 1, 2, 3, 4] [3, 13, 18] ?_
  refine s3 ?_
  refine dL rfl (vHold (j := k) rfl rfl (fun h => h) hh hlt (by omega) (by rw [hy]; rfl)) ?_
  refine dCB rfl (fun w hw => Name46 y w) ?_
  refine dBool (fun h16 => ?_) (fun h16 => ?_)
  ·refine dO [5, 6, 7, 8] ?_
   refine s4 ?_
   refine dDec (fun h20 => ?_) (fun h20 => ?_)
   ·obtain ⟨z, hz⟩ : ∃ z, l[k - 1]'(by omega) = z := ⟨_, rfl⟩
    refine dO [9, 10, 11, 12, 13, 14, 15, 16, 17, 18, 19] ?_
    refine s4 ?_
    refine dL rfl (vHold (j := k) rfl rfl (fun h => h) hh hlt (by omega) (by rw [hy]; rfl)) ?_
    refine s3 ?_
    refine dP rfl (pIdxI (k - 1) rfl rfl rfl) ?_
    refine dL rfl (vHold (j := k - 1) rfl rfl (fun h => h) hh (by omega) (by omega) (by rw [hz]; rfl)) ?_
    refine s1 ?_
    refine dBool (fun h31 => ?_) (fun h31 => ?_)
    ·refine dO [20, 21] ?_
     refine s6 ?_
     refine kJ [] ?_
     refine s10 ?_
     refine JR_one rfl (rr_tmp rfl) ?_
     intro w' hw
     have hl2 : ltS z y = false := by have := ltS_tot y z; rw [h31] at this; simpa using this
     have e : namesB l m = false := by unfold namesB; rw [hr, ris_step hlt hy, prev_s (by omega) (by omega), hz]; simp [hl2]
     rw [e]; exact ⟨rfl, hw.bel⟩
    ·refine dO [20, 21] ?_
     refine s8 ?_
     refine kJ [(0, _), (1, _), (5, _)] ?_
     refine s5 ?_
     have hl2 : ltS z y = true := by have := ltS_tot y z; rw [h31] at this; simpa using this
     have hn : risL none l = risL (prev l (k + 1)) (l.drop (k + 1)) := by rw [hr, ris_step hlt hy, prev_s (by omega) (by omega), hz]; simp [h16, hl2]
     exact xR (k + 1) ⟨by omega, hn⟩ (by omega)
   ·refine dO [9, 10, 11, 12, 13, 14, 15, 16, 17, 18, 19, 20, 21] ?_
    refine s19 ?_
    refine kJ [(0, _), (1, _), (5, _)] ?_
    refine s5 ?_
    have hn : risL none l = risL (prev l (k + 1)) (l.drop (k + 1)) := by rw [hr, ris_step hlt hy, show prev l k = none from by unfold prev; rw [if_pos (by omega)]]; simp [h16]
    exact xR (k + 1) ⟨by omega, hn⟩ (by omega)
  ·refine dO [5, 6, 7, 8, 9, 10, 11, 12, 13, 14, 15, 16, 17, 18, 19, 20, 21] ?_
   refine s21 ?_
   refine kJ [] ?_
   refine s10 ?_
   refine JR_one rfl (rr_tmp rfl) ?_
   intro w' hw
   have e : namesB l m = false := by unfold namesB; rw [hr, ris_step hlt hy, h16]; simp
   rw [e]; exact ⟨rfl, hw.bel⟩
 ·refine s9 ?_
  refine kJ [(0, _), (1, _)] ?_
  refine s9 ?_
  refine JR_one rfl (rr_tmp rfl) ?_
  intro w' hw
  have ek : k = l.length := by omega
  subst ek
  rw [List.drop_length] at hr
  have e : namesB l m = decide ((l.length : Int) ≤ m) := by unfold namesB; rw [hr]; rfl
  rw [e]; exact ⟨rfl, hw.bel⟩
set_option maxRecDepth 100000 in
set_option maxHeartbeats 4000000 in
theorem Facts74 (l : List ByteArray) (v : Value) (w : World) (hl : Arr 1 eS w v l) (hok : ∀ s ∈ l, okS s) : Calls Tryz.prog 74 #[v] w (Back (.bool (namesB l 64)) w) := by
 refine J_enter (fun _ => False) (vs := [v]) (k := 4) (l := [(0, v)]) Tryz.func74 rfl rfl Tryz.ntmps74 rfl rfl (Wd.start _) ?_
 refine s8 ?_
 refine aCB (fun w hw => names66 l 64 v w (hl.up ES hw.bel) hok) ?_
 refine s4 ?_
 refine JR_one rfl (rr_tmp rfl) ?_
 intro w' hw
 exact ⟨rfl, hw.bel⟩
end Go.Proofs.YtjkolebffbeeeaaGreatDoor
